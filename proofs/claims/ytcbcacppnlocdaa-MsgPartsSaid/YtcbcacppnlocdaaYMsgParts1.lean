/-
  What the row of MsgParts stands on, part 1: contracts of the functions that it reaches, and plain lemmas.
-/
import Derived.Sort.Walk0
import Derived.Laws.Cover1
import Derived.Lib.MinMaxS
import Derived.Test.YtcbcacppnlocdaaProg
import Derived.Below
import Derived.Deep.Draws
import Derived.Deep.AppendLies
import Derived.Maps.AppendAt
import Derived.OwnWalk
import Derived.Laws.BytesArg
import Derived.Laws.MakeOwn
import Derived.Laws.OwnMore
import Derived.Deep.OwnRows
import Derived.Tactics
import Derived.Lib.ConvBytes
import Derived.Laws.Slices
import Derived.WalkKit
import Derived.KernelRfl
import Derived.RowKit3
import Derived.Deep.LoopGhost
import Derived.Deep.QuietTactic
import Derived.BigQuiet
import Derived.WideLaws
import Derived.Deep.DeepCutAuto
import Derived.Deep.CutBlock
import Derived.Deep.RegionHeld3
import Derived.Laws.Rows
import Derived.Lib.AppendStr
import Derived.ArgAppend
import Derived.Laws.IdiomCopy
import Derived.OrdersHeld
import Derived.Laws.BitsLemmas
import Derived.RowKit
import Derived.Test.YtcbcacppnlocdaaYMsgPartsWWords
import Derived.Test.YtcbcacppnlocdaaYMsgPartsWLast
import Derived.Test.YtcbcacppnlocdaaYMsgPartsWTab
import Derived.Test.YtcbcacppnlocdaaYMsgPartsWApart
import Derived.Test.YtcbcacppnlocdaaYMsgPartsWFoot
import Derived.Test.YtcbcacppnlocdaaYMsgPartsWKept
import Derived.Test.YtcbcacppnlocdaaYMsgPartsWShare
import Derived.Test.YtcbcacppnlocdaaYMsgPartsWN
import Derived.Test.YtcbcacppnlocdaaYMsgPartsWEqStruct
import Derived.Test.YtcbcacppnlocdaaYMsgPartsWRepsOne
import Derived.Test.YtcbcacppnlocdaaYMsgPartsWGuard
import Derived.Test.YtcbcacppnlocdaaYMsgPartsWMore
namespace Go.Proofs.Ytcbcacppnlocdaa.BL
set_option linter.unusedSimpArgs false
set_option linter.unusedVariables false
abbrev B := List UInt8
theorem irr (a : B) : ¬ a < a := List.lt_irrefl a
theorem tr {a b c : B} (h : a < b) (k : b < c) : a < c := List.lt_trans h k
theorem tri (a b : B) : a < b ∨ a = b ∨ b < a := by
  by_cases h : a < b
  · exact .inl h
  · have h2 : b ≤ a := Std.not_lt.mp h
    rcases List.le_iff_lt_or_eq.mp h2 with h3 | h3
    · exact .inr (.inr h3)
    · exact .inr (.inl h3.symm)
theorem cons_lt (a b : UInt8) (x y : B) : a :: x < b :: y ↔ a < b ∨ (a = b ∧ x < y) := List.cons_lt_cons_iff
theorem nil_lt (a : UInt8) (x : B) : ([] : B) < a :: x := List.nil_lt_cons a x
theorem not_lt_nil (x : B) : ¬ x < [] := List.not_lt_nil x
theorem u_lt (a b : UInt8) : a < b ↔ a.toNat < b.toNat := UInt8.lt_iff_toNat_lt
theorem u_eq (a b : UInt8) : a = b ↔ a.toNat = b.toNat := ⟨fun h => by rw [h], UInt8.toNat_inj.1⟩
def succL : B → Option B
  | [] => none
  | b :: p => match succL p with
    | some q => some (b :: q)
    | none => if b = 255 then none else some [b + 1]
theorem succL_cons (b : UInt8) (p : B) : succL (b :: p) = match succL p with | some q => some (b :: q) | none => if b = 255 then none else some [b + 1] := rfl
def under (k : B) : Option B → Prop
  | none => True
  | some q => k < q
theorem add1 {b : UInt8} (h : b ≠ 255) : (b + 1).toNat = b.toNat + 1 := by
  have h1 : b.toNat ≠ 255 := fun e => h (by rw [u_eq]; exact e)
  have h2 := b.toNat_lt
  rw [UInt8.toNat_add]
  show (b.toNat + 1) % 256 = _
  omega
theorem between (p k : B) : (¬ k < p ∧ under k (succL p)) ↔ p <+: k := by
  induction p generalizing k with
  | nil => simp [succL, under, List.nil_prefix]
  | cons b p ih =>
    cases k with
    | nil => simp [nil_lt]
    | cons c k =>
      rw [List.cons_prefix_cons, ← ih k, cons_lt]
      rw [succL_cons]
      cases hq : succL p with
      | some q =>
        show (_ ∧ c :: k < b :: q) ↔ _
        rw [cons_lt]
        show _ ↔ (_ ∧ _ ∧ k < q)
        simp only [u_lt, u_eq]
        constructor
        · rintro ⟨h1, h2⟩
          rcases h2 with h2 | ⟨h2, h3⟩
          · exact absurd (.inl h2) h1
          · exact ⟨h2.symm, fun h => h1 (.inr ⟨h2, h⟩), h3⟩
        · rintro ⟨h1, h2, h3⟩
          refine ⟨fun h => ?_, .inr ⟨h1.symm, h3⟩⟩
          rcases h with h | ⟨_, h⟩
          · omega
          · exact h2 h
      | none =>
        by_cases hb : b = 255
        · subst hb
          simp only [if_true]
          show (_ ∧ True) ↔ (_ ∧ _ ∧ True)
          simp only [u_lt, u_eq]
          have hc := c.toNat_lt
          have e : (255 : UInt8).toNat = 255 := rfl
          rw [e]
          constructor
          · rintro ⟨h1, _⟩
            have h2 : c.toNat = 255 := by
              rcases Nat.lt_or_ge c.toNat 255 with h | h
              · exact absurd (.inl h) h1
              · omega
            exact ⟨h2.symm, fun h => h1 (.inr ⟨h2, h⟩), trivial⟩
          · rintro ⟨h1, h2, _⟩
            refine ⟨fun h => ?_, trivial⟩
            rcases h with h | ⟨_, h⟩
            · omega
            · exact h2 h
        · rw [if_neg hb]
          show (_ ∧ c :: k < [b + 1]) ↔ (_ ∧ _ ∧ True)
          rw [cons_lt]
          simp only [u_lt, u_eq, add1 hb]
          constructor
          · rintro ⟨h1, h2⟩
            rcases h2 with h2 | ⟨_, h3⟩
            · have h4 : c.toNat = b.toNat := by
                rcases Nat.lt_or_ge c.toNat b.toNat with h | h
                · exact absurd (.inl h) h1
                · omega
              exact ⟨h4.symm, fun h => h1 (.inr ⟨h4, h⟩), trivial⟩
            · exact absurd h3 (not_lt_nil _)
          · rintro ⟨h1, h2, _⟩
            refine ⟨fun h => ?_, .inl (by omega)⟩
            rcases h with h | ⟨_, h⟩
            · omega
            · exact h2 h
theorem succL_snoc (p : B) (b : UInt8) : succL (p ++ [b]) = if b = 255 then succL p else some (p ++ [b + 1]) := by
  induction p with
  | nil => simp [succL]
  | cons a p ih =>
    rw [List.cons_append, succL, ih]
    by_cases hb : b = 255
    · rw [if_pos hb, if_pos hb]; rfl
    · rw [if_neg hb, if_neg hb]; rfl
theorem next_one (p k : B) : (¬ k < p ∧ k < p ++ [0]) ↔ k = p := by
  induction p generalizing k with
  | nil =>
    cases k with
    | nil => simp
    | cons c k =>
      simp only [List.nil_append, cons_lt, reduceCtorEq, iff_false, not_and, not_or]
      intro _
      refine ⟨fun h => ?_, fun _ h => not_lt_nil _ h⟩
      rw [u_lt] at h
      have e0 : (0 : UInt8).toNat = 0 := rfl
      omega
  | cons b p ih =>
    cases k with
    | nil => simp [nil_lt]
    | cons c k =>
      rw [List.cons_append, cons_lt, cons_lt, List.cons.injEq, ← ih k]
      simp only [u_lt, u_eq]
      constructor
      · rintro ⟨h1, h2⟩
        rcases h2 with h2 | ⟨h2, h3⟩
        · exact absurd (.inl h2) h1
        · exact ⟨h2, fun h => h1 (.inr ⟨h2, h⟩), h3⟩
      · rintro ⟨h1, h2, h3⟩
        refine ⟨fun h => ?_, .inr ⟨h1, h3⟩⟩
        rcases h with h | ⟨_, h⟩
        · omega
        · exact h2 h
end Go.Proofs.Ytcbcacppnlocdaa.BL
namespace Go.Proofs.Ytcbcacppnlocdaa
set_option linter.unusedSimpArgs false
set_option linter.unusedVariables false
open Go
theorem bl_of {x y : List UInt8} : (Op.bytesLess x y || x == y) = !(Op.bytesLess y x) := by
  rw [Proofs.bytesLess_eq, Proofs.bytesLess_eq, Bool.eq_iff_iff]
  simp only [Bool.or_eq_true, decide_eq_true_eq, beq_iff_eq, Bool.not_eq_true', decide_eq_false_iff_not]
  constructor
  · rintro (h | h)
    · exact fun h2 => absurd (List.lt_trans h h2) (List.lt_irrefl _)
    · subst h; exact List.lt_irrefl _
  · intro h
    have h2 : x ≤ y := Std.not_lt.mp h
    rcases List.le_iff_lt_or_eq.mp h2 with h3 | h3
    · exact Or.inl h3
    · exact Or.inr h3
@[simp] theorem bne_nil_u8 (l : List UInt8) : (l != []) = !l.isEmpty := by cases l <;> rfl
@[go_sem high] theorem binOp_leqs (t : TypeId) (a b : ByteArray) : binOp .leq t (.string a) (.string b) = pure (.bool (!(Op.bytesLess b.toList a.toList))) := by rw [binOp_string_leq, bl_of]
@[go_sem high] theorem binOp_gtrs (t : TypeId) (a b : ByteArray) : binOp .gtr t (.string a) (.string b) = pure (.bool (Op.bytesLess b.toList a.toList)) := by rw [binOp_string_gtr, bl_of, Bool.not_not]
end Go.Proofs.Ytcbcacppnlocdaa
namespace Go.Proofs.Ytcbcacppnlocdaa.PAll
open Go.RowKit Go.Proofs.YtcbcacppnlocdaaW.PrintWords Go.Proofs.YtcbcacppnlocdaaW.PrintLast Go.Proofs.YtcbcacppnlocdaaW.PrintMore
attribute [local go_sem] max2_int min2_int max_two min_two max_three min_three max_four min_four   -- for this text's walks alone
set_option linter.unusedVariables false
set_option linter.unusedSimpArgs false
set_option maxRecDepth 100000
def errW : Option Int → Value
  | none => .nilIface
  | some c => .iface 0 (.int .i64 c)
theorem errW_none : errW none = .nilIface := rfl
theorem errW_some (c : Int) : errW (some c) = .iface 0 (.int .i64 c) := rfl
theorem info5 : (Try.prog.info? 5).map (fun i => (i.zero, i.size, i.bytes)) = some (some (.int .u8 0), 1, 1) := by kernel_rfl
theorem info26 : (Try.prog.info? 26).map (fun i => (i.zero, i.size, i.bytes)) = some (some (.agg #[(.int .u8 0), (.string ⟨#[]⟩), (.string ⟨#[]⟩), (.int .u32 0), (.int .u16 0), (.string ⟨#[]⟩)]), 6, 64) := by kernel_rfl
structure S26 where
  f0 : Int
  f1 : ByteArray
  f2 : ByteArray
  f3 : Int
  f4 : Int
  f5 : ByteArray
def z26 : S26 := ⟨(0 : Int), (⟨#[]⟩ : ByteArray), (⟨#[]⟩ : ByteArray), (0 : Int), (0 : Int), (⟨#[]⟩ : ByteArray)⟩
def k26 : Kd S26 := Kd.iso (Kd.pair (Kd.int .u8) (Kd.pair Kd.string (Kd.pair Kd.string (Kd.pair (Kd.int .u32) (Kd.pair (Kd.int .u16) Kd.string))))) (fun x : S26 => (x.f0, x.f1, x.f2, x.f3, x.f4, x.f5))
theorem k26_open {w : World} {x : S26} {cs : List Value} (h : k26.K w x cs) : cs = [.int .u8 x.f0, .string x.f1, .string x.f2, .int .u32 x.f3, .int .u16 x.f4, .string x.f5] := by
  obtain ⟨_, _, rfl, rfl, ⟨_, _, rfl, rfl, ⟨_, _, rfl, rfl, ⟨_, _, rfl, rfl, ⟨_, _, rfl, rfl, rfl⟩⟩⟩⟩⟩ := h
  exact rfl
theorem k26_mk (w : World) (x : S26)  : k26.K w x [.int .u8 x.f0, .string x.f1, .string x.f2, .int .u32 x.f3, .int .u16 x.f4, .string x.f5] := ⟨[.int .u8 x.f0], [.string x.f1, .string x.f2, .int .u32 x.f3, .int .u16 x.f4, .string x.f5], rfl, rfl, ⟨[.string x.f1], [.string x.f2, .int .u32 x.f3, .int .u16 x.f4, .string x.f5], rfl, rfl, ⟨[.string x.f2], [.int .u32 x.f3, .int .u16 x.f4, .string x.f5], rfl, rfl, ⟨[.int .u32 x.f3], [.int .u16 x.f4, .string x.f5], rfl, rfl, ⟨[.int .u16 x.f4], [.string x.f5], rfl, rfl, rfl⟩⟩⟩⟩⟩
theorem k26_mkM (w : World) (base : Nat) (ok : Nat → Prop) (x : S26)  : k26.M w base ok x [.int .u8 x.f0, .string x.f1, .string x.f2, .int .u32 x.f3, .int .u16 x.f4, .string x.f5] := ⟨[.int .u8 x.f0], [.string x.f1, .string x.f2, .int .u32 x.f3, .int .u16 x.f4, .string x.f5], rfl, rfl, ⟨[.string x.f1], [.string x.f2, .int .u32 x.f3, .int .u16 x.f4, .string x.f5], rfl, rfl, ⟨[.string x.f2], [.int .u32 x.f3, .int .u16 x.f4, .string x.f5], rfl, rfl, ⟨[.int .u32 x.f3], [.int .u16 x.f4, .string x.f5], rfl, rfl, ⟨[.int .u16 x.f4], [.string x.f5], rfl, rfl, rfl⟩⟩⟩⟩⟩
def rd_T26 (xs : List S26) (i : Int) : S26 := xs.getD i.toNat z26
theorem at_T26 {w : World} {A : Option Addr} {n : Nat} {xs : List S26} (h : Kd.C k26 w A n xs) (i : Int) (h0 : 0 ≤ i) (h1 : i < n) : ∃ ad , A = some ad ∧ w.cell? (ad.add (i.toNat * 6)) = some (.int .u8 (rd_T26 xs i).f0) ∧ w.cell? ⟨(ad.add (i.toNat * 6)).block, (ad.add (i.toNat * 6)).off + 1, none⟩ = some (.string (rd_T26 xs i).f1) ∧ w.cell? ⟨(ad.add (i.toNat * 6)).block, (ad.add (i.toNat * 6)).off + 2, none⟩ = some (.string (rd_T26 xs i).f2) ∧ w.cell? ⟨(ad.add (i.toNat * 6)).block, (ad.add (i.toNat * 6)).off + 3, none⟩ = some (.int .u32 (rd_T26 xs i).f3) ∧ w.cell? ⟨(ad.add (i.toNat * 6)).block, (ad.add (i.toNat * 6)).off + 4, none⟩ = some (.int .u16 (rd_T26 xs i).f4) ∧ w.cell? ⟨(ad.add (i.toNat * 6)).block, (ad.add (i.toNat * 6)).off + 5, none⟩ = some (.string (rd_T26 xs i).f5) := by
  obtain ⟨ad, c, e, _, hK, hc0⟩ := Kd.C_get h z26 i h0 h1
  have hc : ∀ j u, c[j]? = some u → w.cell? (ad.add (i.toNat * 6 + j)) = some u := hc0
  obtain rfl := k26_open hK
  exact ⟨ad, e, hc 0 _ rfl, by rw [← add_field _ _ 1 (by omega)]; exact hc 1 _ rfl, by rw [← add_field _ _ 2 (by omega)]; exact hc 2 _ rfl, by rw [← add_field _ _ 3 (by omega)]; exact hc 3 _ rfl, by rw [← add_field _ _ 4 (by omega)]; exact hc 4 _ rfl, by rw [← add_field _ _ 5 (by omega)]; exact hc 5 _ rfl⟩
structure S66 where
  f0 : ByteArray
  f1 : ByteArray
def z66 : S66 := ⟨(⟨#[]⟩ : ByteArray), (⟨#[]⟩ : ByteArray)⟩
def k66 : Kd S66 := Kd.iso (Kd.pair Kd.string Kd.string) (fun x : S66 => (x.f0, x.f1))
theorem k66_open {w : World} {x : S66} {cs : List Value} (h : k66.K w x cs) : cs = [.string x.f0, .string x.f1] := by
  obtain ⟨_, _, rfl, rfl, rfl⟩ := h
  exact rfl
theorem k66_mk (w : World) (x : S66)  : k66.K w x [.string x.f0, .string x.f1] := ⟨[.string x.f0], [.string x.f1], rfl, rfl, rfl⟩
def rd_T66 (xs : List S66) (i : Int) : S66 := xs.getD i.toNat z66
theorem at_T66 {w : World} {A : Option Addr} {n : Nat} {xs : List S66} (h : Kd.C k66 w A n xs) (i : Int) (h0 : 0 ≤ i) (h1 : i < n) : ∃ ad , A = some ad ∧ w.cell? (ad.add (i.toNat * 2)) = some (.string (rd_T66 xs i).f0) ∧ w.cell? ⟨(ad.add (i.toNat * 2)).block, (ad.add (i.toNat * 2)).off + 1, none⟩ = some (.string (rd_T66 xs i).f1) := by
  obtain ⟨ad, c, e, _, hK, hc0⟩ := Kd.C_get h z66 i h0 h1
  have hc : ∀ j u, c[j]? = some u → w.cell? (ad.add (i.toNat * 2 + j)) = some u := hc0
  obtain rfl := k66_open hK
  exact ⟨ad, e, hc 0 _ rfl, by rw [← add_field _ _ 1 (by omega)]; exact hc 1 _ rfl⟩
end Go.Proofs.Ytcbcacppnlocdaa.PAll
namespace Go.Proofs.Ytcbcacppnlocdaa.PAll
open Go.RowKit Go.Proofs.YtcbcacppnlocdaaW.PrintWords Go.Proofs.YtcbcacppnlocdaaW.PrintLast Go.Proofs.YtcbcacppnlocdaaW.PrintMore
attribute [local go_sem] max2_int min2_int max_two min_two max_three min_three max_four min_four   -- for this text's walks alone
set_option linter.unusedVariables false
set_option linter.unusedSimpArgs false
set_option maxRecDepth 100000
def key_Empty.f (a0_0 : ByteArray) (a0_1 : ByteArray) (a0_2 : Bool) : Option (Bool) := if a0_2 = true then (some (!(Op.bytesLess a0_0.toList a0_1.toList))) else (some false)
set_option maxHeartbeats 8000000 in
set_option maxRecDepth 100000 in
theorem key_Empty.calls (a0_0 : ByteArray) (a0_1 : ByteArray) (a0_2 : Bool) (r : Bool) (w : World) (h : key_Empty.f a0_0 a0_1 a0_2 = some r) :
    Calls Try.prog 35 #[.agg #[.string a0_0, .string a0_1, .bool a0_2]] w fun e w' => e = .returned (.bool r) ∧ Below w.heap.size w w' := by
  have hu35 := Try.underlying35
  have HB := Aside0.mk (Below.refl w.heap.size w)
  have H : (if a0_2 = true then (some (!(Op.bytesLess a0_0.toList a0_1.toList))) else (some false)) = some r := h
  clear h
  by_cases c2 : a0_2 = true
  · subst c2
    have H1 : (some (!(Op.bytesLess a0_0.toList a0_1.toList))) = some r := by rw [if_pos rfl] at H; exact H
    clear H
    have H := H1
    clear H1
    obtain rfl := Option.some.inj H
    go_enter Try.func35, Try.ntmps35
    go_wp2_with (first | ((with_reducible refine gate_dst (N := 1) rfl ?_); refine box_event ?hg (N := 1) ?hd (cs := #[.string a0_0, .string a0_1, .bool true]) (t := 35) ?hr ?_; (case hd => rfl); (case hg => rfl); (case hr => first | (go_simp; done) | (go_simp; rfl)); intro gb131 hg w3 hbox hb; have n0_ := Aside0.mk (below_step (by repeat (first | (with_reducible first | exact HB.out | apply below_alloc | apply pw_below_drewN | apply below_drew1) | exact HB.out)) hb); have n1_ := Aside0.mk (hbox); have n2_ := Aside0.mk ((by rw [hg]; exact (below_size (by repeat (first | (with_reducible first | exact HB.out | apply below_alloc | apply pw_below_drewN | apply below_drew1) | exact HB.out))) : w.heap.size ≤ gb131)); have n3_ := Aside0.mk ((by rw [hg]; exact (below_size (by repeat (first | (with_reducible first | exact HB.out | apply below_alloc | apply pw_below_drewN | apply below_drew1) | exact HB.out))) : w.heap.size ≤ gb131)); clear HB; have HB := n0_; have BK131 := n1_; have GW131 := n2_; have GE131 := n3_; clear n0_ n1_ n2_ n3_; clear hb hbox hg; have hcz4_0 : w3.cell? ⟨gb131, 0, none⟩ = some (.string a0_0) := (blk_cell BK131.out 0).trans rfl; have hcz4_1 : w3.cell? ⟨gb131, 1, none⟩ = some (.string a0_1) := (blk_cell BK131.out 1).trans rfl; have hcz4_2 : w3.cell? ⟨gb131, 2, none⟩ = some (.bool true) := (blk_cell BK131.out 2).trans rfl; have hfz4_0 := blk_frozen BK131.out 0; have hfz4_1 := blk_frozen BK131.out 1; have hfz4_2 := blk_frozen BK131.out 2))
    go_ret
    exact ⟨by first | rfl | (simp [errW_none, errW_some] <;> rfl) | (simp [*, errW_none, errW_some] <;> rfl), by repeat (first | (with_reducible first | exact HB.out | apply below_alloc | apply pw_below_drewN | apply below_drew1 | refine below_set ?_ GE131.out) | exact HB.out)⟩
  · replace c2 := Bool.eq_false_iff.mpr c2
    subst c2
    have H1 : (some false) = some r := by rw [if_neg (show ¬ (false = true) by decide)] at H; exact H
    clear H
    have H := H1
    clear H1
    obtain rfl := Option.some.inj H
    go_enter Try.func35, Try.ntmps35
    go_wp2_with (first | ((with_reducible refine gate_dst (N := 1) rfl ?_); refine box_event ?hg (N := 1) ?hd (cs := #[.string a0_0, .string a0_1, .bool false]) (t := 35) ?hr ?_; (case hd => rfl); (case hg => rfl); (case hr => first | (go_simp; done) | (go_simp; rfl)); intro gb131 hg w5 hbox hb; have n0_ := Aside0.mk (below_step (by repeat (first | (with_reducible first | exact HB.out | apply below_alloc | apply pw_below_drewN | apply below_drew1) | exact HB.out)) hb); have n1_ := Aside0.mk (hbox); have n2_ := Aside0.mk ((by rw [hg]; exact (below_size (by repeat (first | (with_reducible first | exact HB.out | apply below_alloc | apply pw_below_drewN | apply below_drew1) | exact HB.out))) : w.heap.size ≤ gb131)); have n3_ := Aside0.mk ((by rw [hg]; exact (below_size (by repeat (first | (with_reducible first | exact HB.out | apply below_alloc | apply pw_below_drewN | apply below_drew1) | exact HB.out))) : w.heap.size ≤ gb131)); clear HB; have HB := n0_; have BK131 := n1_; have GW131 := n2_; have GE131 := n3_; clear n0_ n1_ n2_ n3_; clear hb hbox hg; have hcz6_0 : w5.cell? ⟨gb131, 0, none⟩ = some (.string a0_0) := (blk_cell BK131.out 0).trans rfl; have hcz6_1 : w5.cell? ⟨gb131, 1, none⟩ = some (.string a0_1) := (blk_cell BK131.out 1).trans rfl; have hcz6_2 : w5.cell? ⟨gb131, 2, none⟩ = some (.bool false) := (blk_cell BK131.out 2).trans rfl; have hfz6_0 := blk_frozen BK131.out 0; have hfz6_1 := blk_frozen BK131.out 1; have hfz6_2 := blk_frozen BK131.out 2))
    go_ret
    exact ⟨by first | rfl | (simp [errW_none, errW_some] <;> rfl) | (simp [*, errW_none, errW_some] <;> rfl), by repeat (first | (with_reducible first | exact HB.out | apply below_alloc | apply pw_below_drewN | apply below_drew1 | refine below_set ?_ GE131.out) | exact HB.out)⟩
end Go.Proofs.Ytcbcacppnlocdaa.PAll
namespace Go.Proofs.Ytcbcacppnlocdaa.PAll
open Go.RowKit Go.Proofs.YtcbcacppnlocdaaW.PrintWords Go.Proofs.YtcbcacppnlocdaaW.PrintLast Go.Proofs.YtcbcacppnlocdaaW.PrintMore
attribute [local go_sem] max2_int min2_int max_two min_two max_three min_three max_four min_four   -- for this text's walks alone
set_option linter.unusedVariables false
set_option linter.unusedSimpArgs false
set_option maxRecDepth 100000
def key_none.f  : Option (ByteArray × ByteArray × Bool) := some ((⟨#[]⟩ : ByteArray), (⟨#[]⟩ : ByteArray), true)
set_option maxHeartbeats 8000000 in
set_option maxRecDepth 100000 in
theorem key_none.calls  (r1 : ByteArray) (r2 : ByteArray) (r3 : Bool) (w : World) (h : key_none.f  = some (r1, r2, r3)) :
    Calls Try.prog 49 #[] w fun e w' => e = .returned (.agg #[.string r1, .string r2, .bool r3]) ∧ Below w.heap.size w w' := by
  have hu35 := Try.underlying35
  have HB := Aside0.mk (Below.refl w.heap.size w)
  have H : (some ((⟨#[]⟩ : ByteArray), (⟨#[]⟩ : ByteArray), true)) = some (r1, r2, r3) := h
  clear h
  simp only [Option.some.injEq, Prod.mk.injEq] at H
  obtain ⟨rfl, rfl, rfl⟩ := H
  go_enter Try.func49, Try.ntmps49
  go_wp2_with (first | ((with_reducible refine gate_dst (N := 0) rfl ?_); refine box_event ?hg (N := 0) ?hd (cs := #[.string (⟨#[]⟩ : ByteArray), .string (⟨#[]⟩ : ByteArray), .bool false]) (t := 35) ?hr ?_; (case hd => rfl); (case hg => rfl); (case hr => first | (go_simp; done) | (go_simp; rfl)); intro gb132 hg w1 hbox hb; have n0_ := Aside0.mk (below_step (by repeat (first | (with_reducible first | exact HB.out | apply below_alloc | apply pw_below_drewN | apply below_drew1) | exact HB.out)) hb); have n1_ := Aside0.mk (hbox); have n2_ := Aside0.mk ((by rw [hg]; exact (below_size (by repeat (first | (with_reducible first | exact HB.out | apply below_alloc | apply pw_below_drewN | apply below_drew1) | exact HB.out))) : w.heap.size ≤ gb132)); have n3_ := Aside0.mk ((by rw [hg]; exact (below_size (by repeat (first | (with_reducible first | exact HB.out | apply below_alloc | apply pw_below_drewN | apply below_drew1) | exact HB.out))) : w.heap.size ≤ gb132)); clear HB; have HB := n0_; have BK132 := n1_; have GW132 := n2_; have GE132 := n3_; clear n0_ n1_ n2_ n3_; clear hb hbox hg; have hcz2_0 : w1.cell? ⟨gb132, 0, none⟩ = some (.string (⟨#[]⟩ : ByteArray)) := (blk_cell BK132.out 0).trans rfl; have hcz2_1 : w1.cell? ⟨gb132, 1, none⟩ = some (.string (⟨#[]⟩ : ByteArray)) := (blk_cell BK132.out 1).trans rfl; have hcz2_2 : w1.cell? ⟨gb132, 2, none⟩ = some (.bool false) := (blk_cell BK132.out 2).trans rfl; have hfz2_0 := blk_frozen BK132.out 0; have hfz2_1 := blk_frozen BK132.out 1; have hfz2_2 := blk_frozen BK132.out 2))
  refine bodyPost_ret (results_cell_row rfl _ _ gb132 35 #[.string (⟨#[]⟩ : ByteArray), .string (⟨#[]⟩ : ByteArray), .bool true] (0, 0) _ rfl (by (with_reducible repeat (first | refine blk_drewN ?_ _ | refine blk_drew ?_ | refine blk_alloc ?_ _)); refine blk_put (cs := #[.string (⟨#[]⟩ : ByteArray), .string (⟨#[]⟩ : ByteArray), .bool false]) ?_ 2 _ rfl; (with_reducible repeat (first | refine blk_drewN ?_ _ | refine blk_drew ?_ | refine blk_alloc ?_ _)); refine blk_put (cs := #[.string (⟨#[]⟩ : ByteArray), .string (⟨#[]⟩ : ByteArray), .bool false]) ?_ 1 _ rfl; (with_reducible repeat (first | refine blk_drewN ?_ _ | refine blk_drew ?_ | refine blk_alloc ?_ _)); refine blk_put (cs := #[.string (⟨#[]⟩ : ByteArray), .string (⟨#[]⟩ : ByteArray), .bool false]) ?_ 0 _ rfl; (with_reducible repeat (first | refine blk_drewN ?_ _ | refine blk_drew ?_ | refine blk_alloc ?_ _)); exact BK132.out) Try.underlying35 rfl (by kernel_rfl)) rfl ?_
  exact ⟨by first | rfl | (simp [errW_none, errW_some] <;> rfl) | (simp [*, errW_none, errW_some] <;> rfl), by repeat (first | (with_reducible first | exact HB.out | apply below_alloc | apply pw_below_drewN | apply below_drew1 | refine below_set ?_ GE132.out) | exact HB.out)⟩
end Go.Proofs.Ytcbcacppnlocdaa.PAll
namespace Go.Proofs.Ytcbcacppnlocdaa.PAll
open Go.RowKit Go.Proofs.YtcbcacppnlocdaaW.PrintWords Go.Proofs.YtcbcacppnlocdaaW.PrintLast Go.Proofs.YtcbcacppnlocdaaW.PrintMore
attribute [local go_sem] max2_int min2_int max_two min_two max_three min_three max_four min_four   -- for this text's walks alone
set_option linter.unusedVariables false
set_option linter.unusedSimpArgs false
set_option maxRecDepth 100000
def cutF (a b : ByteArray) (e : Bool) (c d : ByteArray) (g : Bool) : ByteArray × ByteArray × Bool :=
  let lo := if Op.bytesLess a.toList c.toList then c else a
  let hi := if e then (if g then (if Op.bytesLess d.toList b.toList then d else b) else b) else (if g then d else (⟨#[]⟩ : ByteArray))
  if (e || g) && !(Op.bytesLess lo.toList hi.toList) then ((⟨#[]⟩ : ByteArray), (⟨#[]⟩ : ByteArray), true) else (lo, hi, e || g)
def key_Cut.f (k : Nat) (a0_0 : ByteArray) (a0_1 : ByteArray) (a0_2 : Bool) (a1_0 : ByteArray) (a1_1 : ByteArray) (a1_2 : Bool) : Option (ByteArray × ByteArray × Bool) := some (cutF a0_0 a0_1 a0_2 a1_0 a1_1 a1_2)
end Go.Proofs.Ytcbcacppnlocdaa.PAll
namespace Go.Proofs.Ytcbcacppnlocdaa.PAll
set_option linter.unusedSimpArgs false
set_option linter.unusedVariables false
open Go Go.RowKit Go.Proofs.YtcbcacppnlocdaaW.PrintWords Go.Proofs.YtcbcacppnlocdaaW.PrintLast Go.Proofs.YtcbcacppnlocdaaW.PrintMore
def succN (s : ByteArray) (n : Nat) : ByteArray × Bool :=
  if n = 0 then ((⟨#[]⟩ : ByteArray), false) else (strOfNums (bytesOf (s.extract 0 (n - 1)) ++ [(bt s ((n - 1 : Nat) : Int) + 1) % 256]), true)
def strip (s : ByteArray) : Nat → Nat
  | 0 => 0
  | n + 1 => if bt s (n : Int) = 255 then strip s n else n + 1
def succB (s : ByteArray) : ByteArray × Bool := succN s (strip s s.size)
abbrev Rg := ByteArray × ByteArray × Bool
def ofB (p : ByteArray) : Rg := (p, (succB p).1, (succB p).2)
def aboutB (m : S26) : Rg := if m.f0 = 1 ∨ m.f0 = 2 then (m.f1, m.f1 ++ (⟨#[0]⟩ : ByteArray), true) else if m.f0 = 3 then ofB m.f1 else ((⟨#[]⟩ : ByteArray), (⟨#[]⟩ : ByteArray), true)
def inB (r : Rg) (k : ByteArray) : Bool := if Op.bytesLess k.toList r.1.toList = true then false else if r.2.2 = true then Op.bytesLess k.toList r.2.1.toList else true
def spk (m : S26) (k : ByteArray) : Bool := inB (aboutB m) k
def cutB (a b : Rg) : Rg := cutF a.1 a.2.1 a.2.2 b.1 b.2.1 b.2.2
def eqB (a b : Rg) : Bool := a.1.toList == b.1.toList && (a.2.1.toList == b.2.1.toList && (a.2.2 == b.2.2))
def covB (m o : S26) : Bool := eqB (cutB (aboutB o) (aboutB m)) (cutB (aboutB o) (aboutB o))
def emptyB (r : Rg) : Bool := if r.2.2 = true then !(Op.bytesLess r.1.toList r.2.1.toList) else false
def cl (m : S26) : S26 := if m.f1.size < 1000000 then m else z26
theorem cl_small (m : S26) : (cl m).f1.size < 1000000 := by
  unfold cl
  split
  · assumption
  · show (0 : Nat) < 1000000
    omega
def smallM (l : List S26) : Bool := l.all (fun m => decide (m.f1.size < 1000000))
theorem cl_rd {l : List S26} (h : smallM l = true) (i : Int) : cl (rd_T26 l i) = rd_T26 l i := by
  unfold cl
  rw [if_pos]
  unfold rd_T26
  rw [List.getD_eq_getElem?_getD]
  cases hx : l[i.toNat]? with
  | none => show (0 : Nat) < 1000000; omega
  | some x =>
    have := List.all_eq_true.mp h x (List.mem_of_getElem? hx)
    simpa using this
def lastG (a : ByteArray) (l : List S26) : Nat → Int
  | 0 => -1
  | n + 1 => if spk (rd_T26 l (n : Int)) a = true then (n : Int) else lastG a l n
def lastB (l : List S26) (a : ByteArray) : Int := lastG a l l.length
def addB (l : List S26) (m : S26) : List S26 := l.filter (fun o => !(covB m o)) ++ [m]
end Go.Proofs.Ytcbcacppnlocdaa.PAll
namespace Go.Proofs.Ytcbcacppnlocdaa.PAll
set_option linter.unusedSimpArgs false
set_option linter.unusedVariables false
open Go Go.RowKit Go.Proofs.YtcbcacppnlocdaaW.PrintWords Go.Proofs.YtcbcacppnlocdaaW.PrintLast Go.Proofs.YtcbcacppnlocdaaW.PrintMore Go.Proofs.Ytcbcacppnlocdaa.BL
abbrev bl (s : ByteArray) : B := s.data.toList
theorem toL (s : ByteArray) : s.toList = bl s := Lib.toList_data s
theorem bl_inj {s t : ByteArray} (h : bl s = bl t) : s = t := by
  cases s; cases t
  simp only [bl] at h
  congr 1
  exact Array.toList_inj.1 h
theorem less_iff (a b : ByteArray) : Op.bytesLess a.toList b.toList = true ↔ bl a < bl b := by
  rw [Proofs.bytesLess_eq, toL, toL, decide_eq_true_eq]
theorem bl_app (a b : ByteArray) : bl (a ++ b) = bl a ++ bl b := by simp [bl, ByteArray.data_append]
theorem bl_ext (s : ByteArray) (n : Nat) : bl (s.extract 0 n) = (bl s).take n := by simp [bl, ByteArray.data_extract]
theorem bl_len (s : ByteArray) : (bl s).length = s.size := data_length s
theorem bl_num (xs : List Int) : bl (strOfNums xs) = xs.map (fun n => UInt8.ofNat n.toNat) := rfl
theorem num_of (l : B) : (l.map (fun b => ((b.toNat : Nat) : Int))).map (fun n => UInt8.ofNat n.toNat) = l := by
  rw [List.map_map]
  conv => rhs; rw [← List.map_id l]
  congr 1
  funext b
  simp
theorem bt_get (s : ByteArray) (n : Nat) (h : n < s.size) : bt s (n : Int) = (((bl s)[n]'(by rw [bl_len]; exact h)).toNat : Int) := by
  unfold bt
  rw [dif_pos (by simpa using h)]
  simp [bl]
  rfl
theorem strip_succL (s : ByteArray) (n : Nat) (hn : n ≤ s.size) : (match succL ((bl s).take n) with | some q => succN s (strip s n) = (⟨q.toArray⟩, true) | none => succN s (strip s n) = ((⟨#[]⟩ : ByteArray), false)) := by
  induction n with
  | zero => simp [succL, strip, succN]
  | succ n ih =>
    have hl : n < (bl s).length := by rw [bl_len]; omega
    have hb := bt_get s n (by omega)
    rw [List.take_succ_eq_append_getElem hl, succL_snoc, strip]
    by_cases h : (bl s)[n] = 255
    · rw [if_pos h, if_pos (by rw [hb, h]; rfl)]
      exact ih (by omega)
    · have h2 : ¬ (bt s (n : Int) = 255) := by
        rw [hb]
        intro e
        have : (bl s)[n].toNat = 255 := by omega
        exact h (UInt8.toNat_inj.1 this)
      rw [if_neg h, if_neg h2]
      unfold succN
      rw [if_neg (by omega)]
      simp only [Nat.add_sub_cancel, Prod.mk.injEq, and_true]
      refine bl_inj ?_
      rw [bl_num, List.map_append, bytesOf, num_of, hb]
      show bl (s.extract 0 n) ++ _ = _
      rw [bl_ext]
      congr 1
      simp only [List.map_cons, List.map_nil]
      congr 1
      refine UInt8.toNat_inj.1 ?_
      rw [BL.add1 h]
      have h3 := (bl s)[n].toNat_lt
      have h4 : (bl s)[n].toNat ≠ 255 := fun e => h (UInt8.toNat_inj.1 e)
      have e : ((((bl s)[n].toNat : Int) + 1) % 256).toNat = (bl s)[n].toNat + 1 := by omega
      rw [e, UInt8.toNat_ofNat']
      exact Nat.mod_eq_of_lt (by omega)
theorem succB_eq (s : ByteArray) : (match succL (bl s) with | some q => succB s = (⟨q.toArray⟩, true) | none => succB s = ((⟨#[]⟩ : ByteArray), false)) := by
  have := strip_succL s s.size (Nat.le_refl _)
  rw [List.take_of_length_le (by rw [bl_len]; exact Nat.le_refl _)] at this
  exact this
theorem inB_iff (r : Rg) (k : ByteArray) : inB r k = true ↔ ¬ bl k < bl r.1 ∧ (r.2.2 = true → bl k < bl r.2.1) := by
  unfold inB
  rw [← less_iff, ← less_iff]
  cases h1 : Op.bytesLess k.toList r.1.toList <;> cases h2 : r.2.2 <;> simp
theorem in_of (p k : ByteArray) : inB (ofB p) k = true ↔ bl p <+: bl k := by
  rw [inB_iff, ← between]
  have h := succB_eq p
  unfold ofB
  cases hq : succL (bl p) with
  | some q => rw [hq] at h; simp [h, under, bl]
  | none => rw [hq] at h; simp [h, under]
theorem in_one (p k : ByteArray) : inB (p, p ++ (⟨#[0]⟩ : ByteArray), true) k = true ↔ k = p := by
  rw [inB_iff]
  have := next_one (bl p) (bl k)
  rw [bl_app]
  show ¬ bl k < bl p ∧ (true = true → bl k < bl p ++ [0]) ↔ _
  simp only [true_implies]
  rw [this]
  exact ⟨bl_inj, fun h => by rw [h]⟩
theorem in_none (k : ByteArray) : inB ((⟨#[]⟩ : ByteArray), (⟨#[]⟩ : ByteArray), true) k = false := by
  rw [← Bool.not_eq_true, inB_iff]
  rintro ⟨_, h⟩
  exact not_lt_nil _ (h rfl)
theorem spk_iff (m : S26) (k : ByteArray) : spk m k = true ↔ ((m.f0 = 1 ∨ m.f0 = 2) ∧ k = m.f1) ∨ (m.f0 = 3 ∧ bl m.f1 <+: bl k) := by
  unfold spk aboutB
  by_cases h : m.f0 = 1 ∨ m.f0 = 2
  · rw [if_pos h, in_one]
    have : m.f0 ≠ 3 := by omega
    simp [h, this]
  · rw [if_neg h]
    by_cases h3 : m.f0 = 3
    · rw [if_pos h3, in_of]; simp [h, h3]
    · rw [if_neg h3, in_none]; simp [h, h3]
theorem less_bool (a b : ByteArray) : Op.bytesLess a.toList b.toList = decide (bl a < bl b) := by
  rw [Bool.eq_iff_iff, less_iff, decide_eq_true_eq]
theorem emptyB_iff (r : Rg) : emptyB r = true ↔ r.2.2 = true ∧ ¬ bl r.1 < bl r.2.1 := by
  unfold emptyB
  cases h : r.2.2 <;> simp [less_bool]
theorem not_in_empty {r : Rg} (h : emptyB r = true) (k : ByteArray) : inB r k = false := by
  rw [emptyB_iff] at h
  rw [← Bool.not_eq_true, inB_iff]
  rintro ⟨h1, h2⟩
  have h3 := h2 h.1
  rcases tri (bl r.1) (bl k) with q | q | q
  · exact h.2 (tr q h3)
  · exact h.2 (by rw [q]; exact h3)
  · exact h1 q
end Go.Proofs.Ytcbcacppnlocdaa.PAll
namespace Go.Proofs.Ytcbcacppnlocdaa.PAll
open Go.RowKit Go.Proofs.YtcbcacppnlocdaaW.PrintWords Go.Proofs.YtcbcacppnlocdaaW.PrintLast Go.Proofs.YtcbcacppnlocdaaW.PrintMore
attribute [local go_sem] max2_int min2_int max_two min_two max_three min_three max_four min_four   -- for this text's walks alone
set_option linter.unusedVariables false
set_option linter.unusedSimpArgs false
set_option maxRecDepth 100000
def key_Succ.l0 : Nat → ByteArray → Int → Option (ByteArray × Bool)
  | 0, _, _ => none
  | k + 1, x0, x4 => if x4 > 0 then (if 0 ≤ (wrap64 (x4 - 1)) then (if (wrap64 (x4 - 1)) < (x0.size : Int) then (if (bt x0 (wrap64 (x4 - 1))) = 255 then (key_Succ.l0 k x0 (wrap64 (x4 - 1))) else (if x4 = 0 then (some ((⟨#[]⟩ : ByteArray), false)) else ((some (([] : List Int) : List Int)).bind fun y104 => (if (wrap64 (x4 - 1)) ≤ (x0.size : Int) then (if y104.length + (x0.extract 0 ((wrap64 (x4 - 1)) : Int).toNat).size < 140737488355328 then ((some (y104 ++ bytesOf (x0.extract 0 ((wrap64 (x4 - 1)) : Int).toNat) : List Int)).bind fun y107 => (if y107.length < 140737488355328 then (some (strOfNums (y107 ++ [((bt x0 (wrap64 (x4 - 1))) + 1) % 256]), true)) else (none))) else (none)) else (none))))) else (none)) else (none)) else (if x4 = 0 then (some ((⟨#[]⟩ : ByteArray), false)) else ((some (([] : List Int) : List Int)).bind fun y113 => (if 0 ≤ (wrap64 (x4 - 1)) then (if (wrap64 (x4 - 1)) ≤ (x0.size : Int) then (if y113.length + (x0.extract 0 ((wrap64 (x4 - 1)) : Int).toNat).size < 140737488355328 then ((some (y113 ++ bytesOf (x0.extract 0 ((wrap64 (x4 - 1)) : Int).toNat) : List Int)).bind fun y116 => (if (wrap64 (x4 - 1)) < (x0.size : Int) then (if y116.length < 140737488355328 then (some (strOfNums (y116 ++ [((bt x0 (wrap64 (x4 - 1))) + 1) % 256]), true)) else (none)) else (none))) else (none)) else (none)) else (none))))
def key_Succ.f (k : Nat) (a0 : ByteArray) : Option (ByteArray × Bool) := if (a0.size : Int) < 1000000 then (key_Succ.l0 k a0 (a0.size : Int)) else (none)
end Go.Proofs.Ytcbcacppnlocdaa.PAll
namespace Go.Proofs.Ytcbcacppnlocdaa.PAll
open Go Go.RowKit Go.Proofs.YtcbcacppnlocdaaW.PrintWords Go.Proofs.YtcbcacppnlocdaaW.PrintLast Go.Proofs.YtcbcacppnlocdaaW.PrintMore
set_option linter.unusedVariables false
set_option linter.unusedSimpArgs false
set_option maxRecDepth 100000
theorem w64 {x : Nat} (h : 1 ≤ x) (h2 : x ≤ 1000000) : wrap64 ((x : Int) - 1) = ((x - 1 : Nat) : Int) := by unfold wrap64; omega
theorem size_ext (s : ByteArray) (n : Nat) (h : n ≤ s.size) : (s.extract 0 n).size = n := by rw [ByteArray.size_extract]; omega
theorem l0_stop_eq {k : Nat} {s : ByteArray} {n : Nat} (hs : s.size < 1000000) (hn : n ≤ s.size) (hb : n = 0 ∨ bt s ((n - 1 : Nat) : Int) ≠ 255) : key_Succ.l0 (k + 1) s n = some (succN s n) := by
  unfold key_Succ.l0
  unfold succN
  by_cases h0 : n = 0
  · subst h0
    simp
  · have hb := hb.resolve_left h0
    have e1 := w64 (x := n) (by omega) (by omega)
    have h2 := size_ext s (n - 1) (by omega)
    rw [if_pos (show (n : Int) > 0 by omega), e1, if_pos (by omega), if_pos (by omega), if_neg hb, if_neg (by omega), Option.bind_some, if_pos (by omega), if_pos (by rw [Int.toNat_natCast, h2]; simp; omega), Option.bind_some, if_pos (by rw [Int.toNat_natCast, List.length_append, bytesOf_length, h2]; simp; omega)]
    rw [if_neg h0]
    simp
theorem l0_stop {k : Nat} {s : ByteArray} {n : Nat} {r : ByteArray × Bool} (hs : s.size < 1000000) (hn : n ≤ s.size) (hb : n = 0 ∨ bt s ((n - 1 : Nat) : Int) ≠ 255) (h : key_Succ.l0 (k + 1) s n = some r) : r = succN s n := by
  rw [l0_stop_eq hs hn hb] at h
  exact (Option.some.inj h).symm
theorem l0_on_eq {k : Nat} {s : ByteArray} {n : Nat} (hs : s.size < 1000000) (hn : n ≤ s.size) (h0 : n ≠ 0) (hb : bt s ((n - 1 : Nat) : Int) = 255) : key_Succ.l0 (k + 1) s n = key_Succ.l0 k s ((n - 1 : Nat) : Int) := by
  rw [key_Succ.l0]
  have e1 := w64 (x := n) (by omega) (by omega)
  rw [if_pos (show (n : Int) > 0 by omega), e1, if_pos (by omega), if_pos (by omega), if_pos hb]
theorem l0_on {k : Nat} {s : ByteArray} {n : Nat} {r : ByteArray × Bool} (hs : s.size < 1000000) (hn : n ≤ s.size) (h0 : n ≠ 0) (hb : bt s ((n - 1 : Nat) : Int) = 255) (h : key_Succ.l0 (k + 1) s n = some r) : key_Succ.l0 k s ((n - 1 : Nat) : Int) = some r := by
  rw [← l0_on_eq hs hn h0 hb]
  exact h
theorem l0_all {s : ByteArray} (hs : s.size < 1000000) : ∀ (n k : Nat), n ≤ s.size → n < k → key_Succ.l0 k s n = some (succN s (strip s n)) := by
  intro n
  induction n with
  | zero =>
    intro k hn hk
    obtain ⟨k, rfl⟩ : ∃ m, k = m + 1 := ⟨k - 1, by omega⟩
    exact l0_stop_eq hs hn (Or.inl rfl)
  | succ n ih =>
    intro k hn hk
    obtain ⟨k, rfl⟩ : ∃ m, k = m + 1 := ⟨k - 1, by omega⟩
    by_cases hb : bt s (n : Int) = 255
    · rw [l0_on_eq hs hn (by omega) hb, strip, if_pos hb]
      exact ih k (by omega) (by omega)
    · rw [l0_stop_eq hs hn (Or.inr hb), strip, if_neg hb]
theorem succ_f (k : Nat) (s : ByteArray) (hs : s.size < 1000000) (hk : 1000000 ≤ k) : key_Succ.f k s = some (succB s) := by
  unfold key_Succ.f
  rw [if_pos (by omega), l0_all hs _ _ (Nat.le_refl _) (by omega)]
  rfl
theorem bt_ext (s : ByteArray) (n : Nat) (h : 0 < n) (hn : n ≤ s.size) : (((s.extract 0 n).data.toList.getD (n - 1) 0).toNat : Int) = bt s ((n - 1 : Nat) : Int) := by
  rw [← rd_bytesOf]
  unfold rd bytesOf
  simp only [Int.toNat_natCast, List.getD_eq_getElem?_getD, List.getElem?_map]
  have e : (s.extract 0 n).data.toList = s.data.toList.take n := by
    simp [ByteArray.data_extract]
  rw [e, List.getElem?_take, if_pos (by omega)]
  have hl : n - 1 < s.data.toList.length := by rw [data_length]; omega
  rw [List.getElem?_eq_getElem hl]
  simp
theorem bytes_set (s : ByteArray) (n : Nat) (h : 0 < n) (hn : n ≤ s.size) (v : Int) : (bytesOf (s.extract 0 n)).set (n - 1) v = bytesOf (s.extract 0 (n - 1)) ++ [v] := by
  have hl : n ≤ s.data.toList.length := by rw [data_length]; exact hn
  have e : ∀ m, (s.extract 0 m).data.toList = s.data.toList.take m := fun m => by simp [ByteArray.data_extract]
  unfold bytesOf
  rw [e, e]
  obtain ⟨m, rfl⟩ : ∃ m, n = m + 1 := ⟨n - 1, by omega⟩
  simp only [Nat.add_sub_cancel]
  rw [List.take_succ_eq_append_getElem (by omega : m < s.data.toList.length), List.map_append, List.set_append_right _ _ (by rw [List.length_map, List.length_take]; omega)]
  have : min m s.size = m := by omega
  simp [this]
theorem conv_mem (W : World) (s : ByteArray) (n : Nat) (h : 0 < n) (hn : n ≤ s.size) (hb : n < 1000000) :
    (Lib.bytesWorld W 5 (s.extract 0 n)).cell? ⟨W.heap.size, n - 1, none⟩ = some (.int .u8 (bt s ((n - 1 : Nat) : Int)))
    ∧ (Lib.bytesWorld W 5 (s.extract 0 n)).frozen? ⟨W.heap.size, n - 1, none⟩ = false
    ∧ Below W.heap.size W (Lib.bytesWorld W 5 (s.extract 0 n))
    ∧ ∀ v, ReadsInt ((Lib.bytesWorld W 5 (s.extract 0 n)).setCell ⟨W.heap.size, n - 1, none⟩ (.int .u8 v)) .u8 (some ⟨W.heap.size, 0, none⟩) n (bytesOf (s.extract 0 (n - 1)) ++ [v]) := by
  have hz := size_ext s n hn
  have hc := Lib.bytesWorld_cell W 5 (s.extract 0 n) (n - 1) (by omega)
  refine ⟨by rw [hc, bt_ext s n h hn], ?_, bytes_below (Below.refl _ _) (Nat.le_refl _) _ _, fun v => ?_⟩
  · have hl : n - 1 < (Lib.bytesCells W 5 (s.extract 0 n)).size := by
      have : (s.extract 0 n).data.size = n := hz
      simp [Lib.bytesCells, this]; omega
    simp [World.frozen?, Lib.bytesWorld_at_new]
    omega
  · have hr := bytes_reads W 5 (s.extract 0 n) (by omega)
    rw [hz] at hr
    rw [← bytes_set s n h hn v]
    refine ⟨by rw [List.length_set, bytesOf_length, hz], by omega, fun _ => ⟨_, rfl, fun j hj => ?_⟩⟩
    obtain ⟨ad, e, hcc⟩ := hr.2.2 (by omega)
    obtain rfl := Option.some.inj e
    have hcj := hcc j hj
    rw [add_plain] at hcj ⊢
    by_cases he : j = n - 1
    · subst he
      rw [World.cell?_setCell_same' _ _ _ (by rw [hc]; rfl)]
      have hl : n - 1 < (bytesOf (s.extract 0 n)).length := by rw [bytesOf_length, hz]; omega
      simp [List.getD_eq_getElem?_getD, List.getElem?_set_self hl]
    · have hne : (⟨W.heap.size, j, none⟩ : Addr) ≠ ⟨W.heap.size, n - 1, none⟩ := by intro q; injection q; omega
      rw [show ((Lib.bytesWorld W 5 (s.extract 0 n)).setCell ⟨W.heap.size, n - 1, none⟩ (.int .u8 v)).cell? ⟨W.heap.size, j, none⟩ = (Lib.bytesWorld W 5 (s.extract 0 n)).cell? ⟨W.heap.size, j, none⟩ from World.cell?_setCell_other _ _ _ _ (Ne.symm hne), hcj]
      simp [List.getD_eq_getElem?_getD, List.getElem?_set, Ne.symm he, fun q => he (Eq.symm q)]
set_option maxHeartbeats 4000000 in
theorem key_Succ.calls (k : Nat) (a0 : ByteArray) (r1 : ByteArray) (r2 : Bool) (w : World) (h : key_Succ.f k a0 = some (r1, r2)) :
    Calls Try.prog 51 #[.string a0] w fun e w' => e = .returned (.tuple #[.string r1, .bool r2]) ∧ Below w.heap.size w w' := by
  have HB := Aside0.mk (Below.refl w.heap.size w)
  unfold key_Succ.f at h
  by_cases hs0 : (a0.size : Int) < 1000000
  case neg => rw [if_neg hs0] at h; cases h
  rw [if_pos hs0] at h
  have HS := Aside0.mk (show a0.size < 1000000 by omega)
  clear hs0
  have H' := Aside0.mk h
  clear h
  go_enter Try.func51, Try.ntmps51
  go_wp2
  go_loopg [4] k (fun kq v4 w' => ∃ (n : Nat), v4 = .int .i64 (n : Int) ∧ Aside0 (key_Succ.l0 kq a0 n = some (r1, r2)) ∧ Aside0 (n ≤ a0.size) ∧ Aside0 (kq ≤ k) ∧ Aside0 (w' = w))
  case atStart => exact ⟨a0.size, rfl, H', ⟨Nat.le_refl _⟩, ⟨Nat.le_refl _⟩, ⟨by first | rfl | (simp; done)⟩⟩
  case round =>
    clear H'
    obtain ⟨n, rfl, HA, HN, HK1, HW⟩ := hrel
    have hn := HN.out
    have hsz := HS.out
    obtain rfl := HW.out
    cases gk with
    | zero => exact absurd HA.out (by simp [key_Succ.l0])
    | succ k1 =>
      by_cases h0 : n = 0
      · subst h0
        have e := l0_stop hsz hn (Or.inl rfl) HA.out
        simp only [succN, if_true, Prod.mk.injEq] at e
        obtain ⟨rfl, rfl⟩ := e
        clear HA HN hn hsz
        go_wp2
        go_ret2
        exact ⟨rfl, Below.refl _ _⟩
      · have h0 : 1 ≤ n := by omega
        have k0 : decide ((0 : Int) < (n : Int)) = true := decide_eq_true (by omega)
        have k3 : IntKind.i64.wrap ((n : Int) - 1) = ((n - 1 : Nat) : Int) := (i64_w _).trans (w64 h0 (by omega))
        have p1 := eq_true (show (0 : Int) ≤ ((n - 1 : Nat) : Int) by omega)
        have p2 := eq_true (show ((n - 1 : Nat) : Int) < (a0.size : Int) by omega)
        have hx : ∀ h : n - 1 < a0.size, ((a0[n - 1]'h).toNat : Int) = bt a0 ((n - 1 : Nat) : Int) := bt_at a0 ((n - 1 : Nat) : Int)
        by_cases hb : bt a0 ((n - 1 : Nat) : Int) = 255
        · have b1 : (bt a0 ((n - 1 : Nat) : Int) == 255) = true := beq_iff_eq.mpr hb
          have HA2 := Aside0.mk (l0_on hsz hn (by omega) hb HA.out)
          clear HA hb
          go_wp2
          go_roundg k1
          case measure => have := HK1.out; omega
          case rel => exact ⟨n - 1, rfl, HA2, ⟨by omega⟩, ⟨by have := HK1.out; omega⟩, ⟨by first | rfl | (simp; done)⟩⟩
        · have b1 : (bt a0 ((n - 1 : Nat) : Int) == 255) = false := beq_eq_false_iff_ne.mpr hb
          have HE := Aside0.mk (l0_stop hsz hn (Or.inr hb) HA.out)
          clear HA hb
          have c8b0 : (((n : Nat) : Int) == 0) = false := beq_eq_false_iff_ne.mpr (by omega)
          have kb := fun W => print_bytes (P := Try.prog) 9 88 5 Try.underlying9 Try.underlying88 Try.underlying5 (a0.extract 0 n) W
          have k1 := eq_true (show (0 : Int) ≤ (n : Int) by omega)
          have k2 := eq_true (show (n : Int) ≤ (a0.size : Int) by omega)
          have k3 : IntKind.i64.wrap ((n : Int) - 1) = ((n - 1 : Nat) : Int) := (i64_w _).trans (w64 h0 (by omega))
          have k4 := size_ext a0 n hn
          have k5 := eq_true (show ((n - 1 : Nat) : Int) < (n : Int) by omega)
          have k6 := eq_true (show (0 : Int) ≤ ((n - 1 : Nat) : Int) by omega)
          go_upto_region 7 with (fail)
          obtain ⟨m1, m2, m3, m4⟩ := conv_mem wr a0 n h0 hn (by omega)
          have M3 := Aside0.mk m3
          have M4 := Aside0.mk (m4 ((bt a0 ((n - 1 : Nat) : Int) + 1) % 256))
          have k8 : ∀ c, (convert 88 9 (.slice (some ⟨wr.heap.size, 0, none⟩) n c)).run Try.prog ((Lib.bytesWorld wr 5 (a0.extract 0 n)).setCell ⟨wr.heap.size, n - 1, none⟩ (.int .u8 ((bt a0 ((n - 1 : Nat) : Int) + 1) % 256))) = .ok (.string (strOfNums (bytesOf (a0.extract 0 (n - 1)) ++ [(bt a0 ((n - 1 : Nat) : Int) + 1) % 256]))) _ := fun c => string_of_reads Try.underlying88 Try.underlying5 Try.underlying9 M4.out
          clear m3 m4 M4
          obtain ⟨W2, hW2⟩ : ∃ W2, W2 = Lib.bytesWorld wr 5 (a0.extract 0 n) := ⟨_, rfl⟩
          rw [← hW2] at m1 m2 M3 k8 ⊢
          clear hW2 kb
          have e := HE.out
          unfold succN at e
          rw [if_neg (by omega)] at e
          simp only [Prod.mk.injEq] at e
          obtain ⟨rfl, rfl⟩ := e
          clear HE
          go_wp2
          go_ret2
          exact ⟨rfl, M3.out.setCell (p := ⟨wr.heap.size, n - 1, none⟩) (Nat.le_refl _) _⟩
end Go.Proofs.Ytcbcacppnlocdaa.PAll
namespace Go.Proofs.Ytcbcacppnlocdaa.PAll
open Go.RowKit Go.Proofs.YtcbcacppnlocdaaW.PrintWords Go.Proofs.YtcbcacppnlocdaaW.PrintLast Go.Proofs.YtcbcacppnlocdaaW.PrintMore
attribute [local go_sem] max2_int min2_int max_two min_two max_three min_three max_four min_four   -- for this text's walks alone
set_option linter.unusedVariables false
set_option linter.unusedSimpArgs false
set_option maxRecDepth 100000
def key_Next.f (a0 : ByteArray) : Option (ByteArray) := if a0.size + 1 ≤ 9223372036854775807 then (some (a0 ++ (⟨#[0]⟩ : ByteArray))) else (none)
set_option maxHeartbeats 8000000 in
set_option maxRecDepth 100000 in
theorem key_Next.calls (a0 : ByteArray) (r : ByteArray) (w : World) (h : key_Next.f a0 = some r) :
    Calls Try.prog 39 #[.string a0] w fun e w' => e = .returned (.string r) ∧ Drawn0 w w' := by
  have H : (if a0.size + 1 ≤ 9223372036854775807 then (some (a0 ++ (⟨#[0]⟩ : ByteArray))) else (none)) = some r := h
  clear h
  by_cases c2 : a0.size + 1 ≤ 9223372036854775807
  · rw [if_pos c2] at H
    have c2b0 := eq_true c2
    have c2b1 : decide (a0.size + 1 ≤ 9223372036854775807) = true := decide_eq_true c2
    try have c2b2 : (9223372036854775807 < a0.size + 1) = False := eq_false (Nat.not_lt.2 c2)
    obtain rfl := Option.some.inj H
    go_enter Try.func39, Try.ntmps39
    go_wp2
    go_ret
    exact ⟨by first | rfl | (simp; done) | (simp [*]; done), by repeat (first | exact Drawn0.refl _ | apply Drawn0.step)⟩
  · rw [if_neg c2] at H
    exact absurd H (by simp)
end Go.Proofs.Ytcbcacppnlocdaa.PAll
namespace Go.Proofs.Ytcbcacppnlocdaa.PAll
open Go.RowKit Go.Proofs.YtcbcacppnlocdaaW.PrintWords Go.Proofs.YtcbcacppnlocdaaW.PrintLast Go.Proofs.YtcbcacppnlocdaaW.PrintMore
attribute [local go_sem] max2_int min2_int max_two min_two max_three min_three max_four min_four   -- for this text's walks alone
set_option linter.unusedVariables false
set_option linter.unusedSimpArgs false
set_option maxRecDepth 100000
def key_Of.f (k : Nat) (a0 : ByteArray) : Option (ByteArray × ByteArray × Bool) := (key_Succ.f k a0).bind fun bt123 => (some (a0, bt123.1, bt123.2))
set_option maxHeartbeats 8000000 in
set_option maxRecDepth 100000 in
theorem key_Of.calls (k : Nat) (a0 : ByteArray) (r1 : ByteArray) (r2 : ByteArray) (r3 : Bool) (w : World) (h : key_Of.f k a0 = some (r1, r2, r3)) :
    Calls Try.prog 40 #[.string a0] w fun e w' => e = .returned (.agg #[.string r1, .string r2, .bool r3]) ∧ Below w.heap.size w w' := by
  have hu35 := Try.underlying35
  have HB := Aside0.mk (Below.refl w.heap.size w)
  have H : ((key_Succ.f k a0).bind fun bt123 => (some (a0, bt123.1, bt123.2))) = some (r1, r2, r3) := h
  clear h
  replace H := Option.bind_eq_some_iff.mp H
  obtain ⟨⟨t123, t124⟩, A20, H⟩ := H
  replace H : (some (a0, t123, t124)) = some (r1, r2, r3) := H
  have A2 := Aside0.mk A20
  clear A20
  simp only [Option.some.injEq, Prod.mk.injEq] at H
  obtain ⟨rfl, rfl, rfl⟩ := H
  go_enter Try.func40, Try.ntmps40
  go_wp2_with (first | ((with_reducible refine gate_dst (N := 2) rfl ?_); refine box_event ?hg (N := 2) ?hd (cs := #[.string (⟨#[]⟩ : ByteArray), .string (⟨#[]⟩ : ByteArray), .bool false]) (t := 35) ?hr ?_; (case hd => rfl); (case hg => rfl); (case hr => first | (go_simp; done) | (go_simp; rfl)); intro gb122 hg w3 hbox hb; have n0_ := Aside0.mk (below_step (by repeat (first | (with_reducible first | exact HB.out | apply below_alloc | apply pw_below_drewN | apply below_drew1) | exact HB.out)) hb); have n1_ := Aside0.mk (hbox); have n2_ := Aside0.mk ((by rw [hg]; exact (below_size (by repeat (first | (with_reducible first | exact HB.out | apply below_alloc | apply pw_below_drewN | apply below_drew1) | exact HB.out))) : w.heap.size ≤ gb122)); have n3_ := Aside0.mk ((by rw [hg]; exact (below_size (by repeat (first | (with_reducible first | exact HB.out | apply below_alloc | apply pw_below_drewN | apply below_drew1) | exact HB.out))) : w.heap.size ≤ gb122)); clear HB; have HB := n0_; have BK122 := n1_; have GW122 := n2_; have GE122 := n3_; clear n0_ n1_ n2_ n3_; clear hb hbox hg) | ((with_reducible refine gate_callee (f := 51) rfl ?_); refine goesL_ (some 7) rfl rfl Try.func51 (by kernel_rfl) rfl #[.string a0] rfl (by (try simp only [List.map_toArray, List.map_cons, List.map_nil]); first | done | rfl | (simp only [List.length_drop, List.length_take]; rfl)) ?_; (with_reducible refine (key_Succ.calls k a0 t123 t124 _ A2.out).mono ?_); rintro e w4 ⟨rfl, hb⟩; refine ⟨_, rfl, ?_⟩; have n0_ := Aside0.mk (blk_below (g := gb122) (o := .cells #[.string (⟨#[]⟩ : ByteArray), .string (⟨#[]⟩ : ByteArray), .bool false] 35 (0, 0)) (by (with_reducible repeat (first | refine blk_drewN ?_ _ | refine blk_drew ?_ | refine blk_alloc ?_ _)); exact BK122.out) hb); have n1_ := Aside0.mk (below_step (by repeat (first | (with_reducible first | exact HB.out | apply below_alloc | apply pw_below_drewN | apply below_drew1 | refine below_set ?_ GE122.out) | exact HB.out)) hb); clear BK122; clear HB; have BK122 := n0_; have HB := n1_; clear n0_ n1_; (try clear hb); (try clear hb2); (try clear hk); (try clear hi); have hcz5_0 : w4.cell? ⟨gb122, 0, none⟩ = some (.string (⟨#[]⟩ : ByteArray)) := (blk_cell BK122.out 0).trans rfl; have hcz5_1 : w4.cell? ⟨gb122, 1, none⟩ = some (.string (⟨#[]⟩ : ByteArray)) := (blk_cell BK122.out 1).trans rfl; have hcz5_2 : w4.cell? ⟨gb122, 2, none⟩ = some (.bool false) := (blk_cell BK122.out 2).trans rfl; have hfz5_0 := blk_frozen BK122.out 0; have hfz5_1 := blk_frozen BK122.out 1; have hfz5_2 := blk_frozen BK122.out 2))
  refine bodyPost_ret (results_cell_row rfl _ _ gb122 35 #[.string a0, .string t123, .bool t124] (0, 0) _ rfl (by (with_reducible repeat (first | refine blk_drewN ?_ _ | refine blk_drew ?_ | refine blk_alloc ?_ _)); refine blk_put (cs := #[.string a0, .string t123, .bool false]) ?_ 2 _ rfl; (with_reducible repeat (first | refine blk_drewN ?_ _ | refine blk_drew ?_ | refine blk_alloc ?_ _)); refine blk_put (cs := #[.string a0, .string (⟨#[]⟩ : ByteArray), .bool false]) ?_ 1 _ rfl; (with_reducible repeat (first | refine blk_drewN ?_ _ | refine blk_drew ?_ | refine blk_alloc ?_ _)); refine blk_put (cs := #[.string (⟨#[]⟩ : ByteArray), .string (⟨#[]⟩ : ByteArray), .bool false]) ?_ 0 _ rfl; (with_reducible repeat (first | refine blk_drewN ?_ _ | refine blk_drew ?_ | refine blk_alloc ?_ _)); exact BK122.out) Try.underlying35 rfl (by kernel_rfl)) rfl ?_
  exact ⟨by first | rfl | (simp [errW_none, errW_some] <;> rfl) | (simp [*, errW_none, errW_some] <;> rfl), by repeat (first | (with_reducible first | exact HB.out | apply below_alloc | apply pw_below_drewN | apply below_drew1 | refine below_set ?_ GE122.out) | exact HB.out)⟩
end Go.Proofs.Ytcbcacppnlocdaa.PAll
namespace Go.Proofs.Ytcbcacppnlocdaa.PAll
open Go.RowKit Go.Proofs.YtcbcacppnlocdaaW.PrintWords Go.Proofs.YtcbcacppnlocdaaW.PrintLast Go.Proofs.YtcbcacppnlocdaaW.PrintMore
attribute [local go_sem] max2_int min2_int max_two min_two max_three min_three max_four min_four   -- for this text's walks alone
set_option linter.unusedVariables false
set_option linter.unusedSimpArgs false
set_option maxRecDepth 100000
def msg_About.j0 : Nat → Int → Bool → Int → ByteArray → ByteArray → Int → Int → ByteArray → Option (ByteArray × ByteArray × Bool)
  | 0, _, _, _, _, _, _, _, _ => none
  | k + 1, x4, x5, x126000, x126001, x126002, x126003, x126004, x126005 => if x5 = true then ((key_Next.f x126001).bind fun t127 => (some (x126001, t127, true))) else (if x4 = 3 then ((key_Of.f k x126001).bind fun bt128 => (some (bt128.1, bt128.2.1, bt128.2.2))) else (some ((⟨#[]⟩ : ByteArray), (⟨#[]⟩ : ByteArray), true)))
def msg_About.f (k : Nat) (a0_0 : Int) (a0_1 : ByteArray) (a0_2 : ByteArray) (a0_3 : Int) (a0_4 : Int) (a0_5 : ByteArray) : Option (ByteArray × ByteArray × Bool) := if a0_0 = 1 then (msg_About.j0 k a0_0 (a0_0 == 1) a0_0 a0_1 a0_2 a0_3 a0_4 a0_5) else (msg_About.j0 k a0_0 (a0_0 == 2) a0_0 a0_1 a0_2 a0_3 a0_4 a0_5)
set_option maxHeartbeats 8000000 in
set_option maxRecDepth 100000 in
theorem msg_About.calls (k : Nat) (a0_0 : Int) (a0_1 : ByteArray) (a0_2 : ByteArray) (a0_3 : Int) (a0_4 : Int) (a0_5 : ByteArray) (r1 : ByteArray) (r2 : ByteArray) (r3 : Bool) (w : World) (h : msg_About.f k a0_0 a0_1 a0_2 a0_3 a0_4 a0_5 = some (r1, r2, r3)) :
    Calls Try.prog 23 #[.agg #[.int .u8 a0_0, .string a0_1, .string a0_2, .int .u32 a0_3, .int .u16 a0_4, .string a0_5]] w fun e w' => e = .returned (.agg #[.string r1, .string r2, .bool r3]) ∧ Below w.heap.size w w' := by
  have hu26 := Try.underlying26
  have hu35 := Try.underlying35
  have HB := Aside0.mk (Below.refl w.heap.size w)
  have H : (if a0_0 = 1 then (msg_About.j0 k a0_0 (a0_0 == 1) a0_0 a0_1 a0_2 a0_3 a0_4 a0_5) else (msg_About.j0 k a0_0 (a0_0 == 2) a0_0 a0_1 a0_2 a0_3 a0_4 a0_5)) = some (r1, r2, r3) := h
  clear h
  have HC2 := Aside0.mk H
  clear H
  go_enter Try.func23, Try.ntmps23
  go_upto_if 5 with (first | ((with_reducible refine gate_dst (N := 1) rfl ?_); refine box_event ?hg (N := 1) ?hd (cs := #[.int .u8 a0_0, .string a0_1, .string a0_2, .int .u32 a0_3, .int .u16 a0_4, .string a0_5]) (t := 26) ?hr ?_; (case hd => rfl); (case hg => rfl); (case hr => first | (go_simp; done) | (go_simp; rfl)); intro gb125 hg w3 hbox hb; have n0_ := Aside0.mk (below_step (by repeat (first | (with_reducible first | exact HB.out | apply below_alloc | apply pw_below_drewN | apply below_drew1) | exact HB.out)) hb); have n1_ := Aside0.mk (hbox); have n2_ := Aside0.mk ((by rw [hg]; exact (below_size (by repeat (first | (with_reducible first | exact HB.out | apply below_alloc | apply pw_below_drewN | apply below_drew1) | exact HB.out))) : w.heap.size ≤ gb125)); have n3_ := Aside0.mk ((by rw [hg]; exact (below_size (by repeat (first | (with_reducible first | exact HB.out | apply below_alloc | apply pw_below_drewN | apply below_drew1) | exact HB.out))) : w.heap.size ≤ gb125)); clear HB; have HB := n0_; have BK125 := n1_; have GW125 := n2_; have GE125 := n3_; clear n0_ n1_ n2_ n3_; clear hb hbox hg) | ((with_reducible refine gate_dst (N := 2) rfl ?_); refine box_event ?hg (N := 2) ?hd (cs := #[.string (⟨#[]⟩ : ByteArray), .string (⟨#[]⟩ : ByteArray), .bool false]) (t := 35) ?hr ?_; (case hd => rfl); (case hg => rfl); (case hr => first | (go_simp; done) | (go_simp; rfl)); intro gb126 hg w4 hbox hb; have n0_ := Aside0.mk (blk_below (g := gb125) (o := .cells #[.int .u8 a0_0, .string a0_1, .string a0_2, .int .u32 a0_3, .int .u16 a0_4, .string a0_5] 26 (0, 0)) (by (with_reducible repeat (first | refine blk_drewN ?_ _ | refine blk_drew ?_ | refine blk_alloc ?_ _)); exact BK125.out) hb); have n1_ := Aside0.mk (below_step (by repeat (first | (with_reducible first | exact HB.out | apply below_alloc | apply pw_below_drewN | apply below_drew1 | refine below_set ?_ GE125.out) | exact HB.out)) hb); have n2_ := Aside0.mk (hbox); have n3_ := Aside0.mk ((by rw [hg]; exact (below_size (by repeat (first | (with_reducible first | exact HB.out | apply below_alloc | apply pw_below_drewN | apply below_drew1 | refine below_set ?_ GE125.out) | exact HB.out))) : w.heap.size ≤ gb126)); have n4_ := Aside0.mk ((by rw [hg]; exact (below_size (by repeat (first | (with_reducible first | exact HB.out | apply below_alloc | apply pw_below_drewN | apply below_drew1 | refine below_set ?_ GE125.out) | exact HB.out))) : w.heap.size ≤ gb126)); have n5_ := Aside0.mk ((by rw [hg]; exact Nat.ne_of_lt (blk_lt (g := gb125) (o := .cells #[.int .u8 a0_0, .string a0_1, .string a0_2, .int .u32 a0_3, .int .u16 a0_4, .string a0_5] 26 (0, 0)) (by (with_reducible repeat (first | refine blk_drewN ?_ _ | refine blk_drew ?_ | refine blk_alloc ?_ _)); exact BK125.out)) : gb125 ≠ gb126)); have n6_ := Aside0.mk ((by rw [hg]; exact Nat.ne_of_gt (blk_lt (g := gb125) (o := .cells #[.int .u8 a0_0, .string a0_1, .string a0_2, .int .u32 a0_3, .int .u16 a0_4, .string a0_5] 26 (0, 0)) (by (with_reducible repeat (first | refine blk_drewN ?_ _ | refine blk_drew ?_ | refine blk_alloc ?_ _)); exact BK125.out)) : gb126 ≠ gb125)); clear BK125; clear HB; have BK125 := n0_; have HB := n1_; have BK126 := n2_; have GW126 := n3_; have GE126 := n4_; have NB125_126 := n5_; have NB126_125 := n6_; clear n0_ n1_ n2_ n3_ n4_ n5_ n6_; clear hb hbox hg; have hnb5 := NB125_126.out; have hnc5 := NB126_125.out; have hcz6_0 : w4.cell? ⟨gb125, 0, none⟩ = some (.int .u8 a0_0) := (blk_cell BK125.out 0).trans rfl; have hcz6_1 : w4.cell? ⟨gb125, 1, none⟩ = some (.string a0_1) := (blk_cell BK125.out 1).trans rfl; have hcz6_2 : w4.cell? ⟨gb125, 2, none⟩ = some (.string a0_2) := (blk_cell BK125.out 2).trans rfl; have hcz6_3 : w4.cell? ⟨gb125, 3, none⟩ = some (.int .u32 a0_3) := (blk_cell BK125.out 3).trans rfl; have hcz6_4 : w4.cell? ⟨gb125, 4, none⟩ = some (.int .u16 a0_4) := (blk_cell BK125.out 4).trans rfl; have hcz6_5 : w4.cell? ⟨gb125, 5, none⟩ = some (.string a0_5) := (blk_cell BK125.out 5).trans rfl; have hfz6_0 := blk_frozen BK125.out 0; have hfz6_1 := blk_frozen BK125.out 1; have hfz6_2 := blk_frozen BK125.out 2; have hfz6_3 := blk_frozen BK125.out 3; have hfz6_4 := blk_frozen BK125.out 4; have hfz6_5 := blk_frozen BK125.out 5))
  (try simp only [Act.put, List.setIfInBounds_toArray, List.set_cons_zero, List.set_cons_succ])
  go_cut [5] (fun v5 wc => ∃ (kq : Nat) (x5_1 : Bool), v5 = .bool x5_1 ∧ Aside0 (msg_About.j0 kq a0_0 x5_1 a0_0 a0_1 a0_2 a0_3 a0_4 a0_5 = some (r1, r2, r3)) ∧ Aside0 (kq ≤ k) ∧ Aside0 (wc.heap[gb125]? = some (.cells #[.int .u8 a0_0, .string a0_1, .string a0_2, .int .u32 a0_3, .int .u16 a0_4, .string a0_5] 26 (0, 0))) ∧ Aside0 (wc.heap[gb126]? = some (.cells #[.string (⟨#[]⟩ : ByteArray), .string (⟨#[]⟩ : ByteArray), .bool false] 35 (0, 0))) ∧ Aside0 (Below w.heap.size w wc))
  case first =>
    have H := HC2.out
    clear HC2
    by_cases c7 : a0_0 = 1
    · rw [if_pos c7] at H
      have c7b0 : (a0_0 == 1) = true := beq_iff_eq.mpr c7
      have c7b1 : (a0_0 != 1) = false := bne_eq_false_iff_eq.mpr c7
      clear c7
      (first | rw [c7b0] | (simp only [i64_w, i32_w]; rw [c7b0]) | skip)
      have H' := Aside0.mk H
      clear H
      go_wp2
      go_meet
      case rel => exact ⟨_, ((a0_0 == 1)), (by first | rfl | (simp; done) | (simp [*]; done)), H', ⟨by first | omega | exact Nat.le_refl _⟩, ⟨by (with_reducible repeat (first | refine blk_drewN ?_ _ | refine blk_drew ?_ | refine blk_alloc ?_ _)); exact BK125.out⟩, ⟨by (with_reducible repeat (first | refine blk_drewN ?_ _ | refine blk_drew ?_ | refine blk_alloc ?_ _)); exact BK126.out⟩, ⟨by repeat (first | (with_reducible first | exact HB.out | apply below_alloc | apply pw_below_drewN | apply below_drew1 | refine below_set ?_ GE125.out | refine below_set ?_ GE126.out) | exact HB.out)⟩⟩
    · rw [if_neg c7] at H
      have c7b0 : (a0_0 == 1) = false := beq_eq_false_iff_ne.mpr c7
      have c7b1 : (a0_0 != 1) = true := bne_iff_ne.mpr c7
      (first | rw [c7b0] | (simp only [i64_w, i32_w]; rw [c7b0]) | skip)
      have H' := Aside0.mk H
      clear H
      go_wp2
      go_meet
      case rel => exact ⟨_, ((a0_0 == 2)), (by first | rfl | (simp; done) | (simp [*]; done)), H', ⟨by first | omega | exact Nat.le_refl _⟩, ⟨by (with_reducible repeat (first | refine blk_drewN ?_ _ | refine blk_drew ?_ | refine blk_alloc ?_ _)); exact BK125.out⟩, ⟨by (with_reducible repeat (first | refine blk_drewN ?_ _ | refine blk_drew ?_ | refine blk_alloc ?_ _)); exact BK126.out⟩, ⟨by repeat (first | (with_reducible first | exact HB.out | apply below_alloc | apply pw_below_drewN | apply below_drew1 | refine below_set ?_ GE125.out | refine below_set ?_ GE126.out) | exact HB.out)⟩⟩
  case rest =>
    clear HC2
    try clear c2
    try clear p2
    try clear c5
    try clear c7
    try clear c7b0
    try clear c7b1
    try clear hcz6_0
    try clear hcz6_1
    try clear hcz6_2
    try clear hcz6_3
    try clear hcz6_4
    try clear hcz6_5
    try clear hfz6_0
    try clear hfz6_1
    try clear hfz6_2
    try clear hfz6_3
    try clear hfz6_4
    try clear hfz6_5
    obtain ⟨kq, x5_1, rfl, HA, HJ1, BK125, BK126, HB⟩ := hcut
    cases kq with
    | zero => exact absurd HA.out (by simp [msg_About.j0])
    | succ kj1 =>
      have H := HA.out
      clear HA
      simp only [msg_About.j0] at H
      by_cases c8 : x5_1 = true
      · subst c8
        have H1 : ((key_Next.f a0_1).bind fun t127 => (some (a0_1, t127, true))) = some (r1, r2, r3) := by rw [if_pos rfl] at H; exact H
        clear H
        have H := H1
        clear H1
        replace H := Option.bind_eq_some_iff.mp H
        obtain ⟨t127, A90, H⟩ := H
        replace H : (some (a0_1, t127, true)) = some (r1, r2, r3) := H
        have A9 := Aside0.mk A90
        clear A90
        simp only [Option.some.injEq, Prod.mk.injEq] at H
        obtain ⟨rfl, rfl, rfl⟩ := H
        try go_wp2
        have n0_ := Aside0.mk (blk_drew BK125.out)
        have n1_ := Aside0.mk (blk_drew BK126.out)
        have n2_ := Aside0.mk (below_drew1 HB.out)
        clear BK125
        clear BK126
        clear HB
        have BK125 := n0_
        have BK126 := n1_
        have HB := n2_
        clear n0_ n1_ n2_
        refine start_ (n := 7) (S := fun w' => w'.cell? ⟨gb125, 0, none⟩ = some (.int .u8 a0_0) ∧ w'.cell? ⟨gb125, 1, none⟩ = some (.string a0_1) ∧ w'.cell? ⟨gb125, 2, none⟩ = some (.string a0_2) ∧ w'.cell? ⟨gb125, 3, none⟩ = some (.int .u32 a0_3) ∧ w'.cell? ⟨gb125, 4, none⟩ = some (.int .u16 a0_4) ∧ w'.cell? ⟨gb125, 5, none⟩ = some (.string a0_5)) (ds := []) #[false, false, false, false, false, false, false] (by kernel_rfl) rfl rfl ⟨(blk_cell BK125.out 0).trans rfl, (blk_cell BK125.out 1).trans rfl, (blk_cell BK125.out 2).trans rfl, (blk_cell BK125.out 3).trans rfl, (blk_cell BK125.out 4).trans rfl, (blk_cell BK125.out 5).trans rfl⟩ (fun hHeld => ?_)
        generalize wc.drew = w10 at BK125 BK126 HB hHeld ⊢
        refine pure_ (i := 0) (N := some 8) (v := ?_) (a' := ?_) #[true, false, false, false, false, false, false] rfl rfl (by kernel_rfl) (fun _ _ _ h => h) (Or.inl ⟨by rfl, ?_⟩) ?_ ?_
        rotate_left
        · intro w'
          go_simp
          with_reducible rfl
        rotate_left
        · simp only [Act.put, List.setIfInBounds_toArray, List.set_cons_zero, List.set_cons_succ, i64_w, i32_w]
          rfl
        refine pure_ (i := 2) (N := some 10) (v := ?_) (a' := ?_) #[true, false, true, false, false, false, false] rfl rfl (by kernel_rfl) (fun _ _ _ h => h) (Or.inl ⟨by rfl, ?_⟩) ?_ ?_
        rotate_left
        · intro w'
          go_simp
          with_reducible rfl
        rotate_left
        · simp only [Act.put, List.setIfInBounds_toArray, List.set_cons_zero, List.set_cons_succ, i64_w, i32_w]
          rfl
        refine take_ (i := 1) (N := some 9) (v := ?_) (a' := ?_) #[true, true, true, false, false, false, false] rfl rfl (by kernel_rfl) (fun _ _ _ h => h) (Or.inl ⟨by rfl, ?_⟩) hHeld ?_ ?_
        rotate_left
        · rintro w' ⟨s0, s1, s2, s3, s4, s5⟩
          go_simp
          with_reducible rfl
        rotate_left
        · simp only [Act.put, List.setIfInBounds_toArray, List.set_cons_zero, List.set_cons_succ, i64_w, i32_w]
          rfl
        refine take_ (i := 3) (N := some 11) (v := ?_) (a' := ?_) #[true, true, true, true, false, false, false] rfl rfl (by kernel_rfl) (fun _ _ _ h => h) (Or.inl ⟨by rfl, ?_⟩) hHeld ?_ ?_
        rotate_left
        · rintro w' ⟨s0, s1, s2, s3, s4, s5⟩
          go_simp
          with_reducible rfl
        rotate_left
        · simp only [Act.put, List.setIfInBounds_toArray, List.set_cons_zero, List.set_cons_succ, i64_w, i32_w]
          rfl
        refine one_ (i := 4) (N := some 12) #[true, true, true, true, true, false, false] rfl rfl (by kernel_rfl) (by decide) (fun K hK => ?_)
        refine goes_ Try.func39 (by kernel_rfl) rfl #[.string a0_1] (by rfl) rfl rfl (by (try simp only [List.map_toArray, List.map_cons, List.map_nil]); first | done | rfl | (simp only [List.length_drop, List.length_take]; rfl)) ?_
        with_reducible refine (key_Next.calls a0_1 t127 _ A9.out).mono ?_
        rintro e w' ⟨rfl, ⟨nd, rfl⟩⟩
        refine ⟨_, rfl, ?_⟩
        refine hK.out _ _ ⟨(blk_cell BK125.out 0).trans rfl, (blk_cell BK125.out 1).trans rfl, (blk_cell BK125.out 2).trans rfl, (blk_cell BK125.out 3).trans rfl, (blk_cell BK125.out 4).trans rfl, (blk_cell BK125.out 5).trans rfl⟩ (fun hHeld => ?_)
        clear hK K
        refine norm_ (a' := ?_) ?_ ?_
        rotate_left
        · show Act.put _ (some 12) _ = _
          simp only [Act.put, List.setIfInBounds_toArray, List.set_cons_zero, List.set_cons_succ, i64_w, i32_w]
          rfl
        refine pure_ (i := 5) (N := some 13) (v := ?_) (a' := ?_) #[true, true, true, true, true, true, false] rfl rfl (by kernel_rfl) (fun _ _ _ h => h) (Or.inl ⟨by rfl, ?_⟩) ?_ ?_
        rotate_left
        · intro w'
          go_simp
          with_reducible rfl
        rotate_left
        · simp only [Act.put, List.setIfInBounds_toArray, List.set_cons_zero, List.set_cons_succ, i64_w, i32_w]
          rfl
        refine one_ (i := 6) (N := none) #[true, true, true, true, true, true, true] rfl rfl (by kernel_rfl) (by decide) (fun K hK => ?_)
        have hs11 : w10.cell? ⟨gb126, 0, none⟩ = some (.string (⟨#[]⟩ : ByteArray)) := (blk_cell BK126.out 0).trans rfl
        have hfs11 := blk_frozen BK126.out 0
        have hns11_0 := NB125_126.out
        have hms11_0 := NB126_125.out
        have hs12 : w10.cell? ⟨gb126, 1, none⟩ = some (.string (⟨#[]⟩ : ByteArray)) := (blk_cell BK126.out 1).trans rfl
        have hfs12 := blk_frozen BK126.out 1
        have hns12_0 := NB125_126.out
        have hms12_0 := NB126_125.out
        have hs13 : w10.cell? ⟨gb126, 2, none⟩ = some (.bool false) := (blk_cell BK126.out 2).trans rfl
        have hfs13 := blk_frozen BK126.out 2
        have hns13_0 := NB125_126.out
        have hms13_0 := NB126_125.out
        refine skip_ (w1 := ?_) (by rfl) rfl ?_ ?_
        rotate_left
        · go_simp
          rfl
        refine hK.out _ _ ⟨((cell_far (p := ⟨gb126, _, none⟩) NB125_126.out _).trans (((cell_far (p := ⟨gb126, _, none⟩) NB125_126.out _).trans (((cell_far (p := ⟨gb126, _, none⟩) NB125_126.out _).trans (hHeld.1)))))), ((cell_far (p := ⟨gb126, _, none⟩) NB125_126.out _).trans (((cell_far (p := ⟨gb126, _, none⟩) NB125_126.out _).trans (((cell_far (p := ⟨gb126, _, none⟩) NB125_126.out _).trans (hHeld.2.1)))))), ((cell_far (p := ⟨gb126, _, none⟩) NB125_126.out _).trans (((cell_far (p := ⟨gb126, _, none⟩) NB125_126.out _).trans (((cell_far (p := ⟨gb126, _, none⟩) NB125_126.out _).trans (hHeld.2.2.1)))))), ((cell_far (p := ⟨gb126, _, none⟩) NB125_126.out _).trans (((cell_far (p := ⟨gb126, _, none⟩) NB125_126.out _).trans (((cell_far (p := ⟨gb126, _, none⟩) NB125_126.out _).trans (hHeld.2.2.2.1)))))), ((cell_far (p := ⟨gb126, _, none⟩) NB125_126.out _).trans (((cell_far (p := ⟨gb126, _, none⟩) NB125_126.out _).trans (((cell_far (p := ⟨gb126, _, none⟩) NB125_126.out _).trans (hHeld.2.2.2.2.1)))))), ((cell_far (p := ⟨gb126, _, none⟩) NB125_126.out _).trans (((cell_far (p := ⟨gb126, _, none⟩) NB125_126.out _).trans (((cell_far (p := ⟨gb126, _, none⟩) NB125_126.out _).trans (hHeld.2.2.2.2.2))))))⟩ (fun hHeld => ?_)
        clear hK K
        refine done_ (by kernel_rfl) ?_
        try go_wp2
        refine bodyPost_ret (results_cell_row rfl _ _ gb126 35 #[.string a0_1, .string t127, .bool true] (0, 0) _ rfl (by (with_reducible repeat (first | refine blk_drewN ?_ _ | refine blk_drew ?_ | refine blk_alloc ?_ _)); refine blk_put (cs := #[.string a0_1, .string t127, .bool false]) ?_ 2 _ rfl; (with_reducible repeat (first | refine blk_drewN ?_ _ | refine blk_drew ?_ | refine blk_alloc ?_ _)); refine blk_put (cs := #[.string a0_1, .string (⟨#[]⟩ : ByteArray), .bool false]) ?_ 1 _ rfl; (with_reducible repeat (first | refine blk_drewN ?_ _ | refine blk_drew ?_ | refine blk_alloc ?_ _)); refine blk_put (cs := #[.string (⟨#[]⟩ : ByteArray), .string (⟨#[]⟩ : ByteArray), .bool false]) ?_ 0 _ rfl; (with_reducible repeat (first | refine blk_drewN ?_ _ | refine blk_drew ?_ | refine blk_alloc ?_ _)); exact BK126.out) Try.underlying35 rfl (by kernel_rfl)) rfl ?_
        exact ⟨by first | rfl | (simp [errW_none, errW_some] <;> rfl) | (simp [*, errW_none, errW_some] <;> rfl), by repeat (first | (with_reducible first | exact HB.out | apply below_alloc | apply pw_below_drewN | apply below_drew1 | refine below_set ?_ GE125.out | refine below_set ?_ GE126.out) | exact HB.out)⟩
      · replace c8 := Bool.eq_false_iff.mpr c8
        subst c8
        have H1 : (if a0_0 = 3 then ((key_Of.f kj1 a0_1).bind fun bt128 => (some (bt128.1, bt128.2.1, bt128.2.2))) else (some ((⟨#[]⟩ : ByteArray), (⟨#[]⟩ : ByteArray), true))) = some (r1, r2, r3) := by rw [if_neg (show ¬ (false = true) by decide)] at H; exact H
        clear H
        have H := H1
        clear H1
        by_cases c14 : a0_0 = 3
        · rw [if_pos c14] at H
          have c14b0 : (a0_0 == 3) = true := beq_iff_eq.mpr c14
          have c14b1 : (a0_0 != 3) = false := bne_eq_false_iff_eq.mpr c14
          clear c14
          replace H := Option.bind_eq_some_iff.mp H
          obtain ⟨⟨t128, t129, t130⟩, A150, H⟩ := H
          replace H : (some (t128, t129, t130)) = some (r1, r2, r3) := H
          have A15 := Aside0.mk A150
          clear A150
          simp only [Option.some.injEq, Prod.mk.injEq] at H
          obtain ⟨rfl, rfl, rfl⟩ := H
          have hnb16 := NB125_126.out
          have hnc16 := NB126_125.out
          have hcz17_0 : wc.cell? ⟨gb125, 0, none⟩ = some (.int .u8 a0_0) := (blk_cell BK125.out 0).trans rfl
          have hcz17_1 : wc.cell? ⟨gb125, 1, none⟩ = some (.string a0_1) := (blk_cell BK125.out 1).trans rfl
          have hcz17_2 : wc.cell? ⟨gb125, 2, none⟩ = some (.string a0_2) := (blk_cell BK125.out 2).trans rfl
          have hcz17_3 : wc.cell? ⟨gb125, 3, none⟩ = some (.int .u32 a0_3) := (blk_cell BK125.out 3).trans rfl
          have hcz17_4 : wc.cell? ⟨gb125, 4, none⟩ = some (.int .u16 a0_4) := (blk_cell BK125.out 4).trans rfl
          have hcz17_5 : wc.cell? ⟨gb125, 5, none⟩ = some (.string a0_5) := (blk_cell BK125.out 5).trans rfl
          have hfz17_0 := blk_frozen BK125.out 0
          have hfz17_1 := blk_frozen BK125.out 1
          have hfz17_2 := blk_frozen BK125.out 2
          have hfz17_3 := blk_frozen BK125.out 3
          have hfz17_4 := blk_frozen BK125.out 4
          have hfz17_5 := blk_frozen BK125.out 5
          go_wp2_with (first | ((with_reducible refine gate_callee (f := 40) rfl ?_); refine goesL_ (some 18) rfl rfl Try.func40 (by kernel_rfl) rfl #[.string a0_1] rfl (by (try simp only [List.map_toArray, List.map_cons, List.map_nil]); first | done | rfl | (simp only [List.length_drop, List.length_take]; rfl)) ?_; (with_reducible refine (key_Of.calls kj1 a0_1 t128 t129 t130 _ A15.out).mono ?_); rintro e w18 ⟨rfl, hb⟩; refine ⟨_, rfl, ?_⟩; have n0_ := Aside0.mk (blk_below (g := gb125) (o := .cells #[.int .u8 a0_0, .string a0_1, .string a0_2, .int .u32 a0_3, .int .u16 a0_4, .string a0_5] 26 (0, 0)) (by (with_reducible repeat (first | refine blk_drewN ?_ _ | refine blk_drew ?_ | refine blk_alloc ?_ _)); exact BK125.out) hb); have n1_ := Aside0.mk (blk_below (g := gb126) (o := .cells #[.string (⟨#[]⟩ : ByteArray), .string (⟨#[]⟩ : ByteArray), .bool false] 35 (0, 0)) (by (with_reducible repeat (first | refine blk_drewN ?_ _ | refine blk_drew ?_ | refine blk_alloc ?_ _)); exact BK126.out) hb); have n2_ := Aside0.mk (below_step (by repeat (first | (with_reducible first | exact HB.out | apply below_alloc | apply pw_below_drewN | apply below_drew1 | refine below_set ?_ GE125.out | refine below_set ?_ GE126.out) | exact HB.out)) hb); clear BK125; clear BK126; clear HB; have BK125 := n0_; have BK126 := n1_; have HB := n2_; clear n0_ n1_ n2_; (try clear hb); (try clear hb2); (try clear hk); (try clear hi); have hcz19_0 : w18.cell? ⟨gb126, 0, none⟩ = some (.string (⟨#[]⟩ : ByteArray)) := (blk_cell BK126.out 0).trans rfl; have hcz19_1 : w18.cell? ⟨gb126, 1, none⟩ = some (.string (⟨#[]⟩ : ByteArray)) := (blk_cell BK126.out 1).trans rfl; have hcz19_2 : w18.cell? ⟨gb126, 2, none⟩ = some (.bool false) := (blk_cell BK126.out 2).trans rfl; have hfz19_0 := blk_frozen BK126.out 0; have hfz19_1 := blk_frozen BK126.out 1; have hfz19_2 := blk_frozen BK126.out 2))
          refine bodyPost_ret (results_cell_row rfl _ _ gb126 35 #[.string t128, .string t129, .bool t130] (0, 0) _ rfl (by (with_reducible repeat (first | refine blk_drewN ?_ _ | refine blk_drew ?_ | refine blk_alloc ?_ _)); refine blk_put (cs := #[.string t128, .string t129, .bool false]) ?_ 2 _ rfl; (with_reducible repeat (first | refine blk_drewN ?_ _ | refine blk_drew ?_ | refine blk_alloc ?_ _)); refine blk_put (cs := #[.string t128, .string (⟨#[]⟩ : ByteArray), .bool false]) ?_ 1 _ rfl; (with_reducible repeat (first | refine blk_drewN ?_ _ | refine blk_drew ?_ | refine blk_alloc ?_ _)); refine blk_put (cs := #[.string (⟨#[]⟩ : ByteArray), .string (⟨#[]⟩ : ByteArray), .bool false]) ?_ 0 _ rfl; (with_reducible repeat (first | refine blk_drewN ?_ _ | refine blk_drew ?_ | refine blk_alloc ?_ _)); exact BK126.out) Try.underlying35 rfl (by kernel_rfl)) rfl ?_
          exact ⟨by first | rfl | (simp [errW_none, errW_some] <;> rfl) | (simp [*, errW_none, errW_some] <;> rfl), by repeat (first | (with_reducible first | exact HB.out | apply below_alloc | apply pw_below_drewN | apply below_drew1 | refine below_set ?_ GE125.out | refine below_set ?_ GE126.out) | exact HB.out)⟩
        · rw [if_neg c14] at H
          have c14b0 : (a0_0 == 3) = false := beq_eq_false_iff_ne.mpr c14
          have c14b1 : (a0_0 != 3) = true := bne_iff_ne.mpr c14
          simp only [Option.some.injEq, Prod.mk.injEq] at H
          obtain ⟨rfl, rfl, rfl⟩ := H
          have hnb20 := NB126_125.out
          have hnc20 := NB125_126.out
          have hcz21_0 : wc.cell? ⟨gb126, 0, none⟩ = some (.string (⟨#[]⟩ : ByteArray)) := (blk_cell BK126.out 0).trans rfl
          have hcz21_1 : wc.cell? ⟨gb126, 1, none⟩ = some (.string (⟨#[]⟩ : ByteArray)) := (blk_cell BK126.out 1).trans rfl
          have hcz21_2 : wc.cell? ⟨gb126, 2, none⟩ = some (.bool false) := (blk_cell BK126.out 2).trans rfl
          have hfz21_0 := blk_frozen BK126.out 0
          have hfz21_1 := blk_frozen BK126.out 1
          have hfz21_2 := blk_frozen BK126.out 2
          go_wp2
          refine bodyPost_ret (results_cell_row rfl _ _ gb126 35 #[.string (⟨#[]⟩ : ByteArray), .string (⟨#[]⟩ : ByteArray), .bool true] (0, 0) _ rfl (by (with_reducible repeat (first | refine blk_drewN ?_ _ | refine blk_drew ?_ | refine blk_alloc ?_ _)); refine blk_put (cs := #[.string (⟨#[]⟩ : ByteArray), .string (⟨#[]⟩ : ByteArray), .bool false]) ?_ 2 _ rfl; (with_reducible repeat (first | refine blk_drewN ?_ _ | refine blk_drew ?_ | refine blk_alloc ?_ _)); refine blk_put (cs := #[.string (⟨#[]⟩ : ByteArray), .string (⟨#[]⟩ : ByteArray), .bool false]) ?_ 1 _ rfl; (with_reducible repeat (first | refine blk_drewN ?_ _ | refine blk_drew ?_ | refine blk_alloc ?_ _)); refine blk_put (cs := #[.string (⟨#[]⟩ : ByteArray), .string (⟨#[]⟩ : ByteArray), .bool false]) ?_ 0 _ rfl; (with_reducible repeat (first | refine blk_drewN ?_ _ | refine blk_drew ?_ | refine blk_alloc ?_ _)); exact BK126.out) Try.underlying35 rfl (by kernel_rfl)) rfl ?_
          exact ⟨by first | rfl | (simp [errW_none, errW_some] <;> rfl) | (simp [*, errW_none, errW_some] <;> rfl), by repeat (first | (with_reducible first | exact HB.out | apply below_alloc | apply pw_below_drewN | apply below_drew1 | refine below_set ?_ GE125.out | refine below_set ?_ GE126.out) | exact HB.out)⟩
end Go.Proofs.Ytcbcacppnlocdaa.PAll
namespace Go.Proofs.Ytcbcacppnlocdaa.PAll
open Go.RowKit Go.Proofs.YtcbcacppnlocdaaW.PrintWords Go.Proofs.YtcbcacppnlocdaaW.PrintLast Go.Proofs.YtcbcacppnlocdaaW.PrintMore
attribute [local go_sem] max2_int min2_int max_two min_two max_three min_three max_four min_four   -- for this text's walks alone
set_option linter.unusedVariables false
set_option linter.unusedSimpArgs false
set_option maxRecDepth 100000
def stringslite_HasPrefix.f (a0 : ByteArray) (a1 : ByteArray) : Option (Bool) := if (a0.size : Int) ≥ (a1.size : Int) then (if 0 ≤ (a1.size : Int) then (if (a1.size : Int) ≤ (a0.size : Int) then (some ((a0.extract 0 ((a1.size : Int) : Int).toNat).toList == a1.toList)) else (none)) else (none)) else (some false)
set_option maxHeartbeats 8000000 in
set_option maxRecDepth 100000 in
theorem stringslite_HasPrefix.calls (a0 : ByteArray) (a1 : ByteArray) (r : Bool) (w : World) (h : stringslite_HasPrefix.f a0 a1 = some r) :
    Calls Try.prog 63 #[.string a0, .string a1] w fun e w' => e = .returned (.bool r) ∧ Drawn0 w w' := by
  have H : (if (a0.size : Int) ≥ (a1.size : Int) then (if 0 ≤ (a1.size : Int) then (if (a1.size : Int) ≤ (a0.size : Int) then (some ((a0.extract 0 ((a1.size : Int) : Int).toNat).toList == a1.toList)) else (none)) else (none)) else (some false)) = some r := h
  clear h
  by_cases c3 : (a0.size : Int) ≥ (a1.size : Int)
  · rw [if_pos c3] at H
    have c3b0 : decide ((a1.size : Int) ≤ (a0.size : Int)) = true := decide_eq_true c3
    have c3b1 : decide (a1.size ≤ a0.size) = true := decide_eq_true (Int.ofNat_le.mp c3)
    clear c3
    by_cases c4 : 0 ≤ (a1.size : Int)
    · rw [if_pos c4] at H
      have c4b0 := eq_true c4
      have c4b1 : decide (0 ≤ (a1.size : Int)) = true := decide_eq_true c4
      clear c4
      by_cases c5 : (a1.size : Int) ≤ (a0.size : Int)
      · rw [if_pos c5] at H
        have c5b0 := eq_true c5
        have c5b1 : decide ((a1.size : Int) ≤ (a0.size : Int)) = true := decide_eq_true c5
        clear c5
        obtain rfl := Option.some.inj H
        go_enter Try.func63, Try.ntmps63
        go_wp2
        go_ret
        exact ⟨by first | rfl | (simp; done) | (simp [*]; done), by repeat (first | exact Drawn0.refl _ | apply Drawn0.step)⟩
      · rw [if_neg c5] at H
        exact absurd H (by simp)
    · rw [if_neg c4] at H
      exact absurd H (by simp)
  · rw [if_neg c3] at H
    have c3b0 : decide ((a1.size : Int) ≤ (a0.size : Int)) = false := decide_eq_false c3
    have c3b1 : decide (a1.size ≤ a0.size) = false := decide_eq_false (fun h => c3 (Int.ofNat_le.mpr h))
    clear c3
    obtain rfl := Option.some.inj H
    go_enter Try.func63, Try.ntmps63
    go_wp2
    go_ret
    exact ⟨by first | rfl | (simp; done) | (simp [*]; done), by repeat (first | exact Drawn0.refl _ | apply Drawn0.step)⟩
end Go.Proofs.Ytcbcacppnlocdaa.PAll
namespace Go.Proofs.Ytcbcacppnlocdaa.PAll
open Go.RowKit Go.Proofs.YtcbcacppnlocdaaW.PrintWords Go.Proofs.YtcbcacppnlocdaaW.PrintLast Go.Proofs.YtcbcacppnlocdaaW.PrintMore
attribute [local go_sem] max2_int min2_int max_two min_two max_three min_three max_four min_four   -- for this text's walks alone
set_option linter.unusedVariables false
set_option linter.unusedSimpArgs false
set_option maxRecDepth 100000
def stringslite_CutPrefix.f (a0 : ByteArray) (a1 : ByteArray) : Option (ByteArray × Bool) := (stringslite_HasPrefix.f a0 a1).bind fun t170 => (if t170 = true then (if 0 ≤ (a1.size : Int) then (if (a1.size : Int) ≤ (a0.size : Int) then (some (a0.extract ((a1.size : Int) : Int).toNat a0.size, true)) else (none)) else (none)) else (some (a0, false)))
set_option maxHeartbeats 8000000 in
set_option maxRecDepth 100000 in
theorem stringslite_CutPrefix.calls (a0 : ByteArray) (a1 : ByteArray) (r1 : ByteArray) (r2 : Bool) (w : World) (h : stringslite_CutPrefix.f a0 a1 = some (r1, r2)) :
    Calls Try.prog 58 #[.string a0, .string a1] w fun e w' => e = .returned (.tuple #[.string r1, .bool r2]) ∧ Drawn0 w w' := by
  have H : ((stringslite_HasPrefix.f a0 a1).bind fun t170 => (if t170 = true then (if 0 ≤ (a1.size : Int) then (if (a1.size : Int) ≤ (a0.size : Int) then (some (a0.extract ((a1.size : Int) : Int).toNat a0.size, true)) else (none)) else (none)) else (some (a0, false)))) = some (r1, r2) := h
  clear h
  replace H := Option.bind_eq_some_iff.mp H
  obtain ⟨t170, A30, H⟩ := H
  replace H : (if t170 = true then (if 0 ≤ (a1.size : Int) then (if (a1.size : Int) ≤ (a0.size : Int) then (some (a0.extract ((a1.size : Int) : Int).toNat a0.size, true)) else (none)) else (none)) else (some (a0, false))) = some (r1, r2) := H
  have A3 := Aside0.mk A30
  clear A30
  by_cases c4 : t170 = true
  · subst c4
    have H1 : (if 0 ≤ (a1.size : Int) then (if (a1.size : Int) ≤ (a0.size : Int) then (some (a0.extract ((a1.size : Int) : Int).toNat a0.size, true)) else (none)) else (none)) = some (r1, r2) := by rw [if_pos rfl] at H; exact H
    clear H
    have H := H1
    clear H1
    by_cases c5 : 0 ≤ (a1.size : Int)
    · rw [if_pos c5] at H
      have c5b0 := eq_true c5
      have c5b1 : decide (0 ≤ (a1.size : Int)) = true := decide_eq_true c5
      clear c5
      by_cases c6 : (a1.size : Int) ≤ (a0.size : Int)
      · rw [if_pos c6] at H
        have c6b0 := eq_true c6
        have c6b1 : decide ((a1.size : Int) ≤ (a0.size : Int)) = true := decide_eq_true c6
        clear c6
        simp only [Option.some.injEq, Prod.mk.injEq] at H
        obtain ⟨rfl, rfl⟩ := H
        go_enter Try.func58, Try.ntmps58
        go_wp2_with (first | ((with_reducible refine gate_callee (f := 63) rfl ?_); refine goesL_ (some 8) rfl rfl Try.func63 (by kernel_rfl) rfl #[.string a0, .string a1] rfl (by (try simp only [List.map_toArray, List.map_cons, List.map_nil]); first | done | rfl | (simp only [List.length_drop, List.length_take]; rfl)) ?_; (with_reducible refine (stringslite_HasPrefix.calls a0 a1 true _ A3.out).mono ?_); rintro e w' ⟨rfl, ⟨nd, rfl⟩⟩; refine ⟨_, rfl, ?_⟩))
        go_ret2
        exact ⟨by first | rfl | (simp; done) | (simp [*]; done), by repeat (first | exact Drawn0.refl _ | apply Drawn0.step)⟩
      · rw [if_neg c6] at H
        exact absurd H (by simp)
    · rw [if_neg c5] at H
      exact absurd H (by simp)
  · replace c4 := Bool.eq_false_iff.mpr c4
    subst c4
    have H1 : (some (a0, false)) = some (r1, r2) := by rw [if_neg (show ¬ (false = true) by decide)] at H; exact H
    clear H
    have H := H1
    clear H1
    simp only [Option.some.injEq, Prod.mk.injEq] at H
    obtain ⟨rfl, rfl⟩ := H
    go_enter Try.func58, Try.ntmps58
    go_wp2_with (first | ((with_reducible refine gate_callee (f := 63) rfl ?_); refine goesL_ (some 8) rfl rfl Try.func63 (by kernel_rfl) rfl #[.string a0, .string a1] rfl (by (try simp only [List.map_toArray, List.map_cons, List.map_nil]); first | done | rfl | (simp only [List.length_drop, List.length_take]; rfl)) ?_; (with_reducible refine (stringslite_HasPrefix.calls a0 a1 false _ A3.out).mono ?_); rintro e w' ⟨rfl, ⟨nd, rfl⟩⟩; refine ⟨_, rfl, ?_⟩))
    go_ret2
    exact ⟨by first | rfl | (simp; done) | (simp [*]; done), by repeat (first | exact Drawn0.refl _ | apply Drawn0.step)⟩
end Go.Proofs.Ytcbcacppnlocdaa.PAll
namespace Go.Proofs.Ytcbcacppnlocdaa.PAll
open Go.RowKit Go.Proofs.YtcbcacppnlocdaaW.PrintWords Go.Proofs.YtcbcacppnlocdaaW.PrintLast Go.Proofs.YtcbcacppnlocdaaW.PrintMore
attribute [local go_sem] max2_int min2_int max_two min_two max_three min_three max_four min_four   -- for this text's walks alone
set_option linter.unusedVariables false
set_option linter.unusedSimpArgs false
set_option maxRecDepth 100000
def strings_CutPrefix.f (a0 : ByteArray) (a1 : ByteArray) : Option (ByteArray × Bool) := (stringslite_CutPrefix.f a0 a1).bind fun bt171 => (some (bt171.1, bt171.2))
set_option maxHeartbeats 8000000 in
set_option maxRecDepth 100000 in
theorem strings_CutPrefix.calls (a0 : ByteArray) (a1 : ByteArray) (r1 : ByteArray) (r2 : Bool) (w : World) (h : strings_CutPrefix.f a0 a1 = some (r1, r2)) :
    Calls Try.prog 50 #[.string a0, .string a1] w fun e w' => e = .returned (.tuple #[.string r1, .bool r2]) ∧ Drawn0 w w' := by
  have H : ((stringslite_CutPrefix.f a0 a1).bind fun bt171 => (some (bt171.1, bt171.2))) = some (r1, r2) := h
  clear h
  replace H := Option.bind_eq_some_iff.mp H
  obtain ⟨⟨t171, t172⟩, A30, H⟩ := H
  replace H : (some (t171, t172)) = some (r1, r2) := H
  have A3 := Aside0.mk A30
  clear A30
  simp only [Option.some.injEq, Prod.mk.injEq] at H
  obtain ⟨rfl, rfl⟩ := H
  go_enter Try.func50, Try.ntmps50
  go_wp2_with (first | ((with_reducible refine gate_callee (f := 58) rfl ?_); refine goesL_ (some 8) rfl rfl Try.func58 (by kernel_rfl) rfl #[.string a0, .string a1] rfl (by (try simp only [List.map_toArray, List.map_cons, List.map_nil]); first | done | rfl | (simp only [List.length_drop, List.length_take]; rfl)) ?_; (with_reducible refine (stringslite_CutPrefix.calls a0 a1 t171 t172 _ A3.out).mono ?_); rintro e w' ⟨rfl, ⟨nd, rfl⟩⟩; refine ⟨_, rfl, ?_⟩))
  go_ret2
  exact ⟨by first | rfl | (simp; done) | (simp [*]; done), by repeat (first | exact Drawn0.refl _ | apply Drawn0.step)⟩
end Go.Proofs.Ytcbcacppnlocdaa.PAll
namespace Go.Proofs.Ytcbcacppnlocdaa.PAll
open Go.RowKit Go.Proofs.YtcbcacppnlocdaaW.PrintWords Go.Proofs.YtcbcacppnlocdaaW.PrintLast Go.Proofs.YtcbcacppnlocdaaW.PrintMore
attribute [local go_sem] max2_int min2_int max_two min_two max_three min_three max_four min_four   -- for this text's walks alone
set_option linter.unusedVariables false
set_option linter.unusedSimpArgs false
set_option maxRecDepth 100000
def msg_moved.f (a0_0 : Int) (a0_1 : ByteArray) (a0_2 : ByteArray) (a0_3 : Int) (a0_4 : Int) (a0_5 : ByteArray) (a1 : ByteArray) : Option (Int × ByteArray × ByteArray × Int × Int × ByteArray × Bool) := (strings_CutPrefix.f a0_1 a1).bind fun bt175 => (if bt175.2 = true then (some (a0_0, bt175.1, a0_2, a0_3, a0_4, a0_5, true)) else ((strings_CutPrefix.f a1 a0_1).bind fun bt177 => (if a0_0 = 3 then (if bt177.2 = true then (if (wrap64 ((a0_5.size : Int) + (bt177.1.size : Int))) > 16 then (some (a0_0, a0_1, a0_2, a0_3, a0_4, a0_5, false)) else (if a0_5.size + bt177.1.size ≤ 9223372036854775807 then (some (a0_0, (⟨#[]⟩ : ByteArray), a0_2, a0_3, a0_4, a0_5 ++ bt177.1, true)) else (none))) else (some (a0_0, a0_1, a0_2, a0_3, a0_4, a0_5, false))) else (some (a0_0, a0_1, a0_2, a0_3, a0_4, a0_5, false)))))
end Go.Proofs.Ytcbcacppnlocdaa.PAll
namespace Go.Proofs.Ytcbcacppnlocdaa.PAll
open Go Go.RowKit Go.Proofs.YtcbcacppnlocdaaW.PrintWords Go.Proofs.YtcbcacppnlocdaaW.PrintLast Go.Proofs.YtcbcacppnlocdaaW.PrintMore
set_option linter.unusedVariables false
set_option linter.unusedSimpArgs false
set_option maxRecDepth 100000
theorem box6 {W : World} {g t : Nat} {a b c d e f : Value} (h : W.heap[g]? = some (.cells #[a, b, c, d, e, f] t (0, 0))) :
    (W.cell? ⟨g, 0, none⟩ = some a ∧ W.cell? ⟨g, 1, none⟩ = some b ∧ W.cell? ⟨g, 2, none⟩ = some c ∧ W.cell? ⟨g, 3, none⟩ = some d ∧ W.cell? ⟨g, 4, none⟩ = some e ∧ W.cell? ⟨g, 5, none⟩ = some f)
    ∧ (W.frozen? ⟨g, 0, none⟩ = false ∧ W.frozen? ⟨g, 1, none⟩ = false ∧ W.frozen? ⟨g, 2, none⟩ = false ∧ W.frozen? ⟨g, 3, none⟩ = false ∧ W.frozen? ⟨g, 4, none⟩ = false ∧ W.frozen? ⟨g, 5, none⟩ = false) :=
  ⟨⟨(blk_cell h 0).trans rfl, (blk_cell h 1).trans rfl, (blk_cell h 2).trans rfl, (blk_cell h 3).trans rfl, (blk_cell h 4).trans rfl, (blk_cell h 5).trans rfl⟩, ⟨blk_frozen h 0, blk_frozen h 1, blk_frozen h 2, blk_frozen h 3, blk_frozen h 4, blk_frozen h 5⟩⟩
theorem set6_blk {w : World} {g t : Nat} {a b c d e f : Value} (h : w.heap[g]? = some (.cells #[a, b, c, d, e, f] t (0, 0))) (x y z u v s : Value) : ((((((w.setCell ⟨g, 0, none⟩ x).setCell ⟨g, 1, none⟩ y).setCell ⟨g, 2, none⟩ z).setCell ⟨g, 3, none⟩ u).setCell ⟨g, 4, none⟩ v).setCell ⟨g, 5, none⟩ s).heap[g]? = some (.cells #[x, y, z, u, v, s] t (0, 0)) :=
  blk_put (blk_put (blk_put (blk_put (blk_put (blk_put h 0 x rfl) 1 y rfl) 2 z rfl) 3 u rfl) 4 v rfl) 5 s rfl
theorem below_set6 {n : Nat} {W w : World} {g : Nat} (h : Below n W w) (hg : n ≤ g) (x y z u v s : Value) : Below n W ((((((w.setCell ⟨g, 0, none⟩ x).setCell ⟨g, 1, none⟩ y).setCell ⟨g, 2, none⟩ z).setCell ⟨g, 3, none⟩ u).setCell ⟨g, 4, none⟩ v).setCell ⟨g, 5, none⟩ s) :=
  ((((((h.setCell (p := ⟨g, 0, none⟩) hg x).setCell (p := ⟨g, 1, none⟩) hg y).setCell (p := ⟨g, 2, none⟩) hg z).setCell (p := ⟨g, 3, none⟩) hg u).setCell (p := ⟨g, 4, none⟩) hg v).setCell (p := ⟨g, 5, none⟩) hg s)
theorem two_after {w w1 : World} {X Y : Obj} (hb : Below ((w.alloc X).alloc Y).heap.size ((w.alloc X).alloc Y) w1) :
    w1.heap[w.heap.size]? = some X ∧ w1.heap[w.heap.size + 1]? = some Y ∧ Below w.heap.size w w1 := by
  have hs : (w.alloc X).heap.size = w.heap.size + 1 := World.size_alloc _ _
  refine ⟨blk_below (blk_alloc (blk_new _ _) _) hb, ?_, below_step (below_alloc (below_alloc (Below.refl _ _) _) _) hb⟩
  rw [← hs]; exact blk_below (blk_new _ _) hb
set_option maxHeartbeats 4000000 in
theorem msg_moved.calls (a0_0 : Int) (a0_1 : ByteArray) (a0_2 : ByteArray) (a0_3 : Int) (a0_4 : Int) (a0_5 : ByteArray) (a1 : ByteArray) (r1 : Int) (r2 : ByteArray) (r3 : ByteArray) (r4 : Int) (r5 : Int) (r6 : ByteArray) (r7 : Bool) (w : World) (h : msg_moved.f a0_0 a0_1 a0_2 a0_3 a0_4 a0_5 a1 = some (r1, r2, r3, r4, r5, r6, r7)) :
    Calls Try.prog 37 #[.agg #[.int .u8 a0_0, .string a0_1, .string a0_2, .int .u32 a0_3, .int .u16 a0_4, .string a0_5], .string a1] w fun e w' => e = .returned (.tuple #[.agg #[.int .u8 r1, .string r2, .string r3, .int .u32 r4, .int .u16 r5, .string r6], .bool r7]) ∧ Below w.heap.size w w' := by
  unfold msg_moved.f at h
  obtain ⟨⟨t1, b1⟩, A1, h⟩ := Option.bind_eq_some_iff.mp h
  have A1 := Aside0.mk A1
  have N1 : w.heap.size ≠ w.heap.size + 1 := by omega
  have N2 : w.heap.size + 1 ≠ w.heap.size := by omega
  cases b1 with
  | true =>
    simp only [if_true, Option.some.injEq, Prod.mk.injEq] at h
    obtain ⟨rfl, rfl, rfl, rfl, rfl, rfl, rfl⟩ := h
    go_enter Try.func37, Try.ntmps37
    go_wp2_with (go_at_call 50; refine (strings_CutPrefix.calls _ _ _ _ _ A1.out).mono ?_; rintro e w1 ⟨rfl, hb⟩; obtain ⟨h1, h2, h3⟩ := two_after hb.below; have H1 := Aside0.mk h1; have H2 := Aside0.mk h2; have HB := Aside0.mk h3; obtain ⟨⟨x0, x1, x2, x3, x4, x5⟩, y0, y1, y2, y3, y4, y5⟩ := box6 h1; obtain ⟨⟨v0, v1, v2, v3, v4, v5⟩, z0, z1, z2, z3, z4, z5⟩ := box6 h2; clear hb h1 h2 h3)
    (try simp only [Exit.inBlock, Exit.then])
    refine bodyPost_ret (results_ct rfl _ _ (w.heap.size + 1) 26 #[.int .u8 a0_0, .string t1, .string a0_2, .int .u32 a0_3, .int .u16 a0_4, .string a0_5] (0, 0) _ rfl (set6_blk (blk_far H2.out N2 _) _ _ _ _ _ _) Try.underlying26 rfl (by kernel_rfl)) rfl ?_
    exact ⟨rfl, below_set6 (HB.out.setCell (p := ⟨w.heap.size, 1, none⟩) (Nat.le_refl _) _) (by omega) _ _ _ _ _ _⟩
  | false =>
    simp only [Bool.false_eq_true, if_false] at h
    obtain ⟨⟨t2, b2⟩, A2, h⟩ := Option.bind_eq_some_iff.mp h
    have A2 := Aside0.mk A2
    dsimp only at h
    by_cases hk : a0_0 = 3
    case neg =>
      rw [if_neg hk] at h
      simp only [Option.some.injEq, Prod.mk.injEq] at h
      obtain ⟨rfl, rfl, rfl, rfl, rfl, rfl, rfl⟩ := h
      have hk0 : (a0_0 != 3) = true := bne_iff_ne.mpr hk
      have hk1 : (a0_0 == 3) = false := beq_eq_false_iff_ne.mpr hk
      clear hk
      go_enter Try.func37, Try.ntmps37
      go_wp2_with (first | (go_at_call 50; refine (strings_CutPrefix.calls _ _ _ _ _ A1.out).mono ?_; rintro e w1 ⟨rfl, hb⟩; obtain ⟨h1, h2, h3⟩ := two_after hb.below; have H1 := Aside0.mk h1; have H2 := Aside0.mk h2; have HB := Aside0.mk h3; obtain ⟨⟨x0, x1, x2, x3, x4, x5⟩, y0, y1, y2, y3, y4, y5⟩ := box6 h1; obtain ⟨⟨v0, v1, v2, v3, v4, v5⟩, z0, z1, z2, z3, z4, z5⟩ := box6 h2; clear hb h1 h2 h3 A1) | (go_at_call 50; refine (strings_CutPrefix.calls _ _ _ _ _ A2.out).mono ?_; rintro e w2 ⟨rfl, hb⟩; have h1 := blk_below H1.out hb.below; have h2 := blk_below H2.out hb.below; have h3 := below_step HB.out hb.below; clear H1 H2 HB x0 x1 x2 x3 x4 x5 y0 y1 y2 y3 y4 y5 z0 z1 z2 z3 z4 z5 v0 v1 v2 v3 v4 v5; have H1 := Aside0.mk h1; have H2 := Aside0.mk h2; have HB := Aside0.mk h3; obtain ⟨⟨x0, x1, x2, x3, x4, x5⟩, y0, y1, y2, y3, y4, y5⟩ := box6 h1; obtain ⟨⟨v0, v1, v2, v3, v4, v5⟩, z0, z1, z2, z3, z4, z5⟩ := box6 h2; clear hb h1 h2 h3))
      (try simp only [Exit.inBlock, Exit.then])
      refine bodyPost_ret (results_ct rfl _ _ (w.heap.size + 1) 26 #[.int .u8 a0_0, .string a0_1, .string a0_2, .int .u32 a0_3, .int .u16 a0_4, .string a0_5] (0, 0) _ rfl (set6_blk H2.out _ _ _ _ _ _) Try.underlying26 rfl (by kernel_rfl)) rfl ?_
      exact ⟨rfl, below_set6 HB.out (by omega) _ _ _ _ _ _⟩
    rw [if_pos hk] at h
    subst hk
    cases b2 with
    | false =>
      simp only [Bool.false_eq_true, if_false, Option.some.injEq, Prod.mk.injEq] at h
      obtain ⟨rfl, rfl, rfl, rfl, rfl, rfl, rfl⟩ := h
      go_enter Try.func37, Try.ntmps37
      go_wp2_with (first | (go_at_call 50; refine (strings_CutPrefix.calls _ _ _ _ _ A1.out).mono ?_; rintro e w1 ⟨rfl, hb⟩; obtain ⟨h1, h2, h3⟩ := two_after hb.below; have H1 := Aside0.mk h1; have H2 := Aside0.mk h2; have HB := Aside0.mk h3; obtain ⟨⟨x0, x1, x2, x3, x4, x5⟩, y0, y1, y2, y3, y4, y5⟩ := box6 h1; obtain ⟨⟨v0, v1, v2, v3, v4, v5⟩, z0, z1, z2, z3, z4, z5⟩ := box6 h2; clear hb h1 h2 h3 A1) | (go_at_call 50; refine (strings_CutPrefix.calls _ _ _ _ _ A2.out).mono ?_; rintro e w2 ⟨rfl, hb⟩; have h1 := blk_below H1.out hb.below; have h2 := blk_below H2.out hb.below; have h3 := below_step HB.out hb.below; clear H1 H2 HB x0 x1 x2 x3 x4 x5 y0 y1 y2 y3 y4 y5 z0 z1 z2 z3 z4 z5 v0 v1 v2 v3 v4 v5; have H1 := Aside0.mk h1; have H2 := Aside0.mk h2; have HB := Aside0.mk h3; obtain ⟨⟨x0, x1, x2, x3, x4, x5⟩, y0, y1, y2, y3, y4, y5⟩ := box6 h1; obtain ⟨⟨v0, v1, v2, v3, v4, v5⟩, z0, z1, z2, z3, z4, z5⟩ := box6 h2; clear hb h1 h2 h3))
      (try simp only [Exit.inBlock, Exit.then])
      refine bodyPost_ret (results_ct rfl _ _ (w.heap.size + 1) 26 #[.int .u8 3, .string a0_1, .string a0_2, .int .u32 a0_3, .int .u16 a0_4, .string a0_5] (0, 0) _ rfl (set6_blk H2.out _ _ _ _ _ _) Try.underlying26 rfl (by kernel_rfl)) rfl ?_
      exact ⟨rfl, below_set6 HB.out (by omega) _ _ _ _ _ _⟩
    | true =>
      simp only [if_true] at h
      have hw : IntKind.i64.wrap ((a0_5.size : Int) + (t2.size : Int)) = wrap64 ((a0_5.size : Int) + (t2.size : Int)) := i64_w _
      by_cases hg : wrap64 ((a0_5.size : Int) + (t2.size : Int)) > 16
      · rw [if_pos hg] at h
        simp only [Option.some.injEq, Prod.mk.injEq] at h
        obtain ⟨rfl, rfl, rfl, rfl, rfl, rfl, rfl⟩ := h
        have hg0 : decide (16 < wrap64 ((a0_5.size : Int) + (t2.size : Int))) = true := decide_eq_true hg
        clear hg
        go_enter Try.func37, Try.ntmps37
        go_wp2_with (first | (go_at_call 50; refine (strings_CutPrefix.calls _ _ _ _ _ A1.out).mono ?_; rintro e w1 ⟨rfl, hb⟩; obtain ⟨h1, h2, h3⟩ := two_after hb.below; have H1 := Aside0.mk h1; have H2 := Aside0.mk h2; have HB := Aside0.mk h3; obtain ⟨⟨x0, x1, x2, x3, x4, x5⟩, y0, y1, y2, y3, y4, y5⟩ := box6 h1; obtain ⟨⟨v0, v1, v2, v3, v4, v5⟩, z0, z1, z2, z3, z4, z5⟩ := box6 h2; clear hb h1 h2 h3 A1) | (go_at_call 50; refine (strings_CutPrefix.calls _ _ _ _ _ A2.out).mono ?_; rintro e w2 ⟨rfl, hb⟩; have h1 := blk_below H1.out hb.below; have h2 := blk_below H2.out hb.below; have h3 := below_step HB.out hb.below; clear H1 H2 HB x0 x1 x2 x3 x4 x5 y0 y1 y2 y3 y4 y5 z0 z1 z2 z3 z4 z5 v0 v1 v2 v3 v4 v5; have H1 := Aside0.mk h1; have H2 := Aside0.mk h2; have HB := Aside0.mk h3; obtain ⟨⟨x0, x1, x2, x3, x4, x5⟩, y0, y1, y2, y3, y4, y5⟩ := box6 h1; obtain ⟨⟨v0, v1, v2, v3, v4, v5⟩, z0, z1, z2, z3, z4, z5⟩ := box6 h2; clear hb h1 h2 h3))
        (try simp only [Exit.inBlock, Exit.then])
        refine bodyPost_ret (results_ct rfl _ _ (w.heap.size + 1) 26 #[.int .u8 3, .string a0_1, .string a0_2, .int .u32 a0_3, .int .u16 a0_4, .string a0_5] (0, 0) _ rfl (set6_blk H2.out _ _ _ _ _ _) Try.underlying26 rfl (by kernel_rfl)) rfl ?_
        exact ⟨rfl, below_set6 HB.out (by omega) _ _ _ _ _ _⟩
      · rw [if_neg hg] at h
        have hg0 : decide (16 < wrap64 ((a0_5.size : Int) + (t2.size : Int))) = false := decide_eq_false hg
        clear hg
        by_cases hs : a0_5.size + t2.size ≤ 9223372036854775807
        case neg => rw [if_neg hs] at h; cases h
        rw [if_pos hs] at h
        simp only [Option.some.injEq, Prod.mk.injEq] at h
        obtain ⟨rfl, rfl, rfl, rfl, rfl, rfl, rfl⟩ := h
        go_enter Try.func37, Try.ntmps37
        go_wp2_with (first | (go_at_call 50; refine (strings_CutPrefix.calls _ _ _ _ _ A1.out).mono ?_; rintro e w1 ⟨rfl, hb⟩; obtain ⟨h1, h2, h3⟩ := two_after hb.below; have H1 := Aside0.mk h1; have H2 := Aside0.mk h2; have HB := Aside0.mk h3; obtain ⟨⟨x0, x1, x2, x3, x4, x5⟩, y0, y1, y2, y3, y4, y5⟩ := box6 h1; obtain ⟨⟨v0, v1, v2, v3, v4, v5⟩, z0, z1, z2, z3, z4, z5⟩ := box6 h2; clear hb h1 h2 h3 A1) | (go_at_call 50; refine (strings_CutPrefix.calls _ _ _ _ _ A2.out).mono ?_; rintro e w2 ⟨rfl, hb⟩; have h1 := blk_below H1.out hb.below; have h2 := blk_below H2.out hb.below; have h3 := below_step HB.out hb.below; clear H1 H2 HB x0 x1 x2 x3 x4 x5 y0 y1 y2 y3 y4 y5 z0 z1 z2 z3 z4 z5 v0 v1 v2 v3 v4 v5; have H1 := Aside0.mk h1; have H2 := Aside0.mk h2; have HB := Aside0.mk h3; obtain ⟨⟨x0, x1, x2, x3, x4, x5⟩, y0, y1, y2, y3, y4, y5⟩ := box6 h1; obtain ⟨⟨v0, v1, v2, v3, v4, v5⟩, z0, z1, z2, z3, z4, z5⟩ := box6 h2; clear hb h1 h2 h3))
        (try simp only [Exit.inBlock, Exit.then])
        refine bodyPost_ret (results_ct rfl _ _ (w.heap.size + 1) 26 #[.int .u8 3, .string ⟨#[]⟩, .string a0_2, .int .u32 a0_3, .int .u16 a0_4, .string (a0_5 ++ t2)] (0, 0) _ rfl (set6_blk (blk_far (blk_far H2.out N2 _) N2 _) _ _ _ _ _ _) Try.underlying26 rfl (by kernel_rfl)) rfl ?_
        exact ⟨rfl, below_set6 ((HB.out.setCell (p := ⟨w.heap.size, 1, none⟩) (Nat.le_refl _) _).setCell (p := ⟨w.heap.size, 5, none⟩) (Nat.le_refl _) _) (by omega) _ _ _ _ _ _⟩
end Go.Proofs.Ytcbcacppnlocdaa.PAll
namespace Go.Proofs.Ytcbcacppnlocdaa.PAll
open Go Go.RowKit Go.Proofs.YtcbcacppnlocdaaW.PrintWords Go.Proofs.YtcbcacppnlocdaaW.PrintLast Go.Proofs.YtcbcacppnlocdaaW.PrintMore
set_option linter.unusedVariables false
set_option linter.unusedSimpArgs false
set_option maxRecDepth 100000
theorem maxS_if (x y : ByteArray) : Lib.maxS x y = if Op.bytesLess x.toList y.toList then y else x := by
  simp [Lib.maxS, Proofs.bytesLess_eq, Lib.toList_data]
theorem box3 {W : World} {g t : Nat} {a b c : Value} (h : W.heap[g]? = some (.cells #[a, b, c] t (0, 0))) :
    (W.cell? ⟨g, 0, none⟩ = some a ∧ W.cell? ⟨g, 1, none⟩ = some b ∧ W.cell? ⟨g, 2, none⟩ = some c) ∧ (W.frozen? ⟨g, 0, none⟩ = false ∧ W.frozen? ⟨g, 1, none⟩ = false ∧ W.frozen? ⟨g, 2, none⟩ = false) :=
  ⟨⟨(blk_cell h 0).trans rfl, (blk_cell h 1).trans rfl, (blk_cell h 2).trans rfl⟩, ⟨blk_frozen h 0, blk_frozen h 1, blk_frozen h 2⟩⟩
theorem put3_blk {w : World} {g t : Nat} {a b c : Value} (h : w.heap[g]? = some (.cells #[a, b, c] t (0, 0))) (x y z : Value) : (((w.setCell ⟨g, 0, none⟩ x).setCell ⟨g, 1, none⟩ y).setCell ⟨g, 2, none⟩ z).heap[g]? = some (.cells #[x, y, z] t (0, 0)) :=
  blk_put (blk_put (blk_put h 0 x rfl) 1 y rfl) 2 z rfl
theorem below_put3 {n : Nat} {W w : World} {g : Nat} (h : Below n W w) (hg : n ≤ g) (x y z : Value) : Below n W (((w.setCell ⟨g, 0, none⟩ x).setCell ⟨g, 1, none⟩ y).setCell ⟨g, 2, none⟩ z) :=
  (((h.setCell (p := ⟨g, 0, none⟩) hg x).setCell (p := ⟨g, 1, none⟩) hg y).setCell (p := ⟨g, 2, none⟩) hg z)
theorem four_after {w w1 : World} {A B C D : Obj} (hb : Below ((((w.alloc A).alloc B).alloc C).alloc D).heap.size ((((w.alloc A).alloc B).alloc C).alloc D) w1) :
    w1.heap[w.heap.size + 1 + 1]? = some C ∧ w1.heap[w.heap.size + 1 + 1 + 1]? = some D ∧ Below w.heap.size w w1 := by
  have h1 : (w.alloc A).heap.size = w.heap.size + 1 := World.size_alloc _ _
  have h2 : ((w.alloc A).alloc B).heap.size = w.heap.size + 1 + 1 := by rw [World.size_alloc, h1]
  have h3 : (((w.alloc A).alloc B).alloc C).heap.size = w.heap.size + 1 + 1 + 1 := by rw [World.size_alloc, h2]
  refine ⟨?_, ?_, below_step (below_alloc (below_alloc (below_alloc (below_alloc (Below.refl _ _) _) _) _) _) hb⟩
  · rw [← h2]; exact blk_below (blk_alloc (blk_new _ _) _) hb
  · rw [← h3]; exact blk_below (blk_new _ _) hb
theorem minS_if (x y : ByteArray) : Lib.minS x y = if Op.bytesLess y.toList x.toList then y else x := by
  unfold Lib.minS
  have := bl_of (x := x.toList) (y := y.toList)
  rw [Proofs.bytesLess_eq, Proofs.bytesLess_eq] at this
  rw [Proofs.bytesLess_eq]
  rw [← Lib.toList_data, ← Lib.toList_data]
  by_cases h : y.toList < x.toList
  · have e1 : ¬ (x.toList < y.toList ∨ x.toList = y.toList) := by
      rw [decide_eq_true h] at this
      simp only [Bool.not_true, Bool.or_eq_false_iff, decide_eq_false_iff_not, beq_eq_false_iff_ne] at this
      exact fun q => q.elim this.1 this.2
    rw [if_neg e1, if_pos (decide_eq_true h)]
  · have e1 : x.toList < y.toList ∨ x.toList = y.toList := by
      rw [decide_eq_false h] at this
      simp only [Bool.not_false, Bool.or_eq_true, decide_eq_true_eq, beq_iff_eq] at this
      exact this
    rw [if_pos e1, if_neg (by rw [decide_eq_false h]; decide)]
theorem cut_max {P : Program} (w : World) (ts : Array TypeId) (t : TypeId) (x y : ByteArray) : (Builtin.max_ ts t #[.string x, .string y]).run P w = .ok (.string (if Op.bytesLess x.toList y.toList then y else x)) w := by rw [Lib.run_max_strs, maxS_if]
theorem cut_min {P : Program} (w : World) (ts : Array TypeId) (t : TypeId) (x y : ByteArray) : (Builtin.min_ ts t #[.string x, .string y]).run P w = .ok (.string (if Op.bytesLess y.toList x.toList then y else x)) w := by rw [Lib.run_min_strs, minS_if]
set_option maxHeartbeats 1000000 in
theorem key_Cut.calls (k : Nat) (a0_0 : ByteArray) (a0_1 : ByteArray) (a0_2 : Bool) (a1_0 : ByteArray) (a1_1 : ByteArray) (a1_2 : Bool) (r1 : ByteArray) (r2 : ByteArray) (r3 : Bool) (w : World) (h : key_Cut.f k a0_0 a0_1 a0_2 a1_0 a1_1 a1_2 = some (r1, r2, r3)) :
    Calls Try.prog 36 #[.agg #[.string a0_0, .string a0_1, .bool a0_2], .agg #[.string a1_0, .string a1_1, .bool a1_2]] w fun e w' => e = .returned (.agg #[.string r1, .string r2, .bool r3]) ∧ Below w.heap.size w w' := by
  cases a0_2 <;> cases a1_2
  · obtain ⟨lo, hlo⟩ : ∃ lo, lo = (if Op.bytesLess a0_0.toList a1_0.toList then a1_0 else a0_0) := ⟨_, rfl⟩
    obtain ⟨hi, hhi⟩ : ∃ hi, hi = (⟨#[]⟩ : ByteArray) := ⟨_, rfl⟩
    have h1 : cutF a0_0 a0_1 false a1_0 a1_1 false = (r1, r2, r3) := Option.some.inj h
    unfold cutF at h1
    have x1 := fun w ts t => cut_max (P := Try.prog) w ts t a0_0 a1_0
    rw [← hlo] at x1
    simp only [if_true, if_false, Bool.false_eq_true, Bool.or_true, Bool.true_or, Bool.or_false, Bool.true_and, Bool.false_and] at h1
    rw [← hlo] at h1
    clear hlo
    simp only [Prod.mk.injEq] at h1
    obtain ⟨rfl, rfl, rfl⟩ := h1
    have HE := Aside0.mk (show key_Empty.f lo ⟨#[]⟩ false = some false from rfl)
    clear hhi h hi
    go_enter Try.func36, Try.ntmps36
    go_upto_region 8 with (fail)
    go_wp2_with (first | (go_at_call 35; refine (key_Empty.calls lo ⟨#[]⟩ false _ _ HE.out).mono ?_; rintro e w1 ⟨rfl, hb⟩; obtain ⟨h1, h2, h3⟩ := four_after hb; have H1 := Aside0.mk h1; have HB := Aside0.mk h3; obtain ⟨⟨z0, z1, z2⟩, y0, y1, y2⟩ := box3 h1; obtain ⟨⟨x0, x1, x2⟩, -⟩ := box3 h2; clear hb h1 h2 h3) | (go_at_call 49; refine (key_none.calls _ _ _ _ rfl).mono ?_; rintro e w2 ⟨rfl, hb⟩; have h1 := blk_below H1.out hb; have h3 := below_step HB.out hb; clear H1 HB x0 x1 x2 y0 y1 y2 z0 z1 z2; have H1 := Aside0.mk h1; have HB := Aside0.mk h3; obtain ⟨⟨z0, z1, z2⟩, y0, y1, y2⟩ := box3 h1; clear hb h1 h3))
    (try simp only [Exit.inBlock, Exit.then])
    refine bodyPost_ret (results_cell_row rfl _ _ (w.heap.size + 1 + 1) 35 #[.string lo, .string ⟨#[]⟩, .bool false] (0, 0) _ rfl (put3_blk H1.out _ _ _) Try.underlying35 rfl (by kernel_rfl)) rfl ?_
    exact ⟨rfl, below_put3 HB.out (by omega) _ _ _⟩
  · obtain ⟨lo, hlo⟩ : ∃ lo, lo = (if Op.bytesLess a0_0.toList a1_0.toList then a1_0 else a0_0) := ⟨_, rfl⟩
    obtain ⟨hi, hhi⟩ : ∃ hi, hi = a1_1 := ⟨_, rfl⟩
    have h1 : cutF a0_0 a0_1 false a1_0 a1_1 true = (r1, r2, r3) := Option.some.inj h
    unfold cutF at h1
    have x1 := fun w ts t => cut_max (P := Try.prog) w ts t a0_0 a1_0
    rw [← hlo] at x1
    simp only [if_true, if_false, Bool.false_eq_true, Bool.or_true, Bool.true_or, Bool.or_false, Bool.true_and, Bool.false_and] at h1
    rw [← hlo] at h1
    try rw [← hhi] at h1
    clear hlo
    try subst hhi
    cases hbl : Op.bytesLess lo.toList hi.toList with
    | true =>
      rw [hbl] at h1
      simp only [Bool.not_true, Bool.and_false, Bool.false_eq_true, if_false, Prod.mk.injEq] at h1
      obtain ⟨rfl, rfl, rfl⟩ := h1
      have HE := Aside0.mk (show key_Empty.f lo hi true = some false by simp [key_Empty.f, hbl])
      clear h hbl
      go_enter Try.func36, Try.ntmps36
      go_upto_region 8 with (fail)
      go_wp2_with (first | (go_at_call 35; refine (key_Empty.calls lo hi true _ _ HE.out).mono ?_; rintro e w1 ⟨rfl, hb⟩; obtain ⟨h1, h2, h3⟩ := four_after hb; have H1 := Aside0.mk h1; have HB := Aside0.mk h3; obtain ⟨⟨z0, z1, z2⟩, y0, y1, y2⟩ := box3 h1; obtain ⟨⟨x0, x1, x2⟩, -⟩ := box3 h2; clear hb h1 h2 h3) | (go_at_call 49; refine (key_none.calls _ _ _ _ rfl).mono ?_; rintro e w2 ⟨rfl, hb⟩; have h1 := blk_below H1.out hb; have h3 := below_step HB.out hb; clear H1 HB x0 x1 x2 y0 y1 y2 z0 z1 z2; have H1 := Aside0.mk h1; have HB := Aside0.mk h3; obtain ⟨⟨z0, z1, z2⟩, y0, y1, y2⟩ := box3 h1; clear hb h1 h3))
      (try simp only [Exit.inBlock, Exit.then])
      refine bodyPost_ret (results_cell_row rfl _ _ (w.heap.size + 1 + 1) 35 #[.string lo, .string hi, .bool true] (0, 0) _ rfl (put3_blk H1.out _ _ _) Try.underlying35 rfl (by kernel_rfl)) rfl ?_
      exact ⟨rfl, below_put3 HB.out (by omega) _ _ _⟩
    | false =>
      rw [hbl] at h1
      simp only [Bool.not_false, Bool.and_true, if_true, Prod.mk.injEq] at h1
      obtain ⟨rfl, rfl, rfl⟩ := h1
      have HE := Aside0.mk (show key_Empty.f lo hi true = some true by simp [key_Empty.f, hbl])
      clear h hbl
      go_enter Try.func36, Try.ntmps36
      go_upto_region 8 with (fail)
      go_wp2_with (first | (go_at_call 35; refine (key_Empty.calls lo hi true _ _ HE.out).mono ?_; rintro e w1 ⟨rfl, hb⟩; obtain ⟨h1, h2, h3⟩ := four_after hb; have H1 := Aside0.mk h1; have HB := Aside0.mk h3; obtain ⟨⟨z0, z1, z2⟩, y0, y1, y2⟩ := box3 h1; obtain ⟨⟨x0, x1, x2⟩, -⟩ := box3 h2; clear hb h1 h2 h3) | (go_at_call 49; refine (key_none.calls _ _ _ _ rfl).mono ?_; rintro e w2 ⟨rfl, hb⟩; have h1 := blk_below H1.out hb; have h3 := below_step HB.out hb; clear H1 HB x0 x1 x2 y0 y1 y2 z0 z1 z2; have H1 := Aside0.mk h1; have HB := Aside0.mk h3; obtain ⟨⟨z0, z1, z2⟩, y0, y1, y2⟩ := box3 h1; clear hb h1 h3))
      (try simp only [Exit.inBlock, Exit.then])
      refine bodyPost_ret (results_cell_row rfl _ _ (w.heap.size + 1 + 1) 35 #[.string ⟨#[]⟩, .string ⟨#[]⟩, .bool true] (0, 0) _ rfl (put3_blk H1.out _ _ _) Try.underlying35 rfl (by kernel_rfl)) rfl ?_
      exact ⟨rfl, below_put3 HB.out (by omega) _ _ _⟩
  · obtain ⟨lo, hlo⟩ : ∃ lo, lo = (if Op.bytesLess a0_0.toList a1_0.toList then a1_0 else a0_0) := ⟨_, rfl⟩
    obtain ⟨hi, hhi⟩ : ∃ hi, hi = (a0_1) := ⟨_, rfl⟩
    have h1 : cutF a0_0 a0_1 true a1_0 a1_1 false = (r1, r2, r3) := Option.some.inj h
    unfold cutF at h1
    have x1 := fun w ts t => cut_max (P := Try.prog) w ts t a0_0 a1_0
    rw [← hlo] at x1
    simp only [if_true, if_false, Bool.false_eq_true, Bool.or_true, Bool.true_or, Bool.or_false, Bool.true_and, Bool.false_and] at h1
    rw [← hlo] at h1
    try rw [← hhi] at h1
    clear hlo
    try subst hhi
    cases hbl : Op.bytesLess lo.toList hi.toList with
    | true =>
      rw [hbl] at h1
      simp only [Bool.not_true, Bool.and_false, Bool.false_eq_true, if_false, Prod.mk.injEq] at h1
      obtain ⟨rfl, rfl, rfl⟩ := h1
      have HE := Aside0.mk (show key_Empty.f lo hi true = some false by simp [key_Empty.f, hbl])
      clear h hbl
      go_enter Try.func36, Try.ntmps36
      go_upto_region 8 with (fail)
      go_wp2_with (first | (go_at_call 35; refine (key_Empty.calls lo hi true _ _ HE.out).mono ?_; rintro e w1 ⟨rfl, hb⟩; obtain ⟨h1, h2, h3⟩ := four_after hb; have H1 := Aside0.mk h1; have HB := Aside0.mk h3; obtain ⟨⟨z0, z1, z2⟩, y0, y1, y2⟩ := box3 h1; obtain ⟨⟨x0, x1, x2⟩, -⟩ := box3 h2; clear hb h1 h2 h3) | (go_at_call 49; refine (key_none.calls _ _ _ _ rfl).mono ?_; rintro e w2 ⟨rfl, hb⟩; have h1 := blk_below H1.out hb; have h3 := below_step HB.out hb; clear H1 HB x0 x1 x2 y0 y1 y2 z0 z1 z2; have H1 := Aside0.mk h1; have HB := Aside0.mk h3; obtain ⟨⟨z0, z1, z2⟩, y0, y1, y2⟩ := box3 h1; clear hb h1 h3))
      (try simp only [Exit.inBlock, Exit.then])
      refine bodyPost_ret (results_cell_row rfl _ _ (w.heap.size + 1 + 1) 35 #[.string lo, .string hi, .bool true] (0, 0) _ rfl (put3_blk H1.out _ _ _) Try.underlying35 rfl (by kernel_rfl)) rfl ?_
      exact ⟨rfl, below_put3 HB.out (by omega) _ _ _⟩
    | false =>
      rw [hbl] at h1
      simp only [Bool.not_false, Bool.and_true, if_true, Prod.mk.injEq] at h1
      obtain ⟨rfl, rfl, rfl⟩ := h1
      have HE := Aside0.mk (show key_Empty.f lo hi true = some true by simp [key_Empty.f, hbl])
      clear h hbl
      go_enter Try.func36, Try.ntmps36
      go_upto_region 8 with (fail)
      go_wp2_with (first | (go_at_call 35; refine (key_Empty.calls lo hi true _ _ HE.out).mono ?_; rintro e w1 ⟨rfl, hb⟩; obtain ⟨h1, h2, h3⟩ := four_after hb; have H1 := Aside0.mk h1; have HB := Aside0.mk h3; obtain ⟨⟨z0, z1, z2⟩, y0, y1, y2⟩ := box3 h1; obtain ⟨⟨x0, x1, x2⟩, -⟩ := box3 h2; clear hb h1 h2 h3) | (go_at_call 49; refine (key_none.calls _ _ _ _ rfl).mono ?_; rintro e w2 ⟨rfl, hb⟩; have h1 := blk_below H1.out hb; have h3 := below_step HB.out hb; clear H1 HB x0 x1 x2 y0 y1 y2 z0 z1 z2; have H1 := Aside0.mk h1; have HB := Aside0.mk h3; obtain ⟨⟨z0, z1, z2⟩, y0, y1, y2⟩ := box3 h1; clear hb h1 h3))
      (try simp only [Exit.inBlock, Exit.then])
      refine bodyPost_ret (results_cell_row rfl _ _ (w.heap.size + 1 + 1) 35 #[.string ⟨#[]⟩, .string ⟨#[]⟩, .bool true] (0, 0) _ rfl (put3_blk H1.out _ _ _) Try.underlying35 rfl (by kernel_rfl)) rfl ?_
      exact ⟨rfl, below_put3 HB.out (by omega) _ _ _⟩
  · obtain ⟨lo, hlo⟩ : ∃ lo, lo = (if Op.bytesLess a0_0.toList a1_0.toList then a1_0 else a0_0) := ⟨_, rfl⟩
    obtain ⟨hi, hhi⟩ : ∃ hi, hi = (if Op.bytesLess a1_1.toList a0_1.toList then a1_1 else a0_1) := ⟨_, rfl⟩
    have h1 : cutF a0_0 a0_1 true a1_0 a1_1 true = (r1, r2, r3) := Option.some.inj h
    unfold cutF at h1
    have x1 := fun w ts t => cut_max (P := Try.prog) w ts t a0_0 a1_0
    rw [← hlo] at x1
    have x2 := fun w ts t => cut_min (P := Try.prog) w ts t a0_1 a1_1
    rw [← hhi] at x2
    simp only [if_true, if_false, Bool.false_eq_true, Bool.or_true, Bool.true_or, Bool.or_false, Bool.true_and, Bool.false_and] at h1
    rw [← hlo] at h1
    try rw [← hhi] at h1
    clear hlo
    try clear hhi
    cases hbl : Op.bytesLess lo.toList hi.toList with
    | true =>
      rw [hbl] at h1
      simp only [Bool.not_true, Bool.and_false, Bool.false_eq_true, if_false, Prod.mk.injEq] at h1
      obtain ⟨rfl, rfl, rfl⟩ := h1
      have HE := Aside0.mk (show key_Empty.f lo hi true = some false by simp [key_Empty.f, hbl])
      clear h hbl
      go_enter Try.func36, Try.ntmps36
      go_upto_region 8 with (fail)
      go_wp2_with (first | (go_at_call 35; refine (key_Empty.calls lo hi true _ _ HE.out).mono ?_; rintro e w1 ⟨rfl, hb⟩; obtain ⟨h1, h2, h3⟩ := four_after hb; have H1 := Aside0.mk h1; have HB := Aside0.mk h3; obtain ⟨⟨z0, z1, z2⟩, y0, y1, y2⟩ := box3 h1; obtain ⟨⟨x0, x1, x2⟩, -⟩ := box3 h2; clear hb h1 h2 h3) | (go_at_call 49; refine (key_none.calls _ _ _ _ rfl).mono ?_; rintro e w2 ⟨rfl, hb⟩; have h1 := blk_below H1.out hb; have h3 := below_step HB.out hb; clear H1 HB x0 x1 x2 y0 y1 y2 z0 z1 z2; have H1 := Aside0.mk h1; have HB := Aside0.mk h3; obtain ⟨⟨z0, z1, z2⟩, y0, y1, y2⟩ := box3 h1; clear hb h1 h3))
      (try simp only [Exit.inBlock, Exit.then])
      refine bodyPost_ret (results_cell_row rfl _ _ (w.heap.size + 1 + 1) 35 #[.string lo, .string hi, .bool true] (0, 0) _ rfl (put3_blk H1.out _ _ _) Try.underlying35 rfl (by kernel_rfl)) rfl ?_
      exact ⟨rfl, below_put3 HB.out (by omega) _ _ _⟩
    | false =>
      rw [hbl] at h1
      simp only [Bool.not_false, Bool.and_true, if_true, Prod.mk.injEq] at h1
      obtain ⟨rfl, rfl, rfl⟩ := h1
      have HE := Aside0.mk (show key_Empty.f lo hi true = some true by simp [key_Empty.f, hbl])
      clear h hbl
      go_enter Try.func36, Try.ntmps36
      go_upto_region 8 with (fail)
      go_wp2_with (first | (go_at_call 35; refine (key_Empty.calls lo hi true _ _ HE.out).mono ?_; rintro e w1 ⟨rfl, hb⟩; obtain ⟨h1, h2, h3⟩ := four_after hb; have H1 := Aside0.mk h1; have HB := Aside0.mk h3; obtain ⟨⟨z0, z1, z2⟩, y0, y1, y2⟩ := box3 h1; obtain ⟨⟨x0, x1, x2⟩, -⟩ := box3 h2; clear hb h1 h2 h3) | (go_at_call 49; refine (key_none.calls _ _ _ _ rfl).mono ?_; rintro e w2 ⟨rfl, hb⟩; have h1 := blk_below H1.out hb; have h3 := below_step HB.out hb; clear H1 HB x0 x1 x2 y0 y1 y2 z0 z1 z2; have H1 := Aside0.mk h1; have HB := Aside0.mk h3; obtain ⟨⟨z0, z1, z2⟩, y0, y1, y2⟩ := box3 h1; clear hb h1 h3))
      (try simp only [Exit.inBlock, Exit.then])
      refine bodyPost_ret (results_cell_row rfl _ _ (w.heap.size + 1 + 1) 35 #[.string ⟨#[]⟩, .string ⟨#[]⟩, .bool true] (0, 0) _ rfl (put3_blk H1.out _ _ _) Try.underlying35 rfl (by kernel_rfl)) rfl ?_
      exact ⟨rfl, below_put3 HB.out (by omega) _ _ _⟩
end Go.Proofs.Ytcbcacppnlocdaa.PAll
namespace Go.Proofs.Ytcbcacppnlocdaa.PAll
open Go.RowKit Go.Proofs.YtcbcacppnlocdaaW.PrintWords Go.Proofs.YtcbcacppnlocdaaW.PrintLast Go.Proofs.YtcbcacppnlocdaaW.PrintMore
attribute [local go_sem] max2_int min2_int max_two min_two max_three min_three max_four min_four   -- for this text's walks alone
set_option linter.unusedVariables false
set_option linter.unusedSimpArgs false
set_option maxRecDepth 100000
theorem eqA35 (d : Nat) (w : World) (x0 y0 : ByteArray) (x1 y1 : ByteArray) (x2 y2 : Bool) :
    (Op.equalIn (d + 2) 35 (.agg #[.string x0, .string x1, .bool x2]) (.agg #[.string y0, .string y1, .bool y2])).run Try.prog w = .ok (x0.toList == y0.toList && (x1.toList == y1.toList && (x2 == y2))) w := by
  refine eqA_of Try.underlying35 (by kernel_rfl) ?_
  refine eqf_cons (by rfl) (by go_simp; rfl) (by go_simp; rfl) (by go_simp) ?_
  refine eqf_cons (by rfl) (by go_simp; rfl) (by go_simp; rfl) (by go_simp) ?_
  exact eqf_last (by rfl) (by go_simp; rfl) (by go_simp; rfl) (by go_simp)
end Go.Proofs.Ytcbcacppnlocdaa.PAll
namespace Go.Proofs.Ytcbcacppnlocdaa.PAll
open Go.RowKit Go.Proofs.YtcbcacppnlocdaaW.PrintWords Go.Proofs.YtcbcacppnlocdaaW.PrintLast Go.Proofs.YtcbcacppnlocdaaW.PrintMore
attribute [local go_sem] max2_int min2_int max_two min_two max_three min_three max_four min_four   -- for this text's walks alone
set_option linter.unusedVariables false
set_option linter.unusedSimpArgs false
set_option maxRecDepth 100000
attribute [local go_sem high] eqA35
def msg_covers.f (k : Nat) (a0_0 : Int) (a0_1 : ByteArray) (a0_2 : ByteArray) (a0_3 : Int) (a0_4 : Int) (a0_5 : ByteArray) (a1_0 : Int) (a1_1 : ByteArray) (a1_2 : ByteArray) (a1_3 : Int) (a1_4 : Int) (a1_5 : ByteArray) : Option (Bool) := (msg_About.f k a1_0 a1_1 a1_2 a1_3 a1_4 a1_5).bind fun bt143 => ((msg_About.f k a0_0 a0_1 a0_2 a0_3 a0_4 a0_5).bind fun bt147 => ((key_Cut.f k bt143.1 bt143.2.1 bt143.2.2 bt147.1 bt147.2.1 bt147.2.2).bind fun bt150 => ((key_Cut.f k bt143.1 bt143.2.1 bt143.2.2 bt143.1 bt143.2.1 bt143.2.2).bind fun bt153 => (some (bt150.1.toList == bt153.1.toList && (bt150.2.1.toList == bt153.2.1.toList && (bt150.2.2 == bt153.2.2)))))))
def msg_covers.T2 : Bool × List (List Nat × List Nat) := (true, [([], []), ([], []), ([1], [1]), ([0, 2, 2], [0, 2]), ([], []), ([], []), ([4, 5, 3], [4, 5]), ([3, 6], [3, 6]), ([7, 6, 0, 1, 2, 3, 4, 5, 6, 7], [7])])
def msg_covers.B2 : List Nat := [0, 0, 2, 7, 0, 0, 63, 127, 255]
theorem msg_covers.tab2 : rtab .any (opsOf Try.f32 2) = msg_covers.T2 := by kernel_rfl
theorem msg_covers.bits2 : waitsOk msg_covers.T2.2 msg_covers.B2 = true := by kernel_rfl
set_option maxHeartbeats 8000000 in
set_option maxRecDepth 100000 in
theorem msg_covers.calls (k : Nat) (a0_0 : Int) (a0_1 : ByteArray) (a0_2 : ByteArray) (a0_3 : Int) (a0_4 : Int) (a0_5 : ByteArray) (a1_0 : Int) (a1_1 : ByteArray) (a1_2 : ByteArray) (a1_3 : Int) (a1_4 : Int) (a1_5 : ByteArray) (r : Bool) (w : World) (h : msg_covers.f k a0_0 a0_1 a0_2 a0_3 a0_4 a0_5 a1_0 a1_1 a1_2 a1_3 a1_4 a1_5 = some r) :
    Calls Try.prog 32 #[.agg #[.int .u8 a0_0, .string a0_1, .string a0_2, .int .u32 a0_3, .int .u16 a0_4, .string a0_5], .agg #[.int .u8 a1_0, .string a1_1, .string a1_2, .int .u32 a1_3, .int .u16 a1_4, .string a1_5]] w fun e w' => e = .returned (.bool r) ∧ Below w.heap.size w w' := by
  have hu26 := Try.underlying26
  have hu35 := Try.underlying35
  have HB := Aside0.mk (Below.refl w.heap.size w)
  have H : ((msg_About.f k a1_0 a1_1 a1_2 a1_3 a1_4 a1_5).bind fun bt143 => ((msg_About.f k a0_0 a0_1 a0_2 a0_3 a0_4 a0_5).bind fun bt147 => ((key_Cut.f k bt143.1 bt143.2.1 bt143.2.2 bt147.1 bt147.2.1 bt147.2.2).bind fun bt150 => ((key_Cut.f k bt143.1 bt143.2.1 bt143.2.2 bt143.1 bt143.2.1 bt143.2.2).bind fun bt153 => (some (bt150.1.toList == bt153.1.toList && (bt150.2.1.toList == bt153.2.1.toList && (bt150.2.2 == bt153.2.2)))))))) = some r := h
  clear h
  replace H := Option.bind_eq_some_iff.mp H
  obtain ⟨⟨t143, t144, t145⟩, A30, H⟩ := H
  replace H : ((msg_About.f k a0_0 a0_1 a0_2 a0_3 a0_4 a0_5).bind fun bt147 => ((key_Cut.f k t143 t144 t145 bt147.1 bt147.2.1 bt147.2.2).bind fun bt150 => ((key_Cut.f k t143 t144 t145 t143 t144 t145).bind fun bt153 => (some (bt150.1.toList == bt153.1.toList && (bt150.2.1.toList == bt153.2.1.toList && (bt150.2.2 == bt153.2.2))))))) = some r := H
  have A3 := Aside0.mk A30
  clear A30
  replace H := Option.bind_eq_some_iff.mp H
  obtain ⟨⟨t147, t148, t149⟩, A40, H⟩ := H
  replace H : ((key_Cut.f k t143 t144 t145 t147 t148 t149).bind fun bt150 => ((key_Cut.f k t143 t144 t145 t143 t144 t145).bind fun bt153 => (some (bt150.1.toList == bt153.1.toList && (bt150.2.1.toList == bt153.2.1.toList && (bt150.2.2 == bt153.2.2)))))) = some r := H
  have A4 := Aside0.mk A40
  clear A40
  replace H := Option.bind_eq_some_iff.mp H
  obtain ⟨⟨t150, t151, t152⟩, A50, H⟩ := H
  replace H : ((key_Cut.f k t143 t144 t145 t143 t144 t145).bind fun bt153 => (some (t150.toList == bt153.1.toList && (t151.toList == bt153.2.1.toList && (t152 == bt153.2.2))))) = some r := H
  have A5 := Aside0.mk A50
  clear A50
  replace H := Option.bind_eq_some_iff.mp H
  obtain ⟨⟨t153, t154, t155⟩, A60, H⟩ := H
  replace H : (some (t150.toList == t153.toList && (t151.toList == t154.toList && (t152 == t155)))) = some r := H
  have A6 := Aside0.mk A60
  clear A60
  obtain rfl := Option.some.inj H
  go_enter Try.func32, Try.ntmps32
  try go_wp2_with (first | ((with_reducible refine gate_dst (N := 2) rfl ?_); refine box_event ?hg (N := 2) ?hd (cs := #[.int .u8 a0_0, .string a0_1, .string a0_2, .int .u32 a0_3, .int .u16 a0_4, .string a0_5]) (t := 26) ?hr ?_; (case hd => rfl); (case hg => rfl); (case hr => first | (go_simp; done) | (go_simp; rfl)); intro gb141 hg w7 hbox hb; have n0_ := Aside0.mk (below_step (by repeat (first | (with_reducible first | exact HB.out | apply below_alloc | apply pw_below_drewN | apply below_drew1) | exact HB.out)) hb); have n1_ := Aside0.mk (hbox); have n2_ := Aside0.mk ((by rw [hg]; exact (below_size (by repeat (first | (with_reducible first | exact HB.out | apply below_alloc | apply pw_below_drewN | apply below_drew1) | exact HB.out))) : w.heap.size ≤ gb141)); have n3_ := Aside0.mk ((by rw [hg]; exact (below_size (by repeat (first | (with_reducible first | exact HB.out | apply below_alloc | apply pw_below_drewN | apply below_drew1) | exact HB.out))) : w.heap.size ≤ gb141)); clear HB; have HB := n0_; have BK141 := n1_; have GW141 := n2_; have GE141 := n3_; clear n0_ n1_ n2_ n3_; clear hb hbox hg) | ((with_reducible refine gate_dst (N := 3) rfl ?_); refine box_event ?hg (N := 3) ?hd (cs := #[.int .u8 a1_0, .string a1_1, .string a1_2, .int .u32 a1_3, .int .u16 a1_4, .string a1_5]) (t := 26) ?hr ?_; (case hd => rfl); (case hg => rfl); (case hr => first | (go_simp; done) | (go_simp; rfl)); intro gb142 hg w8 hbox hb; have n0_ := Aside0.mk (blk_below (g := gb141) (o := .cells #[.int .u8 a0_0, .string a0_1, .string a0_2, .int .u32 a0_3, .int .u16 a0_4, .string a0_5] 26 (0, 0)) (by (with_reducible repeat (first | refine blk_drewN ?_ _ | refine blk_drew ?_ | refine blk_alloc ?_ _)); exact BK141.out) hb); have n1_ := Aside0.mk (below_step (by repeat (first | (with_reducible first | exact HB.out | apply below_alloc | apply pw_below_drewN | apply below_drew1 | refine below_set ?_ GE141.out) | exact HB.out)) hb); have n2_ := Aside0.mk (hbox); have n3_ := Aside0.mk ((by rw [hg]; exact (below_size (by repeat (first | (with_reducible first | exact HB.out | apply below_alloc | apply pw_below_drewN | apply below_drew1 | refine below_set ?_ GE141.out) | exact HB.out))) : w.heap.size ≤ gb142)); have n4_ := Aside0.mk ((by rw [hg]; exact (below_size (by repeat (first | (with_reducible first | exact HB.out | apply below_alloc | apply pw_below_drewN | apply below_drew1 | refine below_set ?_ GE141.out) | exact HB.out))) : w.heap.size ≤ gb142)); have n5_ := Aside0.mk ((by rw [hg]; exact Nat.ne_of_lt (blk_lt (g := gb141) (o := .cells #[.int .u8 a0_0, .string a0_1, .string a0_2, .int .u32 a0_3, .int .u16 a0_4, .string a0_5] 26 (0, 0)) (by (with_reducible repeat (first | refine blk_drewN ?_ _ | refine blk_drew ?_ | refine blk_alloc ?_ _)); exact BK141.out)) : gb141 ≠ gb142)); have n6_ := Aside0.mk ((by rw [hg]; exact Nat.ne_of_gt (blk_lt (g := gb141) (o := .cells #[.int .u8 a0_0, .string a0_1, .string a0_2, .int .u32 a0_3, .int .u16 a0_4, .string a0_5] 26 (0, 0)) (by (with_reducible repeat (first | refine blk_drewN ?_ _ | refine blk_drew ?_ | refine blk_alloc ?_ _)); exact BK141.out)) : gb142 ≠ gb141)); clear BK141; clear HB; have BK141 := n0_; have HB := n1_; have BK142 := n2_; have GW142 := n3_; have GE142 := n4_; have NB141_142 := n5_; have NB142_141 := n6_; clear n0_ n1_ n2_ n3_ n4_ n5_ n6_; clear hb hbox hg; have hnb9 := NB142_141.out; have hnc9 := NB141_142.out; have hcz10_0 : w8.cell? ⟨gb142, 0, none⟩ = some (.int .u8 a1_0) := (blk_cell BK142.out 0).trans rfl; have hcz10_1 : w8.cell? ⟨gb142, 1, none⟩ = some (.string a1_1) := (blk_cell BK142.out 1).trans rfl; have hcz10_2 : w8.cell? ⟨gb142, 2, none⟩ = some (.string a1_2) := (blk_cell BK142.out 2).trans rfl; have hcz10_3 : w8.cell? ⟨gb142, 3, none⟩ = some (.int .u32 a1_3) := (blk_cell BK142.out 3).trans rfl; have hcz10_4 : w8.cell? ⟨gb142, 4, none⟩ = some (.int .u16 a1_4) := (blk_cell BK142.out 4).trans rfl; have hcz10_5 : w8.cell? ⟨gb142, 5, none⟩ = some (.string a1_5) := (blk_cell BK142.out 5).trans rfl; have hfz10_0 := blk_frozen BK142.out 0; have hfz10_1 := blk_frozen BK142.out 1; have hfz10_2 := blk_frozen BK142.out 2; have hfz10_3 := blk_frozen BK142.out 3; have hfz10_4 := blk_frozen BK142.out 4; have hfz10_5 := blk_frozen BK142.out 5) | ((with_reducible refine gate_callee (f := 23) rfl ?_); refine goesL_ (some 7) rfl rfl Try.func23 (by kernel_rfl) rfl #[.agg #[.int .u8 a1_0, .string a1_1, .string a1_2, .int .u32 a1_3, .int .u16 a1_4, .string a1_5]] rfl (by (try simp only [List.map_toArray, List.map_cons, List.map_nil]); first | done | rfl | (simp only [List.length_drop, List.length_take]; rfl)) ?_; (with_reducible refine (msg_About.calls k a1_0 a1_1 a1_2 a1_3 a1_4 a1_5 t143 t144 t145 _ A3.out).mono ?_); rintro e w11 ⟨rfl, hb⟩; refine ⟨_, rfl, ?_⟩; have n0_ := Aside0.mk (blk_below (g := gb141) (o := .cells #[.int .u8 a0_0, .string a0_1, .string a0_2, .int .u32 a0_3, .int .u16 a0_4, .string a0_5] 26 (0, 0)) (by (with_reducible repeat (first | refine blk_drewN ?_ _ | refine blk_drew ?_ | refine blk_alloc ?_ _)); exact BK141.out) hb); have n1_ := Aside0.mk (blk_below (g := gb142) (o := .cells #[.int .u8 a1_0, .string a1_1, .string a1_2, .int .u32 a1_3, .int .u16 a1_4, .string a1_5] 26 (0, 0)) (by (with_reducible repeat (first | refine blk_drewN ?_ _ | refine blk_drew ?_ | refine blk_alloc ?_ _)); exact BK142.out) hb); have n2_ := Aside0.mk (below_step (by repeat (first | (with_reducible first | exact HB.out | apply below_alloc | apply pw_below_drewN | apply below_drew1 | refine below_set ?_ GE141.out | refine below_set ?_ GE142.out) | exact HB.out)) hb); clear BK141; clear BK142; clear HB; have BK141 := n0_; have BK142 := n1_; have HB := n2_; clear n0_ n1_ n2_; (try clear hb); (try clear hb2); (try clear hk); (try clear hi)) | ((with_reducible refine gate_dst (N := 5) rfl ?_); refine box_event ?hg (N := 5) ?hd (cs := #[.string (⟨#[]⟩ : ByteArray), .string (⟨#[]⟩ : ByteArray), .bool false]) (t := 35) ?hr ?_; (case hd => rfl); (case hg => rfl); (case hr => first | (go_simp; done) | (go_simp; rfl)); intro gb146 hg w12 hbox hb; have n0_ := Aside0.mk (blk_below (g := gb141) (o := .cells #[.int .u8 a0_0, .string a0_1, .string a0_2, .int .u32 a0_3, .int .u16 a0_4, .string a0_5] 26 (0, 0)) (by (with_reducible repeat (first | refine blk_drewN ?_ _ | refine blk_drew ?_ | refine blk_alloc ?_ _)); exact BK141.out) hb); have n1_ := Aside0.mk (blk_below (g := gb142) (o := .cells #[.int .u8 a1_0, .string a1_1, .string a1_2, .int .u32 a1_3, .int .u16 a1_4, .string a1_5] 26 (0, 0)) (by (with_reducible repeat (first | refine blk_drewN ?_ _ | refine blk_drew ?_ | refine blk_alloc ?_ _)); exact BK142.out) hb); have n2_ := Aside0.mk (below_step (by repeat (first | (with_reducible first | exact HB.out | apply below_alloc | apply pw_below_drewN | apply below_drew1 | refine below_set ?_ GE141.out | refine below_set ?_ GE142.out) | exact HB.out)) hb); have n3_ := Aside0.mk (hbox); have n4_ := Aside0.mk ((by rw [hg]; exact (below_size (by repeat (first | (with_reducible first | exact HB.out | apply below_alloc | apply pw_below_drewN | apply below_drew1 | refine below_set ?_ GE141.out | refine below_set ?_ GE142.out) | exact HB.out))) : w.heap.size ≤ gb146)); have n5_ := Aside0.mk ((by rw [hg]; exact (below_size (by repeat (first | (with_reducible first | exact HB.out | apply below_alloc | apply pw_below_drewN | apply below_drew1 | refine below_set ?_ GE141.out | refine below_set ?_ GE142.out) | exact HB.out))) : w.heap.size ≤ gb146)); have n6_ := Aside0.mk ((by rw [hg]; exact Nat.ne_of_lt (blk_lt (g := gb141) (o := .cells #[.int .u8 a0_0, .string a0_1, .string a0_2, .int .u32 a0_3, .int .u16 a0_4, .string a0_5] 26 (0, 0)) (by (with_reducible repeat (first | refine blk_drewN ?_ _ | refine blk_drew ?_ | refine blk_alloc ?_ _)); exact BK141.out)) : gb141 ≠ gb146)); have n7_ := Aside0.mk ((by rw [hg]; exact Nat.ne_of_gt (blk_lt (g := gb141) (o := .cells #[.int .u8 a0_0, .string a0_1, .string a0_2, .int .u32 a0_3, .int .u16 a0_4, .string a0_5] 26 (0, 0)) (by (with_reducible repeat (first | refine blk_drewN ?_ _ | refine blk_drew ?_ | refine blk_alloc ?_ _)); exact BK141.out)) : gb146 ≠ gb141)); have n8_ := Aside0.mk ((by rw [hg]; exact Nat.ne_of_lt (blk_lt (g := gb142) (o := .cells #[.int .u8 a1_0, .string a1_1, .string a1_2, .int .u32 a1_3, .int .u16 a1_4, .string a1_5] 26 (0, 0)) (by (with_reducible repeat (first | refine blk_drewN ?_ _ | refine blk_drew ?_ | refine blk_alloc ?_ _)); exact BK142.out)) : gb142 ≠ gb146)); have n9_ := Aside0.mk ((by rw [hg]; exact Nat.ne_of_gt (blk_lt (g := gb142) (o := .cells #[.int .u8 a1_0, .string a1_1, .string a1_2, .int .u32 a1_3, .int .u16 a1_4, .string a1_5] 26 (0, 0)) (by (with_reducible repeat (first | refine blk_drewN ?_ _ | refine blk_drew ?_ | refine blk_alloc ?_ _)); exact BK142.out)) : gb146 ≠ gb142)); clear BK141; clear BK142; clear HB; have BK141 := n0_; have BK142 := n1_; have HB := n2_; have BK146 := n3_; have GW146 := n4_; have GE146 := n5_; have NB141_146 := n6_; have NB146_141 := n7_; have NB142_146 := n8_; have NB146_142 := n9_; clear n0_ n1_ n2_ n3_ n4_ n5_ n6_ n7_ n8_ n9_; clear hb hbox hg; have hnb13 := NB146_141.out; have hnc13 := NB141_146.out; have hnb14 := NB146_142.out; have hnc14 := NB142_146.out; have hcz15_0 : w12.cell? ⟨gb146, 0, none⟩ = some (.string (⟨#[]⟩ : ByteArray)) := (blk_cell BK146.out 0).trans rfl; have hcz15_1 : w12.cell? ⟨gb146, 1, none⟩ = some (.string (⟨#[]⟩ : ByteArray)) := (blk_cell BK146.out 1).trans rfl; have hcz15_2 : w12.cell? ⟨gb146, 2, none⟩ = some (.bool false) := (blk_cell BK146.out 2).trans rfl; have hfz15_0 := blk_frozen BK146.out 0; have hfz15_1 := blk_frozen BK146.out 1; have hfz15_2 := blk_frozen BK146.out 2))
  have n0_ : Aside0 ((((w12.setCell ⟨gb146, 0, none⟩ (.string t143)).setCell ⟨gb146, 1, none⟩ (.string t144)).setCell ⟨gb146, 2, none⟩ (.bool t145)).heap[gb141]? = some (.cells #[.int .u8 a0_0, .string a0_1, .string a0_2, .int .u32 a0_3, .int .u16 a0_4, .string a0_5] 26 (0, 0))) := ⟨by (with_reducible repeat (first | refine blk_drewN ?_ _ | refine blk_drew ?_ | refine blk_alloc ?_ _)); refine blk_far ?_ NB141_146.out _; (with_reducible repeat (first | refine blk_drewN ?_ _ | refine blk_drew ?_ | refine blk_alloc ?_ _)); refine blk_far ?_ NB141_146.out _; (with_reducible repeat (first | refine blk_drewN ?_ _ | refine blk_drew ?_ | refine blk_alloc ?_ _)); refine blk_far ?_ NB141_146.out _; (with_reducible repeat (first | refine blk_drewN ?_ _ | refine blk_drew ?_ | refine blk_alloc ?_ _)); exact BK141.out⟩
  have n1_ : Aside0 ((((w12.setCell ⟨gb146, 0, none⟩ (.string t143)).setCell ⟨gb146, 1, none⟩ (.string t144)).setCell ⟨gb146, 2, none⟩ (.bool t145)).heap[gb142]? = some (.cells #[.int .u8 a1_0, .string a1_1, .string a1_2, .int .u32 a1_3, .int .u16 a1_4, .string a1_5] 26 (0, 0))) := ⟨by (with_reducible repeat (first | refine blk_drewN ?_ _ | refine blk_drew ?_ | refine blk_alloc ?_ _)); refine blk_far ?_ NB142_146.out _; (with_reducible repeat (first | refine blk_drewN ?_ _ | refine blk_drew ?_ | refine blk_alloc ?_ _)); refine blk_far ?_ NB142_146.out _; (with_reducible repeat (first | refine blk_drewN ?_ _ | refine blk_drew ?_ | refine blk_alloc ?_ _)); refine blk_far ?_ NB142_146.out _; (with_reducible repeat (first | refine blk_drewN ?_ _ | refine blk_drew ?_ | refine blk_alloc ?_ _)); exact BK142.out⟩
  have n2_ : Aside0 ((((w12.setCell ⟨gb146, 0, none⟩ (.string t143)).setCell ⟨gb146, 1, none⟩ (.string t144)).setCell ⟨gb146, 2, none⟩ (.bool t145)).heap[gb146]? = some (.cells #[.string t143, .string t144, .bool t145] 35 (0, 0))) := ⟨by (with_reducible repeat (first | refine blk_drewN ?_ _ | refine blk_drew ?_ | refine blk_alloc ?_ _)); refine blk_put (cs := #[.string t143, .string t144, .bool false]) ?_ 2 _ rfl; (with_reducible repeat (first | refine blk_drewN ?_ _ | refine blk_drew ?_ | refine blk_alloc ?_ _)); refine blk_put (cs := #[.string t143, .string (⟨#[]⟩ : ByteArray), .bool false]) ?_ 1 _ rfl; (with_reducible repeat (first | refine blk_drewN ?_ _ | refine blk_drew ?_ | refine blk_alloc ?_ _)); refine blk_put (cs := #[.string (⟨#[]⟩ : ByteArray), .string (⟨#[]⟩ : ByteArray), .bool false]) ?_ 0 _ rfl; (with_reducible repeat (first | refine blk_drewN ?_ _ | refine blk_drew ?_ | refine blk_alloc ?_ _)); exact BK146.out⟩
  have n3_ : Aside0 (Below w.heap.size w (((w12.setCell ⟨gb146, 0, none⟩ (.string t143)).setCell ⟨gb146, 1, none⟩ (.string t144)).setCell ⟨gb146, 2, none⟩ (.bool t145))) := ⟨by repeat (first | (with_reducible first | exact HB.out | apply below_alloc | apply pw_below_drewN | apply below_drew1 | refine below_set ?_ GE141.out | refine below_set ?_ GE142.out | refine below_set ?_ GE146.out) | exact HB.out)⟩
  (try clear BK141)
  (try clear BK142)
  (try clear BK146)
  (try clear HB)
  generalize (((w12.setCell ⟨gb146, 0, none⟩ (.string t143)).setCell ⟨gb146, 1, none⟩ (.string t144)).setCell ⟨gb146, 2, none⟩ (.bool t145)) = w16 at n0_ n1_ n2_ n3_ ⊢
  have BK141 := n0_
  have BK142 := n1_
  have BK146 := n2_
  have HB := n3_
  clear n0_ n1_ n2_ n3_
  have n0_ := Aside0.mk (blk_drew BK141.out)
  have n1_ := Aside0.mk (blk_drew BK142.out)
  have n2_ := Aside0.mk (blk_drew BK146.out)
  have n3_ := Aside0.mk (below_drew1 HB.out)
  clear BK141
  clear BK142
  clear BK146
  clear HB
  have BK141 := n0_
  have BK142 := n1_
  have BK146 := n2_
  have HB := n3_
  clear n0_ n1_ n2_ n3_
  refine start_ (n := 9) (S := fun w' => w'.cell? ⟨gb146, 0, none⟩ = some (.string t143) ∧ w'.cell? ⟨gb146, 1, none⟩ = some (.string t144) ∧ w'.cell? ⟨gb146, 2, none⟩ = some (.bool t145) ∧ w'.cell? ⟨gb141, 0, none⟩ = some (.int .u8 a0_0) ∧ w'.cell? ⟨gb141, 1, none⟩ = some (.string a0_1) ∧ w'.cell? ⟨gb141, 2, none⟩ = some (.string a0_2) ∧ w'.cell? ⟨gb141, 3, none⟩ = some (.int .u32 a0_3) ∧ w'.cell? ⟨gb141, 4, none⟩ = some (.int .u16 a0_4) ∧ w'.cell? ⟨gb141, 5, none⟩ = some (.string a0_5)) (ds := []) #[false, false, false, false, false, false, false, false, false] (by kernel_rfl) rfl rfl ⟨(blk_cell BK146.out 0).trans rfl, (blk_cell BK146.out 1).trans rfl, (blk_cell BK146.out 2).trans rfl, (blk_cell BK141.out 0).trans rfl, (blk_cell BK141.out 1).trans rfl, (blk_cell BK141.out 2).trans rfl, (blk_cell BK141.out 3).trans rfl, (blk_cell BK141.out 4).trans rfl, (blk_cell BK141.out 5).trans rfl⟩ (fun hHeld => ?_); refine with_tabW msg_covers.tab2 msg_covers.bits2 (fun HT_ HW_ => ?_)
  generalize w16.drew = w17 at BK141 BK142 BK146 HB hHeld ⊢
  refine take_ (i := 0) (N := some 8) (v := ?_) (a' := ?_) #[true, false, false, false, false, false, false, false, false] rfl rfl (take_ofW HT_.out HW_.out (by kernel_rfl)) (fun _ _ _ h => h) (Or.inl ⟨by rfl, ?_⟩) hHeld ?_ ?_
  rotate_left
  · rintro w' ⟨s0, s1, s2, s3, s4, s5, s6, s7, s8⟩
    go_simp
    with_reducible rfl
  rotate_left
  · simp only [Act.put, List.setIfInBounds_toArray, List.set_cons_zero, List.set_cons_succ, i64_w, i32_w]
    rfl
  refine take_ (i := 1) (N := some 9) (v := ?_) (a' := ?_) #[true, true, false, false, false, false, false, false, false] rfl rfl (take_ofW HT_.out HW_.out (by kernel_rfl)) (fun _ _ _ h => h) (Or.inl ⟨by rfl, ?_⟩) hHeld ?_ ?_
  rotate_left
  · rintro w' ⟨s0, s1, s2, s3, s4, s5, s6, s7, s8⟩
    go_simp
    with_reducible rfl
  rotate_left
  · simp only [Act.put, List.setIfInBounds_toArray, List.set_cons_zero, List.set_cons_succ, i64_w, i32_w]
    rfl
  refine take_ (i := 4) (N := some 12) (v := ?_) (a' := ?_) #[true, true, false, false, true, false, false, false, false] rfl rfl (take_ofW HT_.out HW_.out (by kernel_rfl)) (fun _ _ _ h => h) (Or.inl ⟨by rfl, ?_⟩) hHeld ?_ ?_
  rotate_left
  · rintro w' ⟨s0, s1, s2, s3, s4, s5, s6, s7, s8⟩
    go_simp
    with_reducible rfl
  rotate_left
  · simp only [Act.put, List.setIfInBounds_toArray, List.set_cons_zero, List.set_cons_succ, i64_w, i32_w]
    rfl
  refine take_ (i := 5) (N := some 13) (v := ?_) (a' := ?_) #[true, true, false, false, true, true, false, false, false] rfl rfl (take_ofW HT_.out HW_.out (by kernel_rfl)) (fun _ _ _ h => h) (Or.inl ⟨by rfl, ?_⟩) hHeld ?_ ?_
  rotate_left
  · rintro w' ⟨s0, s1, s2, s3, s4, s5, s6, s7, s8⟩
    go_simp
    with_reducible rfl
  rotate_left
  · simp only [Act.put, List.setIfInBounds_toArray, List.set_cons_zero, List.set_cons_succ, i64_w, i32_w]
    rfl
  refine one_ (i := 2) (N := some 10) #[true, true, true, false, true, true, false, false, false] rfl rfl (one_of HT_.out (by kernel_rfl)) (by decide) (fun K hK => ?_)
  refine goes_ Try.func23 (by kernel_rfl) rfl #[.agg #[.int .u8 a0_0, .string a0_1, .string a0_2, .int .u32 a0_3, .int .u16 a0_4, .string a0_5]] (by rfl) rfl rfl (by (try simp only [List.map_toArray, List.map_cons, List.map_nil]); first | done | rfl | (simp only [List.length_drop, List.length_take]; rfl)) ?_
  with_reducible refine (msg_About.calls k a0_0 a0_1 a0_2 a0_3 a0_4 a0_5 t147 t148 t149 _ A4.out).mono ?_
  rintro e w18 ⟨rfl, hb⟩
  refine ⟨_, rfl, ?_⟩
  have n0_ := Aside0.mk (blk_below (g := gb141) (o := .cells #[.int .u8 a0_0, .string a0_1, .string a0_2, .int .u32 a0_3, .int .u16 a0_4, .string a0_5] 26 (0, 0)) (by (with_reducible repeat (first | refine blk_drewN ?_ _ | refine blk_drew ?_ | refine blk_alloc ?_ _)); exact BK141.out) hb)
  have n1_ := Aside0.mk (blk_below (g := gb142) (o := .cells #[.int .u8 a1_0, .string a1_1, .string a1_2, .int .u32 a1_3, .int .u16 a1_4, .string a1_5] 26 (0, 0)) (by (with_reducible repeat (first | refine blk_drewN ?_ _ | refine blk_drew ?_ | refine blk_alloc ?_ _)); exact BK142.out) hb)
  have n2_ := Aside0.mk (blk_below (g := gb146) (o := .cells #[.string t143, .string t144, .bool t145] 35 (0, 0)) (by (with_reducible repeat (first | refine blk_drewN ?_ _ | refine blk_drew ?_ | refine blk_alloc ?_ _)); exact BK146.out) hb)
  have n3_ := Aside0.mk (below_step (by repeat (first | (with_reducible first | exact HB.out | apply below_alloc | apply pw_below_drewN | apply below_drew1 | refine below_set ?_ GE141.out | refine below_set ?_ GE142.out | refine below_set ?_ GE146.out) | exact HB.out)) hb)
  clear BK141
  clear BK142
  clear BK146
  clear HB
  have BK141 := n0_
  have BK142 := n1_
  have BK146 := n2_
  have HB := n3_
  clear n0_ n1_ n2_ n3_
  (try clear hb)
  (try clear hb2)
  (try clear hk)
  (try clear hi)
  refine hK.out _ _ ⟨(blk_cell BK146.out 0).trans rfl, (blk_cell BK146.out 1).trans rfl, (blk_cell BK146.out 2).trans rfl, (blk_cell BK141.out 0).trans rfl, (blk_cell BK141.out 1).trans rfl, (blk_cell BK141.out 2).trans rfl, (blk_cell BK141.out 3).trans rfl, (blk_cell BK141.out 4).trans rfl, (blk_cell BK141.out 5).trans rfl⟩ (fun hHeld => ?_)
  clear hK K
  refine norm_ (a' := ?_) ?_ ?_
  rotate_left
  · show Act.put _ (some 10) _ = _
    simp only [Act.put, List.setIfInBounds_toArray, List.set_cons_zero, List.set_cons_succ, i64_w, i32_w]
    rfl
  refine one_ (i := 3) (N := some 11) #[true, true, true, true, true, true, false, false, false] rfl rfl (one_of HT_.out (by kernel_rfl)) (by decide) (fun K hK => ?_)
  refine goes_ Try.func36 (by kernel_rfl) rfl #[.agg #[.string t143, .string t144, .bool t145], .agg #[.string t147, .string t148, .bool t149]] (by rfl) rfl rfl (by (try simp only [List.map_toArray, List.map_cons, List.map_nil]); first | done | rfl | (simp only [List.length_drop, List.length_take]; rfl)) ?_
  with_reducible refine (key_Cut.calls k t143 t144 t145 t147 t148 t149 t150 t151 t152 _ A5.out).mono ?_
  rintro e w19 ⟨rfl, hb⟩
  refine ⟨_, rfl, ?_⟩
  have n0_ := Aside0.mk (blk_below (g := gb141) (o := .cells #[.int .u8 a0_0, .string a0_1, .string a0_2, .int .u32 a0_3, .int .u16 a0_4, .string a0_5] 26 (0, 0)) (by (with_reducible repeat (first | refine blk_drewN ?_ _ | refine blk_drew ?_ | refine blk_alloc ?_ _)); exact BK141.out) hb)
  have n1_ := Aside0.mk (blk_below (g := gb142) (o := .cells #[.int .u8 a1_0, .string a1_1, .string a1_2, .int .u32 a1_3, .int .u16 a1_4, .string a1_5] 26 (0, 0)) (by (with_reducible repeat (first | refine blk_drewN ?_ _ | refine blk_drew ?_ | refine blk_alloc ?_ _)); exact BK142.out) hb)
  have n2_ := Aside0.mk (blk_below (g := gb146) (o := .cells #[.string t143, .string t144, .bool t145] 35 (0, 0)) (by (with_reducible repeat (first | refine blk_drewN ?_ _ | refine blk_drew ?_ | refine blk_alloc ?_ _)); exact BK146.out) hb)
  have n3_ := Aside0.mk (below_step (by repeat (first | (with_reducible first | exact HB.out | apply below_alloc | apply pw_below_drewN | apply below_drew1 | refine below_set ?_ GE141.out | refine below_set ?_ GE142.out | refine below_set ?_ GE146.out) | exact HB.out)) hb)
  clear BK141
  clear BK142
  clear BK146
  clear HB
  have BK141 := n0_
  have BK142 := n1_
  have BK146 := n2_
  have HB := n3_
  clear n0_ n1_ n2_ n3_
  (try clear hb)
  (try clear hb2)
  (try clear hk)
  (try clear hi)
  refine hK.out _ _ ⟨(blk_cell BK146.out 0).trans rfl, (blk_cell BK146.out 1).trans rfl, (blk_cell BK146.out 2).trans rfl, (blk_cell BK141.out 0).trans rfl, (blk_cell BK141.out 1).trans rfl, (blk_cell BK141.out 2).trans rfl, (blk_cell BK141.out 3).trans rfl, (blk_cell BK141.out 4).trans rfl, (blk_cell BK141.out 5).trans rfl⟩ (fun hHeld => ?_)
  clear hK K
  refine norm_ (a' := ?_) ?_ ?_
  rotate_left
  · show Act.put _ (some 11) _ = _
    simp only [Act.put, List.setIfInBounds_toArray, List.set_cons_zero, List.set_cons_succ, i64_w, i32_w]
    rfl
  refine one_ (i := 6) (N := some 14) #[true, true, true, true, true, true, true, false, false] rfl rfl (one_of HT_.out (by kernel_rfl)) (by decide) (fun K hK => ?_)
  refine goes_ Try.func36 (by kernel_rfl) rfl #[.agg #[.string t143, .string t144, .bool t145], .agg #[.string t143, .string t144, .bool t145]] (by rfl) rfl rfl (by (try simp only [List.map_toArray, List.map_cons, List.map_nil]); first | done | rfl | (simp only [List.length_drop, List.length_take]; rfl)) ?_
  with_reducible refine (key_Cut.calls k t143 t144 t145 t143 t144 t145 t153 t154 t155 _ A6.out).mono ?_
  rintro e w20 ⟨rfl, hb⟩
  refine ⟨_, rfl, ?_⟩
  have n0_ := Aside0.mk (blk_below (g := gb141) (o := .cells #[.int .u8 a0_0, .string a0_1, .string a0_2, .int .u32 a0_3, .int .u16 a0_4, .string a0_5] 26 (0, 0)) (by (with_reducible repeat (first | refine blk_drewN ?_ _ | refine blk_drew ?_ | refine blk_alloc ?_ _)); exact BK141.out) hb)
  have n1_ := Aside0.mk (blk_below (g := gb142) (o := .cells #[.int .u8 a1_0, .string a1_1, .string a1_2, .int .u32 a1_3, .int .u16 a1_4, .string a1_5] 26 (0, 0)) (by (with_reducible repeat (first | refine blk_drewN ?_ _ | refine blk_drew ?_ | refine blk_alloc ?_ _)); exact BK142.out) hb)
  have n2_ := Aside0.mk (blk_below (g := gb146) (o := .cells #[.string t143, .string t144, .bool t145] 35 (0, 0)) (by (with_reducible repeat (first | refine blk_drewN ?_ _ | refine blk_drew ?_ | refine blk_alloc ?_ _)); exact BK146.out) hb)
  have n3_ := Aside0.mk (below_step (by repeat (first | (with_reducible first | exact HB.out | apply below_alloc | apply pw_below_drewN | apply below_drew1 | refine below_set ?_ GE141.out | refine below_set ?_ GE142.out | refine below_set ?_ GE146.out) | exact HB.out)) hb)
  clear BK141
  clear BK142
  clear BK146
  clear HB
  have BK141 := n0_
  have BK142 := n1_
  have BK146 := n2_
  have HB := n3_
  clear n0_ n1_ n2_ n3_
  (try clear hb)
  (try clear hb2)
  (try clear hk)
  (try clear hi)
  refine hK.out _ _ ⟨(blk_cell BK146.out 0).trans rfl, (blk_cell BK146.out 1).trans rfl, (blk_cell BK146.out 2).trans rfl, (blk_cell BK141.out 0).trans rfl, (blk_cell BK141.out 1).trans rfl, (blk_cell BK141.out 2).trans rfl, (blk_cell BK141.out 3).trans rfl, (blk_cell BK141.out 4).trans rfl, (blk_cell BK141.out 5).trans rfl⟩ (fun hHeld => ?_)
  clear hK K
  refine norm_ (a' := ?_) ?_ ?_
  rotate_left
  · show Act.put _ (some 14) _ = _
    simp only [Act.put, List.setIfInBounds_toArray, List.set_cons_zero, List.set_cons_succ, i64_w, i32_w]
    rfl
  refine pure_ (i := 7) (N := some 15) (v := ?_) (a' := ?_) #[true, true, true, true, true, true, true, true, false] rfl rfl (any_of HT_.out (by kernel_rfl)) (fun _ _ _ h => h) (Or.inl ⟨by rfl, ?_⟩) ?_ ?_
  rotate_left
  · intro w'
    go_simp
    with_reducible rfl
  rotate_left
  · simp only [Act.put, List.setIfInBounds_toArray, List.set_cons_zero, List.set_cons_succ, i64_w, i32_w]
    rfl
  refine pure_ (i := 8) (N := some 4) (v := ?_) (a' := ?_) #[true, true, true, true, true, true, true, true, true] rfl rfl (any_of HT_.out (by kernel_rfl)) (fun _ _ _ h => h) (Or.inl ⟨by rfl, ?_⟩) ?_ ?_
  rotate_left
  · intro w'
    go_simp
    with_reducible rfl
  rotate_left
  · simp only [Act.put, List.setIfInBounds_toArray, List.set_cons_zero, List.set_cons_succ, i64_w, i32_w]
    rfl
  refine done_ (done_of HT_.out (by kernel_rfl)) ?_
  try go_wp2
  go_ret
  exact ⟨by first | rfl | (simp [errW_none, errW_some] <;> rfl) | (simp [*, errW_none, errW_some] <;> rfl), by repeat (first | (with_reducible first | exact HB.out | apply below_alloc | apply pw_below_drewN | apply below_drew1 | refine below_set ?_ GE141.out | refine below_set ?_ GE142.out | refine below_set ?_ GE146.out) | exact HB.out)⟩
end Go.Proofs.Ytcbcacppnlocdaa.PAll
namespace Go.Proofs.Ytcbcacppnlocdaa.PAll
set_option linter.unusedSimpArgs false
set_option linter.unusedVariables false
open Go Go.RowKit Go.Proofs.YtcbcacppnlocdaaW.PrintWords Go.Proofs.YtcbcacppnlocdaaW.PrintLast Go.Proofs.YtcbcacppnlocdaaW.PrintMore
set_option maxRecDepth 100000
theorem of_f (k : Nat) (s : ByteArray) (hs : s.size < 1000000) (hk : 1000000 ≤ k) : key_Of.f k s = some (ofB s) := by
  unfold key_Of.f
  rw [succ_f k s hs hk]
  rfl
theorem about_j (k : Nat) (m : S26) (b : Bool) (hb : b = true ↔ m.f0 = 1 ∨ m.f0 = 2) (hs : m.f1.size < 1000000) (hk : 1000000 < k) : msg_About.j0 k m.f0 b m.f0 m.f1 m.f2 m.f3 m.f4 m.f5 = some (aboutB m) := by
  obtain ⟨k, rfl⟩ : ∃ j, k = j + 1 := ⟨k - 1, by omega⟩
  simp only [msg_About.j0]
  unfold aboutB
  by_cases h : m.f0 = 1 ∨ m.f0 = 2
  · rw [if_pos (hb.mpr h), if_pos h]
    unfold key_Next.f
    rw [if_pos (by omega)]
    rfl
  · rw [if_neg (fun q => h (hb.mp q)), if_neg h]
    by_cases h3 : m.f0 = 3
    · rw [if_pos h3, if_pos h3, of_f k _ hs (by omega)]
      rfl
    · rw [if_neg h3, if_neg h3]
theorem about_f (k : Nat) (m : S26) (hs : m.f1.size < 1000000) (hk : 1000000 < k) : msg_About.f k m.f0 m.f1 m.f2 m.f3 m.f4 m.f5 = some (aboutB m) := by
  unfold msg_About.f
  by_cases h : m.f0 = 1
  · rw [if_pos h]
    exact about_j k m _ (by simp [h]) hs hk
  · rw [if_neg h]
    exact about_j k m _ (by simp [h]) hs hk
theorem covers_f (k : Nat) (m o : S26) (hm : m.f1.size < 1000000) (ho : o.f1.size < 1000000) (hk : 1000000 < k) : msg_covers.f k m.f0 m.f1 m.f2 m.f3 m.f4 m.f5 o.f0 o.f1 o.f2 o.f3 o.f4 o.f5 = some (covB m o) := by
  unfold msg_covers.f
  rw [about_f k o ho hk, Option.bind_some, about_f k m hm hk, Option.bind_some]
  rfl
end Go.Proofs.Ytcbcacppnlocdaa.PAll
