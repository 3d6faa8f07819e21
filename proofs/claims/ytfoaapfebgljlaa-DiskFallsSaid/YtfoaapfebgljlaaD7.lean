/-
  A disk: the reference's Whole, the example, and a nil disk.
-/
import Derived.Test.YtfoaapfebgljlaaD6
import Derived.Lib.LazyBuf
import Derived.Lib.SlBytesConst
import Derived.Laws.IdiomStrings
namespace Go.Proofs.Ytfoaapfebgljlaa
set_option linter.unusedSimpArgs false
set_option linter.unusedVariables false
open Go.RowKit Go.Proofs.YtfoaapfebgljlaaW.PrintWords

theorem wpList_copy_str {P : Program} (w : World) {ops : Array Oper} {rest : List Oper} {o : Oper} {a : Act} {Q : Exit → Act → World → Prop} (hgd : o.guard = none) (d s : Operand) (dT sT : TypeId)
    (ho : o.op = .call { callee := .builtin .copy, args := #[d, s], argTypes := #[dT, sT] }) (elem : TypeId) (hu : P.underlying dT = some (.slice elem)) (hz : ∀ w, (Go.sizeOf elem).run P w = .ok 1 w)
    (g dLen dCap : Nat) (t : ByteArray) (hd : a.eval d = .slice (some ⟨g, 0, none⟩) dLen dCap) (hs : a.eval s = .string t) (Z : List Value) (T : TypeId) (hg : Blk w g Z T) (hl : t.size ≤ dLen) (hZ : t.size ≤ Z.length)
    (h : ∀ w', Hid (Blk w' g (bz t ++ Z.drop t.size) T) → Hid (Frm (fun i => i = g) w w') → wpList P ops Q rest (a.put o.dst (goInt t.size)) w') : wpList P ops Q (o :: rest) a w := by
  refine wpList_plain hgd fun K' hK' => ?_
  have hg' : w.heap[g]? = some (.cells Z.toArray T (0, 0)) := hg
  have hrun := run_copy_string (P := P) w dT sT o.type elem g 0 dLen dCap t hu hz hl
    (fun j hj => by rw [Nat.zero_add, hg.cell (List.getElem?_eq_getElem (show j < Z.length by omega))]; rfl) (fun j hj => hg.free _)
  obtain ⟨cur', h3, h4, h5⟩ := setCells_row (bz t) 0 w Z.toArray hg' (by rw [bz_len]; simpa using hZ)
  obtain ⟨e1, e2, e3, e4⟩ := setCells_same g (bz t) 0 w
  unfold Oper.wp
  simp only [execOp, ho, resolve, invoke, builtin, Sem.run_bind, Sem.run_pure, Result.andThen_ok, List.map_toArray, List.map_cons, List.map_nil, hd, hs, hrun]
  refine hK' _ _ (h _ ?_ ⟨e1, e2, e3, by rw [show List.map (fun x : UInt8 => Value.int .u8 (x.toNat : Int)) t.data.toList = bz t from rfl, e4]; exact Nat.le_refl _, fun k _ hk => setCells_far (bz t) 0 k hk⟩)
  show _ = _
  have e : cur' = (bz t ++ Z.drop t.size).toArray := by
    apply Array.toList_inj.1
    rw [h5]
    simp [bz_len]
  rw [← e]
  exact h3
theorem sizeOf5 : ∀ w, (Go.sizeOf 5).run Try.prog w = .ok 1 w := fun w => by kernel_rfl
theorem cvW {w1 : World} {g : Nat} {Z : List Value} {s : ByteArray} (hz : Z = List.replicate 2048 (.int .u8 0)) (hs : s.size ≤ 2048) (hb : Blk w1 g (bz s ++ Z.drop s.size) 5) :
    (convert 22 9 (.slice (some ⟨g, 0, none⟩) 2048 2048)).run Try.prog w1 = .ok (.string (padB s)) w1 := by
  have e : bz s ++ Z.drop s.size = bz (padB s) := by rw [padB_bz, hz, List.drop_replicate]
  rw [e] at hb
  have hl : (padB s).data.toList.length = 2048 := by rw [Array.length_toList]; exact padB_size s hs
  have := run_convert_bytes_back (P := Try.prog) w1 22 9 5 ⟨g, 0, none⟩ 2048 (padB s).data.toList Try.underlying22 Try.underlying5 Try.underlying9 (fun j hj => by
    rw [add_plain]
    refine hb.cell ?_
    unfold bz
    rw [List.getElem?_map, List.getElem?_eq_getElem hj]
    rfl)
  rw [hl] at this
  exact this
set_option maxRecDepth 100000 in
theorem ref_whole (w : World) (s : ByteArray) (hs : s.size ≤ 2048) : Calls Try.prog 16 #[.string s] w fun e w' => e = .returned (.string (padB s)) ∧ Frm (fun _ => False) w w' := by
  have hm := make2048
  have hg := hid (Blk.new w (List.replicate 2048 (.int .u8 0)) 5)
  rw [made_eq] at hm
  obtain ⟨Z, hZ⟩ : ∃ Z : List Value, Z = List.replicate 2048 (.int .u8 0) := ⟨_, rfl⟩
  rw [← hZ] at hm hg
  have hz := hid hZ
  clear hZ
  go_enter Try.func16, Try.ntmps16
  go_wp2_with ((with_reducible show wpList _ _ _ (Oper.mk (some 7) _ _ _ _ _ :: _) _ _); (refine wpList_copy_str _ rfl (.tmp 5) (.tmp 6) 22 9 rfl 5 Try.underlying22 sizeOf5 w.heap.size 2048 2048 s rfl rfl Z 5 hg.out hs (by rw [hz.out]; simpa using hs) ?_); intro w1 hb1 hf1; have hcv := cvW hz.out hs hb1.out)
  go_ret
  exact ⟨rfl, ⟨hf1.out.os, hf1.out.tape, hf1.out.output, by have := hf1.out.size; simp at this; omega, fun k hk _ => by
    rw [hf1.out.block k (by simp; omega) (by omega)]; exact Below.heap_alloc w _ k hk⟩⟩
/-! ### The document's example -/
def aB : ByteArray := ⟨#[97]⟩
def bB : ByteArray := ⟨#[98]⟩
def dk1 : Dk := (Dk.new 3).write 0 aB
def dk2 : Dk := dk1.write 0 bB
def dk3 : Dk := dk2.back [true, false] (-1) 0
theorem dk3_last : (dk3.last 0).getD zB = padB aB := by
  simp [dk3, dk2, dk1, Dk.back, Dk.write, Dk.new, Dk.add, backN, stepB]
theorem rd_one (w : World) (x : Value) (T : Nat) (fr : Nat × Nat) : Rd (w.alloc (.cells #[x] T fr)) (some ⟨w.heap.size, 0, none⟩) [x] := fun _ => ⟨_, rfl, fun j u hj => by
  rw [add_plain]
  have hj0 : j = 0 := by have := (List.getElem?_eq_some_iff.1 hj).1; simp at this; omega
  subst hj0
  simp at hj
  subst hj
  have := heap_alloc_new w (.cells #[x] T fr)
  simp only [World.cell?, this]
  rfl⟩
theorem bool_row (w : World) (base : Nat) (x y : Value) (wr : World) (h : DF base (w.alloc (.cells #[x, y] 4)) wr) : Rd wr (some ⟨w.heap.size, 0, none⟩) [x, y] := fun _ => ⟨_, rfl, fun j u hj => by
  rw [add_plain]
  exact (h.blk (Blk.new w [x, y] 4) (by decide) (by decide)).cell hj⟩
set_option maxRecDepth 100000 in
set_option maxHeartbeats 1000000 in
theorem awake_calls (W : World) : Calls Try.prog 9 #[] W fun e w' => e = .returned (.bool true) ∧ Below W.heap.size W w' := by
  have kc := fun (w : World) (C : Array Value) (n c : Nat) => Lib.run_convert_bytes_const (P := Try.prog) w 22 5 C n c Try.underlying22 Try.underlying5
  go_enter Try.func9, Try.ntmps9
  go_wp2_with fail
  refine (new_good (P := fun _ => True) _ 3 (by decide) (by decide)).mono ?_
  rintro e w1 ⟨b, rfl, hr, hf, hb⟩
  have hr1 := hid hr
  have hf1 := hid (DF.quiet (base := W.heap.size) hf)
  clear hr hf
  go_wp2_with fail
  refine (write_good W.heap.size _ b (Dk.new 3) 0 _ aB 1 (hr1.out.quiet ((Frm.refl _ _).alloc _)) rfl (by decide) (rd_one _ _ _ _) (by decide) (by decide) (by decide) (by have := hf1.out.size; simp; omega) (by decide) (by decide) (fun _ _ => trivial)).mono ?_
  rintro e w2 ⟨rfl, hr, hf⟩
  have hr2 : Hid (DR (fun _ => True) W.heap.size w2 b dk1) := hr
  have hf2 := hid ((hf1.out.alloc _).trans hf)
  clear hr hf hr1 hf1
  go_wp2_with fail
  refine (write_good W.heap.size _ b dk1 0 _ bB 1 (hr2.out.quiet ((Frm.refl _ _).alloc _)) rfl (by decide) (rd_one _ _ _ _) (by decide) (by decide) (by decide) (by have := hf2.out.size; simp; omega) (by decide) (by decide) (fun _ _ => trivial)).mono ?_
  rintro e w3 ⟨rfl, hr, hf⟩
  have hr3 : Hid (DR (fun _ => True) W.heap.size w3 b dk2) := hr
  have hf3 := hid ((hf2.out.alloc _).trans hf)
  clear hr hf hr2 hf2
  go_wp2_with fail
  refine (back_calls W.heap.size _ b dk2 _ [true, false] 2 (-1) 0 (hr3.out.quiet ((Frm.refl _ _).alloc _)) (by decide) (by decide) (by decide) (by have := hf3.out.size; simp; omega) (fun wr hw => bool_row _ _ _ _ wr hw) (fun _ _ => trivial)).mono ?_
  rintro e w4 ⟨rfl, hr, hf⟩
  have hr4 : Hid (DR (fun _ => True) W.heap.size w4 b dk3) := hr
  have hf4 := hid ((hf3.out.alloc _).trans hf)
  clear hr hf hr3 hf3
  go_wp2_with fail
  refine (read_good W.heap.size _ b dk3 0 hr4.out (by decide)).mono ?_
  rintro e w5 ⟨g, rfl, ha, hf, hg⟩
  rw [dk3_last] at ha
  have ha5 := hid ha
  have hf5 := hid (hf4.out.trans (DF.quiet hf))
  clear ha hf hr4 hf4
  go_wp2
  have cv : ∀ w' : World, Arr w' g 2048 5 (bz (padB aB)) → (convert 22 9 (.slice (some ⟨g, 0, none⟩) 2048 2048)).run Try.prog w' = .ok (.string (padB aB)) w' := fun w' ha =>
    cvW (Z := List.replicate 2048 (.int .u8 0)) (s := aB) rfl (by decide) (by
      have := ha.blk
      obtain ⟨rest, hr, hb⟩ := this
      have hl : (bz (padB aB)).length = 2048 := by rw [bz_len, padB_size _ (by decide)]
      have : rest = [] := List.eq_nil_of_length_eq_zero (by omega)
      subst this
      rw [List.append_nil, padB_bz] at hb
      rw [List.drop_replicate]
      exact hb)
  have cv0 := cv _ (ha5.out.frm (Frm.refl (fun _ => False) _).drew id)
  have hcv := hid cv
  have haB : (⟨#[97]⟩ : ByteArray) = aB := rfl
  clear cv
  obtain ⟨PP, hPP⟩ : ∃ PP, padB aB = PP := ⟨_, rfl⟩
  have hPP' := hid hPP
  rw [hPP] at cv0 ha5
  clear hPP
  go_region_held3 (fun w' => (convert 22 9 (.slice (some ⟨g, 0, none⟩) 2048 2048)).run Try.prog w' = .ok (.string PP) w') (exact cv0) (first | (go_at_call 16; (with_reducible refine (ref_whole _ aB (by decide)).mono ?_); rintro e w8 ⟨rfl, hf8⟩; rw [hPP'.out]; have cv0 := (hPP'.out ▸ hcv.out w8 (by rw [hPP'.out]; exact (ha5.out.frm (Frm.refl (fun _ => False) _).drew id).frm hf8 id)); have hb8 := hid (hf5.out.drew.trans (DF.quiet hf8))))
  all_goals go_wp2
  all_goals go_ret
  all_goals exact ⟨rfl, hb8.out.below⟩
/-! ### A nil disk -/
theorem any_open {p : Prop} (_ : p) : ∃ _ : Unit, True := ⟨(), trivial⟩
theorem nil_walk (W : World) (a : Int) (A : Option Addr) (n c : Nat) (_ : Unit) (_ : -9223372036854775808 ≤ a ∧ a ≤ 9223372036854775807) (_ : True) :
    Calls Try.prog 6 #[.int .i64 a, .slice A n c] W fun e w' => e = .returned (.bool true) ∧ Below W.heap.size W w' := by
  go_enter Try.func6, Try.ntmps6
  go_wp2_with fail
  refine (fuse_nil _ a).mono ?_
  rintro e w' ⟨rfl, rfl⟩
  go_wp2_with fail
  refine (down_nil _).mono ?_
  rintro e w' ⟨rfl, rfl⟩
  go_wp2_with fail
  refine (back_nil _ _ a a).mono ?_
  rintro e w' ⟨rfl, rfl⟩
  go_wp2_with fail
  refine (read_nil _ a).mono ?_
  rintro e w' ⟨rfl, rfl⟩
  go_wp2_with fail
  refine (write_nil _ a _).mono ?_
  rintro e w' ⟨rfl, rfl⟩
  go_wp2_with fail
  refine (barrier_nil _).mono ?_
  rintro e w' ⟨rfl, rfl⟩
  go_wp2_with fail
  refine (up_nil _).mono ?_
  rintro e w' ⟨rfl, rfl⟩
  go_wp2_with fail
  refine (blocks_nil _).mono ?_
  rintro e w' ⟨rfl, rfl⟩
  go_wp2_with fail
  refine (waits_nil _).mono ?_
  rintro e w' ⟨rfl, rfl⟩
  go_wp2_with fail
  refine (falls_nil _).mono ?_
  rintro e w' ⟨rfl, rfl⟩
  go_wp2_with fail
  refine (awake_calls _).mono ?_
  rintro e w9 ⟨rfl, hb⟩
  have hb' := hid hb
  clear hb
  go_wp2
  go_ret
  exact ⟨rfl, hb'.out⟩
end Go.Proofs.Ytfoaapfebgljlaa
