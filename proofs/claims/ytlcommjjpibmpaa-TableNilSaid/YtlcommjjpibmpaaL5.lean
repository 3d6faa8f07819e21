/-
  The law TableNil, walked.
-/
import Derived.Test.YtlcommjjpibmpaaO1
namespace Go.Proofs.Ytlcommjjpibmpaa
open Go.RowKit Go.Proofs.YtlcommjjpibmpaaW.PrintWords PTableLoads

set_option maxRecDepth 100000 in
set_option maxHeartbeats 1000000 in
theorem nil_walk (W : World) (b n : Int) (_ : 0 ≤ b ∧ b ≤ 4294967295) (_ : 0 ≤ n ∧ n ≤ 4294967295) :
    Calls Try.prog 5 #[.int .u32 b, .int .u32 n] W fun e w' => e = .returned (.bool true) ∧ Below W.heap.size W w' := by
  have b0 := hid (Below.refl W.heap.size W)
  go_enter Try.func5, Try.ntmps5
  go_wp2_with fail
  refine (take_nil _).mono ?_
  rintro e w' ⟨rfl, rfl⟩
  go_wp2_with fail
  refine (settle_nil _).mono ?_
  rintro e w' ⟨rfl, rfl⟩
  go_wp2_with fail
  refine (add_nil _ b n).mono ?_
  rintro e w1 ⟨rfl, hf⟩
  have b1 := hid (bel_quiet b0.out hf)
  clear hf b0
  go_wp2_with fail
  refine (sub_nil _ b n).mono ?_
  rintro e w2 ⟨rfl, hf⟩
  have b2 := hid (bel_quiet b1.out hf)
  clear hf b1
  go_wp2_with fail
  refine (free_nil _ b).mono ?_
  rintro e w3 ⟨rfl, hf⟩
  have b3 := hid (bel_quiet b2.out hf)
  clear hf b2
  go_wp2_with fail
  refine (count_nil _ b).mono ?_
  rintro e w4 ⟨rfl, hf⟩
  have b4 := hid (bel_quiet b3.out hf)
  clear hf b3
  go_wp2_with fail
  refine (used_nil _ b).mono ?_
  rintro e w5 ⟨rfl, hf⟩
  have b5 := hid (bel_quiet b4.out hf)
  clear hf b4
  go_wp2_with fail
  refine (fresh_nil _ b).mono ?_
  rintro e w6 ⟨rfl, hf⟩
  have b6 := hid (bel_quiet b5.out hf)
  clear hf b5
  go_wp2_with fail
  refine (left_nil _).mono ?_
  rintro e w' ⟨rfl, rfl⟩
  go_wp2_with fail
  refine (waits_nil _).mono ?_
  rintro e w' ⟨rfl, rfl⟩
  go_wp2_with fail
  refine (counts_nil _).mono ?_
  rintro e w' ⟨rfl, rfl⟩
  go_wp2_with fail
  refine (copy_nil _).mono ?_
  rintro e w' ⟨rfl, rfl⟩
  go_wp2_with fail
  refine (awake_calls _).mono ?_
  rintro e w9 ⟨rfl, hb⟩
  have b9 := hid (bel_quiet b6.out (Frm.of_below hb _))
  clear hb b6
  go_wp2
  go_ret
  exact ⟨rfl, b9.out⟩
end Go.Proofs.Ytlcommjjpibmpaa
