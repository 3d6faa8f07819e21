/-
  No cell of these rows narrows 'for every input' (looked for: loops, veiled, ifaces, maps, wideKeys, modest, calm, conditions, laid).
  DERIVED. THE GIVEN ROWS OF THIS SEAT. 5 by the template 'for every input the law returns true; each argument reads behind the call as it read before'; 0 by the template 'total and deterministic' (their statements: YtigejiihnkbilaaTotals.lean).
  GIVEN WITH THE SEED: the statements are not yours to turn. If you find one false, say at which input.
  Laid BY PROGRAM, IN A SANDBOX (cutbox-rows.mjs): the forced cells as the released guide's own fill.sh prints them over the translation ef97f16129f21d45… (all of the seat's roots in one cut). By AI agents, Wed Nov 11 2026. No macro, syntax, notation, axiom, sorry.
-/
import Derived.Test.YtigejiihnkbilaaChecked
import GoSem.Claim
import GoSem.ClaimJoined
import GoSem.ClaimMapViews
import Derived.JoinedTies
import Derived.KernelRfl
namespace Go.Proofs.Ytigejiihnkbilaa
/- THE CELL 'sum', in the pinned program and in every row, IS THE sha256 OF THE DUMP (.gsa) THAT YtigejiihnkbilaaProg.lean LOADS. Nothing in Lean hashes anything: it is a label: what it is worth is what the hold of that sum in a sandbox is worth. -/
noncomputable def Try.pinned : Pinned := { name := "ytigejiihnkbilaa", sum := "ef97f16129f21d452f04fd07dc37cd2c9c301ca8b8e49294d39bded66bf5ab58", checked := Try.checked }
namespace Rows
def none {H : Type} : Left H := { results := [], args := [] }

/-- 'marcotlaw19.PendOrder': WHATEVER THE INPUT: true; the input reads as it did. -/
def pendOrderSpec : ChangeSpec := { name := "pendOrder", fn := fun _ => fun
  | [d] => { results := [.lit (.bool true)], args := [d] }
  | _ => none }
def pendOrderRow : OpenClaim := { program := "ytigejiihnkbilaa", sum := "ef97f16129f21d452f04fd07dc37cd2c9c301ca8b8e49294d39bded66bf5ab58", func := "marcot/marcotlaw19.PendOrder", spec := "pendOrder", inPlace := ["slices.overlaps[uint32]"], unfollowed := true, recurses := true, apart := false }
def PendOrderSaid : Prop := pendOrderRow.holds Try.pinned (OpenSpec.ofChange pendOrderSpec)

/-- ITS FALSE NEIGHBOUR: 'it returns false'. Refute it at one input. -/
def pendOrderWrong : ChangeSpec := { name := "pendOrder", fn := fun _ => fun
  | [d] => { results := [.lit (.bool false)], args := [d] }
  | _ => none }
def PendOrderWrongFalsely : Prop := pendOrderRow.holds Try.pinned (OpenSpec.ofChange pendOrderWrong)

/-- 'marcotlaw19.PendLoads': WHATEVER THE INPUT: true; the input reads as it did. -/
def pendLoadsSpec : ChangeSpec := { name := "pendLoads", fn := fun _ => fun
  | [d] => { results := [.lit (.bool true)], args := [d] }
  | _ => none }
def pendLoadsRow : OpenClaim := { program := "ytigejiihnkbilaa", sum := "ef97f16129f21d452f04fd07dc37cd2c9c301ca8b8e49294d39bded66bf5ab58", func := "marcot/marcotlaw19.PendLoads", spec := "pendLoads", inPlace := ["slices.overlaps[uint32]"], unfollowed := true, recurses := true, apart := false }
def PendLoadsSaid : Prop := pendLoadsRow.holds Try.pinned (OpenSpec.ofChange pendLoadsSpec)

/-- ITS FALSE NEIGHBOUR: 'it returns false'. Refute it at one input. -/
def pendLoadsWrong : ChangeSpec := { name := "pendLoads", fn := fun _ => fun
  | [d] => { results := [.lit (.bool false)], args := [d] }
  | _ => none }
def PendLoadsWrongFalsely : Prop := pendLoadsRow.holds Try.pinned (OpenSpec.ofChange pendLoadsWrong)

/-- 'marcotlaw19.PendPlays': WHATEVER THE INPUT: true; the input reads as it did. -/
def pendPlaysSpec : ChangeSpec := { name := "pendPlays", fn := fun _ => fun
  | [d] => { results := [.lit (.bool true)], args := [d] }
  | _ => none }
def pendPlaysRow : OpenClaim := { program := "ytigejiihnkbilaa", sum := "ef97f16129f21d452f04fd07dc37cd2c9c301ca8b8e49294d39bded66bf5ab58", func := "marcot/marcotlaw19.PendPlays", spec := "pendPlays", inPlace := ["slices.overlaps[uint32]"], unfollowed := true, recurses := true, apart := false }
def PendPlaysSaid : Prop := pendPlaysRow.holds Try.pinned (OpenSpec.ofChange pendPlaysSpec)

/-- ITS FALSE NEIGHBOUR: 'it returns false'. Refute it at one input. -/
def pendPlaysWrong : ChangeSpec := { name := "pendPlays", fn := fun _ => fun
  | [d] => { results := [.lit (.bool false)], args := [d] }
  | _ => none }
def PendPlaysWrongFalsely : Prop := pendPlaysRow.holds Try.pinned (OpenSpec.ofChange pendPlaysWrong)

/-- 'marcotlaw19.PendRipe': WHATEVER THE INPUT: true; the input reads as it did. -/
def pendRipeSpec : ChangeSpec := { name := "pendRipe", fn := fun _ => fun
  | [d1, d2] => { results := [.lit (.bool true)], args := [d1, d2] }
  | _ => none }
def pendRipeRow : OpenClaim := { program := "ytigejiihnkbilaa", sum := "ef97f16129f21d452f04fd07dc37cd2c9c301ca8b8e49294d39bded66bf5ab58", func := "marcot/marcotlaw19.PendRipe", spec := "pendRipe", inPlace := ["slices.overlaps[uint32]"], unfollowed := true, recurses := true, apart := false }
def PendRipeSaid : Prop := pendRipeRow.holds Try.pinned (OpenSpec.ofChange pendRipeSpec)

/-- ITS FALSE NEIGHBOUR: 'it returns false'. Refute it at one input. -/
def pendRipeWrong : ChangeSpec := { name := "pendRipe", fn := fun _ => fun
  | [d1, d2] => { results := [.lit (.bool false)], args := [d1, d2] }
  | _ => none }
def PendRipeWrongFalsely : Prop := pendRipeRow.holds Try.pinned (OpenSpec.ofChange pendRipeWrong)

/-- 'marcotlaw19.PendNil': WHATEVER THE INPUT: true; the input reads as it did. -/
def pendNilSpec : ChangeSpec := { name := "pendNil", fn := fun _ => fun
  | [d1, d2] => { results := [.lit (.bool true)], args := [d1, d2] }
  | _ => none }
def pendNilRow : OpenClaim := { program := "ytigejiihnkbilaa", sum := "ef97f16129f21d452f04fd07dc37cd2c9c301ca8b8e49294d39bded66bf5ab58", func := "marcot/marcotlaw19.PendNil", spec := "pendNil", inPlace := ["slices.overlaps[uint32]"], unfollowed := true, recurses := true, apart := false }
def PendNilSaid : Prop := pendNilRow.holds Try.pinned (OpenSpec.ofChange pendNilSpec)

/-- ITS FALSE NEIGHBOUR: 'it returns false'. Refute it at one input. -/
def pendNilWrong : ChangeSpec := { name := "pendNil", fn := fun _ => fun
  | [d1, d2] => { results := [.lit (.bool false)], args := [d1, d2] }
  | _ => none }
def PendNilWrongFalsely : Prop := pendNilRow.holds Try.pinned (OpenSpec.ofChange pendNilWrong)

/- THE SECOND FORM. 'bulk': how many values and letters a reading holds, each counted each time it is reached (what is shared counts as often as it is met; a slice's spare places count too). A statement '..UptoSaid' is the law's where the arguments, and the package variables that the reading takes, are together of bulk at most 1048576: NARROWER than '..Said'. Prove '..Said' where nothing that the law and all that it calls make is longer than what came in: it says more and counts as full. Else prove '..UptoSaid'. A law counts once. -/
mutual
def uptoBulk {H : Type} : DataW H → Nat
  | .lit (.string bytes) => bytes.length + 1
  | .lit _ => 1
  | .nil => 1
  | .ptr d => uptoBulk d + 1
  | .slice elems spare => uptoBulkAll elems + uptoBulkAll spare + 1
  | .agg parts => uptoBulkAll parts + 1
  | .iface _ d => uptoBulk d + 1
  | .map entries => uptoBulkEntries entries + 1
  | .held _ => 1
def uptoBulkAll {H : Type} : List (DataW H) → Nat
  | [] => 0
  | d :: r => uptoBulk d + uptoBulkAll r
def uptoBulkEntries {H : Type} : List (Lit × DataW H) → Nat
  | [] => 0
  | x :: r => uptoBulkEntry x + uptoBulkEntries r
def uptoBulkEntry {H : Type} : Lit × DataW H → Nat
  | (.string bytes, d) => bytes.length + uptoBulk d + 1
  | (_, d) => uptoBulk d + 1
 end
def uptoSmall : (H : Type) → List (DataW H) → Bool := fun _ ds => decide (uptoBulkAll ds ≤ 1048576)
def OpenSpec.upto (s : _root_.Go.ChangeSpec) : _root_.Go.OpenSpec := { _root_.Go.OpenSpec.ofChange s with cond := some uptoSmall }

/-- 'marcotlaw19.PendOrder', WHERE WHAT IT READS IS OF BULK AT MOST 1048576: true; the input reads as it did. -/
def pendOrderUptoRow : OpenClaim := { program := "ytigejiihnkbilaa", sum := "ef97f16129f21d452f04fd07dc37cd2c9c301ca8b8e49294d39bded66bf5ab58", func := "marcot/marcotlaw19.PendOrder", spec := "pendOrder", inPlace := ["slices.overlaps[uint32]"], unfollowed := true, recurses := true, apart := false, narrowed := true }
def PendOrderUptoSaid : Prop := pendOrderUptoRow.holds Try.pinned (OpenSpec.upto pendOrderSpec)

/-- 'marcotlaw19.PendLoads', WHERE WHAT IT READS IS OF BULK AT MOST 1048576: true; the input reads as it did. -/
def pendLoadsUptoRow : OpenClaim := { program := "ytigejiihnkbilaa", sum := "ef97f16129f21d452f04fd07dc37cd2c9c301ca8b8e49294d39bded66bf5ab58", func := "marcot/marcotlaw19.PendLoads", spec := "pendLoads", inPlace := ["slices.overlaps[uint32]"], unfollowed := true, recurses := true, apart := false, narrowed := true }
def PendLoadsUptoSaid : Prop := pendLoadsUptoRow.holds Try.pinned (OpenSpec.upto pendLoadsSpec)

/-- 'marcotlaw19.PendPlays', WHERE WHAT IT READS IS OF BULK AT MOST 1048576: true; the input reads as it did. -/
def pendPlaysUptoRow : OpenClaim := { program := "ytigejiihnkbilaa", sum := "ef97f16129f21d452f04fd07dc37cd2c9c301ca8b8e49294d39bded66bf5ab58", func := "marcot/marcotlaw19.PendPlays", spec := "pendPlays", inPlace := ["slices.overlaps[uint32]"], unfollowed := true, recurses := true, apart := false, narrowed := true }
def PendPlaysUptoSaid : Prop := pendPlaysUptoRow.holds Try.pinned (OpenSpec.upto pendPlaysSpec)

/-- 'marcotlaw19.PendRipe', WHERE WHAT IT READS IS OF BULK AT MOST 1048576: true; the input reads as it did. -/
def pendRipeUptoRow : OpenClaim := { program := "ytigejiihnkbilaa", sum := "ef97f16129f21d452f04fd07dc37cd2c9c301ca8b8e49294d39bded66bf5ab58", func := "marcot/marcotlaw19.PendRipe", spec := "pendRipe", inPlace := ["slices.overlaps[uint32]"], unfollowed := true, recurses := true, apart := false, narrowed := true }
def PendRipeUptoSaid : Prop := pendRipeUptoRow.holds Try.pinned (OpenSpec.upto pendRipeSpec)

/-- 'marcotlaw19.PendNil', WHERE WHAT IT READS IS OF BULK AT MOST 1048576: true; the input reads as it did. -/
def pendNilUptoRow : OpenClaim := { program := "ytigejiihnkbilaa", sum := "ef97f16129f21d452f04fd07dc37cd2c9c301ca8b8e49294d39bded66bf5ab58", func := "marcot/marcotlaw19.PendNil", spec := "pendNil", inPlace := ["slices.overlaps[uint32]"], unfollowed := true, recurses := true, apart := false, narrowed := true }
def PendNilUptoSaid : Prop := pendNilUptoRow.holds Try.pinned (OpenSpec.upto pendNilSpec)

end Rows
end Go.Proofs.Ytigejiihnkbilaa
