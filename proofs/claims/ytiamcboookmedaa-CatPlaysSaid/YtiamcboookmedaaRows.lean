/-
  No cell of these rows narrows 'for every input' (looked for: loops, veiled, ifaces, maps, wideKeys, modest, calm, conditions, laid).
  DERIVED. THE GIVEN ROWS OF THIS SEAT. 4 by the template 'for every input the law returns true; each argument reads behind the call as it read before'; 0 by the template 'total and deterministic' (their statements: YtiamcboookmedaaTotals.lean).
  GIVEN WITH THE SEED: the statements are not yours to turn. If you find one false, say at which input.
  Laid BY PROGRAM, IN A SANDBOX (cutbox-rows.mjs): the forced cells as the released guide's own fill.sh prints them over the translation 49ce01b8fdf8b700… (all of the seat's roots in one cut). By AI agents, Wed Nov 11 2026. No macro, syntax, notation, axiom, sorry.
-/
import Derived.Test.YtiamcboookmedaaChecked
import GoSem.Claim
import GoSem.ClaimJoined
import GoSem.ClaimMapViews
import Derived.JoinedTies
import Derived.KernelRfl
namespace Go.Proofs.Ytiamcboookmedaa
/- THE CELL 'sum', in the pinned program and in every row, IS THE sha256 OF THE DUMP (.gsa) THAT YtiamcboookmedaaProg.lean LOADS. Nothing in Lean hashes anything: it is a label: what it is worth is what the hold of that sum in a sandbox is worth. -/
noncomputable def Try.pinned : Pinned := { name := "ytiamcboookmedaa", sum := "49ce01b8fdf8b700b7360b3591211e4a9642987f5234fd7d7a008c5531ded20e", checked := Try.checked }
namespace Rows
def none {H : Type} : Left H := { results := [], args := [] }

/-- 'marcotlaw20.CatLoads': WHATEVER THE INPUT: true; the input reads as it did. -/
def catLoadsSpec : ChangeSpec := { name := "catLoads", fn := fun _ => fun
  | [d1, d2] => { results := [.lit (.bool true)], args := [d1, d2] }
  | _ => none }
def catLoadsRow : OpenClaim := { program := "ytiamcboookmedaa", sum := "49ce01b8fdf8b700b7360b3591211e4a9642987f5234fd7d7a008c5531ded20e", func := "marcot/marcotlaw20.CatLoads", spec := "catLoads", inPlace := ["slices.overlaps[string]", "slices.overlaps[marcot/api.Volume]"], unfollowed := true, recurses := true, apart := false }
def CatLoadsSaid : Prop := catLoadsRow.holds Try.pinned (OpenSpec.ofChange catLoadsSpec)

/-- ITS FALSE NEIGHBOUR: 'it returns false'. Refute it at one input. -/
def catLoadsWrong : ChangeSpec := { name := "catLoads", fn := fun _ => fun
  | [d1, d2] => { results := [.lit (.bool false)], args := [d1, d2] }
  | _ => none }
def CatLoadsWrongFalsely : Prop := catLoadsRow.holds Try.pinned (OpenSpec.ofChange catLoadsWrong)

/-- 'marcotlaw20.CatApart': WHATEVER THE INPUT: true; the input reads as it did. -/
def catApartSpec : ChangeSpec := { name := "catApart", fn := fun _ => fun
  | [d1, d2, d3] => { results := [.lit (.bool true)], args := [d1, d2, d3] }
  | _ => none }
def catApartRow : OpenClaim := { program := "ytiamcboookmedaa", sum := "49ce01b8fdf8b700b7360b3591211e4a9642987f5234fd7d7a008c5531ded20e", func := "marcot/marcotlaw20.CatApart", spec := "catApart", inPlace := ["slices.overlaps[string]", "slices.overlaps[marcot/api.Volume]"], apart := false }
def CatApartSaid : Prop := catApartRow.holds Try.pinned (OpenSpec.ofChange catApartSpec)

/-- ITS FALSE NEIGHBOUR: 'it returns false'. Refute it at one input. -/
def catApartWrong : ChangeSpec := { name := "catApart", fn := fun _ => fun
  | [d1, d2, d3] => { results := [.lit (.bool false)], args := [d1, d2, d3] }
  | _ => none }
def CatApartWrongFalsely : Prop := catApartRow.holds Try.pinned (OpenSpec.ofChange catApartWrong)

/-- 'marcotlaw20.CatPlays': WHATEVER THE INPUT: true; the input reads as it did. -/
def catPlaysSpec : ChangeSpec := { name := "catPlays", fn := fun _ => fun
  | [d] => { results := [.lit (.bool true)], args := [d] }
  | _ => none }
def catPlaysRow : OpenClaim := { program := "ytiamcboookmedaa", sum := "49ce01b8fdf8b700b7360b3591211e4a9642987f5234fd7d7a008c5531ded20e", func := "marcot/marcotlaw20.CatPlays", spec := "catPlays", inPlace := ["slices.overlaps[string]", "slices.overlaps[marcot/api.Volume]"], unfollowed := true, recurses := true, apart := false }
def CatPlaysSaid : Prop := catPlaysRow.holds Try.pinned (OpenSpec.ofChange catPlaysSpec)

/-- ITS FALSE NEIGHBOUR: 'it returns false'. Refute it at one input. -/
def catPlaysWrong : ChangeSpec := { name := "catPlays", fn := fun _ => fun
  | [d] => { results := [.lit (.bool false)], args := [d] }
  | _ => none }
def CatPlaysWrongFalsely : Prop := catPlaysRow.holds Try.pinned (OpenSpec.ofChange catPlaysWrong)

/-- 'marcotlaw20.CatNil': WHATEVER THE INPUT: true; the input reads as it did. -/
def catNilSpec : ChangeSpec := { name := "catNil", fn := fun _ => fun
  | [d] => { results := [.lit (.bool true)], args := [d] }
  | _ => none }
def catNilRow : OpenClaim := { program := "ytiamcboookmedaa", sum := "49ce01b8fdf8b700b7360b3591211e4a9642987f5234fd7d7a008c5531ded20e", func := "marcot/marcotlaw20.CatNil", spec := "catNil", inPlace := ["slices.overlaps[string]", "slices.overlaps[marcot/api.Volume]"], unfollowed := true, recurses := true, apart := false }
def CatNilSaid : Prop := catNilRow.holds Try.pinned (OpenSpec.ofChange catNilSpec)

/-- ITS FALSE NEIGHBOUR: 'it returns false'. Refute it at one input. -/
def catNilWrong : ChangeSpec := { name := "catNil", fn := fun _ => fun
  | [d] => { results := [.lit (.bool false)], args := [d] }
  | _ => none }
def CatNilWrongFalsely : Prop := catNilRow.holds Try.pinned (OpenSpec.ofChange catNilWrong)

/- THE SECOND FORM. 'bulk': how many values and letters a reading holds, each counted each time it is reached (what is shared counts as often as it is met; a slice's spare places count too). A statement '..UptoSaid' is the law's where the arguments, and the package variables that the reading takes, are together of bulk at most 1048576: NARROWER than '..Said'. Prove '..Said' where nothing that the law and all that it calls make is longer than what came in: it says more and counts as full. Else prove '..UptoSaid'. A law counts once. -/
mutual
def uptoBulk {H : Type} : DataW H → Nat
  | .lit (.string bytes) => bytes.length + 1
  | .lit _ => 1
  | .nil => 1
  | .ptr d => uptoBulk d + 1
  | .slice elems spare => uptoBulkAll elems + uptoBulkAll spare + 1
  | .agg parts => uptoBulkAll parts + 1
  | .iface _ d => uptoBulk d + 1
  | .map entries => uptoBulkEntries entries + 1
  | .held _ => 1
def uptoBulkAll {H : Type} : List (DataW H) → Nat
  | [] => 0
  | d :: r => uptoBulk d + uptoBulkAll r
def uptoBulkEntries {H : Type} : List (Lit × DataW H) → Nat
  | [] => 0
  | x :: r => uptoBulkEntry x + uptoBulkEntries r
def uptoBulkEntry {H : Type} : Lit × DataW H → Nat
  | (.string bytes, d) => bytes.length + uptoBulk d + 1
  | (_, d) => uptoBulk d + 1
 end
def uptoSmall : (H : Type) → List (DataW H) → Bool := fun _ ds => decide (uptoBulkAll ds ≤ 1048576)
def OpenSpec.upto (s : _root_.Go.ChangeSpec) : _root_.Go.OpenSpec := { _root_.Go.OpenSpec.ofChange s with cond := some uptoSmall }

/-- 'marcotlaw20.CatLoads', WHERE WHAT IT READS IS OF BULK AT MOST 1048576: true; the input reads as it did. -/
def catLoadsUptoRow : OpenClaim := { program := "ytiamcboookmedaa", sum := "49ce01b8fdf8b700b7360b3591211e4a9642987f5234fd7d7a008c5531ded20e", func := "marcot/marcotlaw20.CatLoads", spec := "catLoads", inPlace := ["slices.overlaps[string]", "slices.overlaps[marcot/api.Volume]"], unfollowed := true, recurses := true, apart := false, narrowed := true }
def CatLoadsUptoSaid : Prop := catLoadsUptoRow.holds Try.pinned (OpenSpec.upto catLoadsSpec)

/-- 'marcotlaw20.CatApart', WHERE WHAT IT READS IS OF BULK AT MOST 1048576: true; the input reads as it did. -/
def catApartUptoRow : OpenClaim := { program := "ytiamcboookmedaa", sum := "49ce01b8fdf8b700b7360b3591211e4a9642987f5234fd7d7a008c5531ded20e", func := "marcot/marcotlaw20.CatApart", spec := "catApart", inPlace := ["slices.overlaps[string]", "slices.overlaps[marcot/api.Volume]"], apart := false, narrowed := true }
def CatApartUptoSaid : Prop := catApartUptoRow.holds Try.pinned (OpenSpec.upto catApartSpec)

/-- 'marcotlaw20.CatPlays', WHERE WHAT IT READS IS OF BULK AT MOST 1048576: true; the input reads as it did. -/
def catPlaysUptoRow : OpenClaim := { program := "ytiamcboookmedaa", sum := "49ce01b8fdf8b700b7360b3591211e4a9642987f5234fd7d7a008c5531ded20e", func := "marcot/marcotlaw20.CatPlays", spec := "catPlays", inPlace := ["slices.overlaps[string]", "slices.overlaps[marcot/api.Volume]"], unfollowed := true, recurses := true, apart := false, narrowed := true }
def CatPlaysUptoSaid : Prop := catPlaysUptoRow.holds Try.pinned (OpenSpec.upto catPlaysSpec)

/-- 'marcotlaw20.CatNil', WHERE WHAT IT READS IS OF BULK AT MOST 1048576: true; the input reads as it did. -/
def catNilUptoRow : OpenClaim := { program := "ytiamcboookmedaa", sum := "49ce01b8fdf8b700b7360b3591211e4a9642987f5234fd7d7a008c5531ded20e", func := "marcot/marcotlaw20.CatNil", spec := "catNil", inPlace := ["slices.overlaps[string]", "slices.overlaps[marcot/api.Volume]"], unfollowed := true, recurses := true, apart := false, narrowed := true }
def CatNilUptoSaid : Prop := catNilUptoRow.holds Try.pinned (OpenSpec.upto catNilSpec)

end Rows
end Go.Proofs.Ytiamcboookmedaa
