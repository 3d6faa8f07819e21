/-
  No cell of these rows narrows 'for every input' (looked for: loops, veiled, ifaces, maps, wideKeys, modest, calm, conditions, laid).
  DERIVED. THE GIVEN ROWS OF THIS SEAT. 4 by the template 'for every input the law returns true; each argument reads behind the call as it read before'; 0 by the template 'total and deterministic' (their statements: YtcbcacppnlocdaaTotals.lean).
  GIVEN WITH THE SEED: the statements are not yours to turn. If you find one false, say at which input.
  Laid BY PROGRAM, IN A SANDBOX (cutbox-rows.mjs): the forced cells as the released guide's own fill.sh prints them over the translation e89690301d89353f… (all of the seat's roots in one cut). By AI agents, Wed Nov 11 2026. No macro, syntax, notation, axiom, sorry.
-/
import Derived.Test.YtcbcacppnlocdaaChecked
import GoSem.Claim
import GoSem.ClaimJoined
import GoSem.ClaimMapViews
import Derived.JoinedTies
import Derived.KernelRfl
namespace Go.Proofs.Ytcbcacppnlocdaa
/- THE CELL 'sum', in the pinned program and in every row, IS THE sha256 OF THE DUMP (.gsa) THAT YtcbcacppnlocdaaProg.lean LOADS. Nothing in Lean hashes anything: it is a label: what it is worth is what the hold of that sum in a sandbox is worth. -/
noncomputable def Try.pinned : Pinned := { name := "ytcbcacppnlocdaa", sum := "e89690301d89353fad8109bed1a60a439d078451b75707bf4bc076461f8869a7", checked := Try.checked }
namespace Rows
def none {H : Type} : Left H := { results := [], args := [] }

/-- 'marcotlaw06.MsgAdds': WHATEVER THE INPUT: true; the input reads as it did. -/
def msgAddsSpec : ChangeSpec := { name := "msgAdds", fn := fun _ => fun
  | [d1, d2, d3] => { results := [.lit (.bool true)], args := [d1, d2, d3] }
  | _ => none }
def msgAddsRow : OpenClaim := { program := "ytcbcacppnlocdaa", sum := "e89690301d89353fad8109bed1a60a439d078451b75707bf4bc076461f8869a7", func := "marcot/marcotlaw06.MsgAdds", spec := "msgAdds", unfollowed := true, recurses := true, apart := false }
def MsgAddsSaid : Prop := msgAddsRow.holds Try.pinned (OpenSpec.ofChange msgAddsSpec)

/-- ITS FALSE NEIGHBOUR: 'it returns false'. Refute it at one input. -/
def msgAddsWrong : ChangeSpec := { name := "msgAdds", fn := fun _ => fun
  | [d1, d2, d3] => { results := [.lit (.bool false)], args := [d1, d2, d3] }
  | _ => none }
def MsgAddsWrongFalsely : Prop := msgAddsRow.holds Try.pinned (OpenSpec.ofChange msgAddsWrong)

/-- 'marcotlaw06.MsgKeeps': WHATEVER THE INPUT: true; the input reads as it did. -/
def msgKeepsSpec : ChangeSpec := { name := "msgKeeps", fn := fun _ => fun
  | [d1, d2, d3, d4] => { results := [.lit (.bool true)], args := [d1, d2, d3, d4] }
  | _ => none }
def msgKeepsRow : OpenClaim := { program := "ytcbcacppnlocdaa", sum := "e89690301d89353fad8109bed1a60a439d078451b75707bf4bc076461f8869a7", func := "marcot/marcotlaw06.MsgKeeps", spec := "msgKeeps", unfollowed := true, recurses := true, apart := false }
def MsgKeepsSaid : Prop := msgKeepsRow.holds Try.pinned (OpenSpec.ofChange msgKeepsSpec)

/-- ITS FALSE NEIGHBOUR: 'it returns false'. Refute it at one input. -/
def msgKeepsWrong : ChangeSpec := { name := "msgKeeps", fn := fun _ => fun
  | [d1, d2, d3, d4] => { results := [.lit (.bool false)], args := [d1, d2, d3, d4] }
  | _ => none }
def MsgKeepsWrongFalsely : Prop := msgKeepsRow.holds Try.pinned (OpenSpec.ofChange msgKeepsWrong)

/-- 'marcotlaw06.MsgAsks': WHATEVER THE INPUT: true; the input reads as it did. -/
def msgAsksSpec : ChangeSpec := { name := "msgAsks", fn := fun _ => fun
  | [d1, d2, d3] => { results := [.lit (.bool true)], args := [d1, d2, d3] }
  | _ => none }
def msgAsksRow : OpenClaim := { program := "ytcbcacppnlocdaa", sum := "e89690301d89353fad8109bed1a60a439d078451b75707bf4bc076461f8869a7", func := "marcot/marcotlaw06.MsgAsks", spec := "msgAsks", unfollowed := true, recurses := true, apart := false }
def MsgAsksSaid : Prop := msgAsksRow.holds Try.pinned (OpenSpec.ofChange msgAsksSpec)

/-- ITS FALSE NEIGHBOUR: 'it returns false'. Refute it at one input. -/
def msgAsksWrong : ChangeSpec := { name := "msgAsks", fn := fun _ => fun
  | [d1, d2, d3] => { results := [.lit (.bool false)], args := [d1, d2, d3] }
  | _ => none }
def MsgAsksWrongFalsely : Prop := msgAsksRow.holds Try.pinned (OpenSpec.ofChange msgAsksWrong)

/-- 'marcotlaw06.MsgParts': WHATEVER THE INPUT: true; the input reads as it did. -/
def msgPartsSpec : ChangeSpec := { name := "msgParts", fn := fun _ => fun
  | [d1, d2, d3] => { results := [.lit (.bool true)], args := [d1, d2, d3] }
  | _ => none }
def msgPartsRow : OpenClaim := { program := "ytcbcacppnlocdaa", sum := "e89690301d89353fad8109bed1a60a439d078451b75707bf4bc076461f8869a7", func := "marcot/marcotlaw06.MsgParts", spec := "msgParts", inPlace := ["slices.overlaps[string]"], unfollowed := true, recurses := true, apart := false }
def MsgPartsSaid : Prop := msgPartsRow.holds Try.pinned (OpenSpec.ofChange msgPartsSpec)

/-- ITS FALSE NEIGHBOUR: 'it returns false'. Refute it at one input. -/
def msgPartsWrong : ChangeSpec := { name := "msgParts", fn := fun _ => fun
  | [d1, d2, d3] => { results := [.lit (.bool false)], args := [d1, d2, d3] }
  | _ => none }
def MsgPartsWrongFalsely : Prop := msgPartsRow.holds Try.pinned (OpenSpec.ofChange msgPartsWrong)

/- THE SECOND FORM. 'bulk': how many values and letters a reading holds, each counted each time it is reached (what is shared counts as often as it is met; a slice's spare places count too). A statement '..UptoSaid' is the law's where the arguments, and the package variables that the reading takes, are together of bulk at most 1048576: NARROWER than '..Said'. Prove '..Said' where nothing that the law and all that it calls make is longer than what came in: it says more and counts as full. Else prove '..UptoSaid'. A law counts once. -/
mutual
def uptoBulk {H : Type} : DataW H → Nat
  | .lit (.string bytes) => bytes.length + 1
  | .lit _ => 1
  | .nil => 1
  | .ptr d => uptoBulk d + 1
  | .slice elems spare => uptoBulkAll elems + uptoBulkAll spare + 1
  | .agg parts => uptoBulkAll parts + 1
  | .iface _ d => uptoBulk d + 1
  | .map entries => uptoBulkEntries entries + 1
  | .held _ => 1
def uptoBulkAll {H : Type} : List (DataW H) → Nat
  | [] => 0
  | d :: r => uptoBulk d + uptoBulkAll r
def uptoBulkEntries {H : Type} : List (Lit × DataW H) → Nat
  | [] => 0
  | x :: r => uptoBulkEntry x + uptoBulkEntries r
def uptoBulkEntry {H : Type} : Lit × DataW H → Nat
  | (.string bytes, d) => bytes.length + uptoBulk d + 1
  | (_, d) => uptoBulk d + 1
 end
def uptoSmall : (H : Type) → List (DataW H) → Bool := fun _ ds => decide (uptoBulkAll ds ≤ 1048576)
def OpenSpec.upto (s : _root_.Go.ChangeSpec) : _root_.Go.OpenSpec := { _root_.Go.OpenSpec.ofChange s with cond := some uptoSmall }

/-- 'marcotlaw06.MsgAdds', WHERE WHAT IT READS IS OF BULK AT MOST 1048576: true; the input reads as it did. -/
def msgAddsUptoRow : OpenClaim := { program := "ytcbcacppnlocdaa", sum := "e89690301d89353fad8109bed1a60a439d078451b75707bf4bc076461f8869a7", func := "marcot/marcotlaw06.MsgAdds", spec := "msgAdds", unfollowed := true, recurses := true, apart := false, narrowed := true }
def MsgAddsUptoSaid : Prop := msgAddsUptoRow.holds Try.pinned (OpenSpec.upto msgAddsSpec)

/-- 'marcotlaw06.MsgKeeps', WHERE WHAT IT READS IS OF BULK AT MOST 1048576: true; the input reads as it did. -/
def msgKeepsUptoRow : OpenClaim := { program := "ytcbcacppnlocdaa", sum := "e89690301d89353fad8109bed1a60a439d078451b75707bf4bc076461f8869a7", func := "marcot/marcotlaw06.MsgKeeps", spec := "msgKeeps", unfollowed := true, recurses := true, apart := false, narrowed := true }
def MsgKeepsUptoSaid : Prop := msgKeepsUptoRow.holds Try.pinned (OpenSpec.upto msgKeepsSpec)

/-- 'marcotlaw06.MsgAsks', WHERE WHAT IT READS IS OF BULK AT MOST 1048576: true; the input reads as it did. -/
def msgAsksUptoRow : OpenClaim := { program := "ytcbcacppnlocdaa", sum := "e89690301d89353fad8109bed1a60a439d078451b75707bf4bc076461f8869a7", func := "marcot/marcotlaw06.MsgAsks", spec := "msgAsks", unfollowed := true, recurses := true, apart := false, narrowed := true }
def MsgAsksUptoSaid : Prop := msgAsksUptoRow.holds Try.pinned (OpenSpec.upto msgAsksSpec)

/-- 'marcotlaw06.MsgParts', WHERE WHAT IT READS IS OF BULK AT MOST 1048576: true; the input reads as it did. -/
def msgPartsUptoRow : OpenClaim := { program := "ytcbcacppnlocdaa", sum := "e89690301d89353fad8109bed1a60a439d078451b75707bf4bc076461f8869a7", func := "marcot/marcotlaw06.MsgParts", spec := "msgParts", inPlace := ["slices.overlaps[string]"], unfollowed := true, recurses := true, apart := false, narrowed := true }
def MsgPartsUptoSaid : Prop := msgPartsUptoRow.holds Try.pinned (OpenSpec.upto msgPartsSpec)

end Rows
end Go.Proofs.Ytcbcacppnlocdaa
