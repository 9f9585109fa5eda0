/-
  No cell of these rows narrows 'for every input' (looked for: loops, veiled, ifaces, maps, wideKeys, modest, calm, conditions, laid).
  DERIVED. THE GIVEN ROWS OF THIS SEAT. 3 by the template 'for every input the law returns true; each argument reads behind the call as it read before'; 0 by the template 'total and deterministic' (their statements: YteoefjahcbfpeaaTotals.lean).
  GIVEN WITH THE SEED: the statements are not yours to turn. If you find one false, say at which input.
  Laid BY PROGRAM, IN A SANDBOX (cutbox-rows.mjs): the forced cells as the released guide's own fill.sh prints them over the translation 5bbd2646d20be06a… (all of the seat's roots in one cut). By AI agents, Wed Nov 11 2026. No macro, syntax, notation, axiom, sorry.
-/
import Derived.Test.YteoefjahcbfpeaaChecked
import GoSem.Claim
import GoSem.ClaimJoined
import GoSem.ClaimMapViews
import Derived.JoinedTies
import Derived.KernelRfl
namespace Go.Proofs.Yteoefjahcbfpeaa
/- THE CELL 'sum', in the pinned program and in every row, IS THE sha256 OF THE DUMP (.gsa) THAT YteoefjahcbfpeaaProg.lean LOADS. Nothing in Lean hashes anything: it is a label: what it is worth is what the hold of that sum in a sandbox is worth. -/
noncomputable def Try.pinned : Pinned := { name := "yteoefjahcbfpeaa", sum := "5bbd2646d20be06ab41e4f688765c46f9595ed3eb65eb502bad5562f74427a27", checked := Try.checked }
namespace Rows
def none {H : Type} : Left H := { results := [], args := [] }

/-- 'glossarylaw24.PostingsOnce': WHATEVER THE INPUT: true; the input reads as it did. -/
def postingsOnceSpec : ChangeSpec := { name := "postingsOnce", fn := fun _ => fun
  | [d] => { results := [.lit (.bool true)], args := [d] }
  | _ => none }
def postingsOnceRow : OpenClaim := { program := "yteoefjahcbfpeaa", sum := "5bbd2646d20be06ab41e4f688765c46f9595ed3eb65eb502bad5562f74427a27", func := "glossary/glossarylaw24.PostingsOnce", spec := "postingsOnce", inPlace := ["internal/abi.NoEscape"], unfollowed := true, recurses := true, apart := false }
def PostingsOnceSaid : Prop := postingsOnceRow.holds Try.pinned (OpenSpec.ofChange postingsOnceSpec)

/-- ITS FALSE NEIGHBOUR: 'it returns false'. Refute it at one input. -/
def postingsOnceWrong : ChangeSpec := { name := "postingsOnce", fn := fun _ => fun
  | [d] => { results := [.lit (.bool false)], args := [d] }
  | _ => none }
def PostingsOnceWrongFalsely : Prop := postingsOnceRow.holds Try.pinned (OpenSpec.ofChange postingsOnceWrong)

/-- 'glossarylaw24.PostingsLaws': WHATEVER THE INPUT: true; the input reads as it did. -/
def postingsLawsSpec : ChangeSpec := { name := "postingsLaws", fn := fun _ => fun
  | [d1, d2, d3] => { results := [.lit (.bool true)], args := [d1, d2, d3] }
  | _ => none }
def postingsLawsRow : OpenClaim := { program := "yteoefjahcbfpeaa", sum := "5bbd2646d20be06ab41e4f688765c46f9595ed3eb65eb502bad5562f74427a27", func := "glossary/glossarylaw24.PostingsLaws", spec := "postingsLaws", inPlace := ["internal/abi.NoEscape"], unfollowed := true, recurses := true, apart := false }
def PostingsLawsSaid : Prop := postingsLawsRow.holds Try.pinned (OpenSpec.ofChange postingsLawsSpec)

/-- ITS FALSE NEIGHBOUR: 'it returns false'. Refute it at one input. -/
def postingsLawsWrong : ChangeSpec := { name := "postingsLaws", fn := fun _ => fun
  | [d1, d2, d3] => { results := [.lit (.bool false)], args := [d1, d2, d3] }
  | _ => none }
def PostingsLawsWrongFalsely : Prop := postingsLawsRow.holds Try.pinned (OpenSpec.ofChange postingsLawsWrong)

/-- 'glossarylaw24.PostingsRow': WHATEVER THE INPUT: true; the input reads as it did. -/
def postingsRowSpec : ChangeSpec := { name := "postingsRow", fn := fun _ => fun
  | [d1, d2, d3, d4, d5] => { results := [.lit (.bool true)], args := [d1, d2, d3, d4, d5] }
  | _ => none }
def postingsRowRow : OpenClaim := { program := "yteoefjahcbfpeaa", sum := "5bbd2646d20be06ab41e4f688765c46f9595ed3eb65eb502bad5562f74427a27", func := "glossary/glossarylaw24.PostingsRow", spec := "postingsRow", inPlace := ["internal/abi.NoEscape"], unfollowed := true, recurses := true, apart := false }
def PostingsRowSaid : Prop := postingsRowRow.holds Try.pinned (OpenSpec.ofChange postingsRowSpec)

/-- ITS FALSE NEIGHBOUR: 'it returns false'. Refute it at one input. -/
def postingsRowWrong : ChangeSpec := { name := "postingsRow", fn := fun _ => fun
  | [d1, d2, d3, d4, d5] => { results := [.lit (.bool false)], args := [d1, d2, d3, d4, d5] }
  | _ => none }
def PostingsRowWrongFalsely : Prop := postingsRowRow.holds Try.pinned (OpenSpec.ofChange postingsRowWrong)

/- THE SECOND FORM. 'bulk': how many values and letters a reading holds, each counted each time it is reached (what is shared counts as often as it is met; a slice's spare places count too). A statement '..UptoSaid' is the law's where the arguments, and the package variables that the reading takes, are together of bulk at most 1048576: NARROWER than '..Said'. Prove '..Said' where nothing that the law and all that it calls make is longer than what came in: it says more and counts as full. Else prove '..UptoSaid'. A law counts once. -/
mutual
def uptoBulk {H : Type} : DataW H → Nat
  | .lit (.string bytes) => bytes.length + 1
  | .lit _ => 1
  | .nil => 1
  | .ptr d => uptoBulk d + 1
  | .slice elems spare => uptoBulkAll elems + uptoBulkAll spare + 1
  | .agg parts => uptoBulkAll parts + 1
  | .iface _ d => uptoBulk d + 1
  | .map entries => uptoBulkEntries entries + 1
  | .held _ => 1
def uptoBulkAll {H : Type} : List (DataW H) → Nat
  | [] => 0
  | d :: r => uptoBulk d + uptoBulkAll r
def uptoBulkEntries {H : Type} : List (Lit × DataW H) → Nat
  | [] => 0
  | x :: r => uptoBulkEntry x + uptoBulkEntries r
def uptoBulkEntry {H : Type} : Lit × DataW H → Nat
  | (.string bytes, d) => bytes.length + uptoBulk d + 1
  | (_, d) => uptoBulk d + 1
 end
def uptoSmall : (H : Type) → List (DataW H) → Bool := fun _ ds => decide (uptoBulkAll ds ≤ 1048576)
def OpenSpec.upto (s : _root_.Go.ChangeSpec) : _root_.Go.OpenSpec := { _root_.Go.OpenSpec.ofChange s with cond := some uptoSmall }

/-- 'glossarylaw24.PostingsOnce', WHERE WHAT IT READS IS OF BULK AT MOST 1048576: true; the input reads as it did. -/
def postingsOnceUptoRow : OpenClaim := { program := "yteoefjahcbfpeaa", sum := "5bbd2646d20be06ab41e4f688765c46f9595ed3eb65eb502bad5562f74427a27", func := "glossary/glossarylaw24.PostingsOnce", spec := "postingsOnce", inPlace := ["internal/abi.NoEscape"], unfollowed := true, recurses := true, apart := false, narrowed := true }
def PostingsOnceUptoSaid : Prop := postingsOnceUptoRow.holds Try.pinned (OpenSpec.upto postingsOnceSpec)

/-- 'glossarylaw24.PostingsLaws', WHERE WHAT IT READS IS OF BULK AT MOST 1048576: true; the input reads as it did. -/
def postingsLawsUptoRow : OpenClaim := { program := "yteoefjahcbfpeaa", sum := "5bbd2646d20be06ab41e4f688765c46f9595ed3eb65eb502bad5562f74427a27", func := "glossary/glossarylaw24.PostingsLaws", spec := "postingsLaws", inPlace := ["internal/abi.NoEscape"], unfollowed := true, recurses := true, apart := false, narrowed := true }
def PostingsLawsUptoSaid : Prop := postingsLawsUptoRow.holds Try.pinned (OpenSpec.upto postingsLawsSpec)

/-- 'glossarylaw24.PostingsRow', WHERE WHAT IT READS IS OF BULK AT MOST 1048576: true; the input reads as it did. -/
def postingsRowUptoRow : OpenClaim := { program := "yteoefjahcbfpeaa", sum := "5bbd2646d20be06ab41e4f688765c46f9595ed3eb65eb502bad5562f74427a27", func := "glossary/glossarylaw24.PostingsRow", spec := "postingsRow", inPlace := ["internal/abi.NoEscape"], unfollowed := true, recurses := true, apart := false, narrowed := true }
def PostingsRowUptoSaid : Prop := postingsRowUptoRow.holds Try.pinned (OpenSpec.upto postingsRowSpec)

end Rows
end Go.Proofs.Yteoefjahcbfpeaa
