/-
  No cell of these rows narrows 'for every input' (looked for: loops, veiled, ifaces, maps, wideKeys, modest, calm, conditions, laid).
  DERIVED. THE GIVEN ROWS OF THIS SEAT. 10 by the template 'for every input the law returns true; each argument reads behind the call as it read before'; 0 by the template 'total and deterministic' (their statements: YtgikmcgoaihggaaTotals.lean).
  GIVEN WITH THE SEED: the statements are not yours to turn. If you find one false, say at which input.
  Laid BY PROGRAM, IN A SANDBOX (cutbox-rows.mjs): the forced cells as the released guide's own fill.sh prints them over the translation 7cd9aa963af52fc1… (all of the seat's roots in one cut). By AI agents, Wed Nov 11 2026. No macro, syntax, notation, axiom, sorry.
-/
import Derived.Test.YtgikmcgoaihggaaChecked
import GoSem.Claim
import GoSem.ClaimJoined
import GoSem.ClaimMapViews
import Derived.JoinedTies
import Derived.KernelRfl
namespace Go.Proofs.Ytgikmcgoaihggaa
/- THE CELL 'sum', in the pinned program and in every row, IS THE sha256 OF THE DUMP (.gsa) THAT YtgikmcgoaihggaaProg.lean LOADS. Nothing in Lean hashes anything: it is a label: what it is worth is what the hold of that sum in a sandbox is worth. -/
noncomputable def Try.pinned : Pinned := { name := "ytgikmcgoaihggaa", sum := "7cd9aa963af52fc1028cc526576dd43b4bc7bd6a30fce597ef185c50106dfe4b", checked := Try.checked }
namespace Rows
def none {H : Type} : Left H := { results := [], args := [] }

/-- 'compositorlaw09.BufferDecode': WHATEVER THE INPUT: true; the input reads as it did. -/
def bufferDecodeSpec : ChangeSpec := { name := "bufferDecode", fn := fun _ => fun
  | [d1, d2] => { results := [.lit (.bool true)], args := [d1, d2] }
  | _ => none }
def bufferDecodeRow : OpenClaim := { program := "ytgikmcgoaihggaa", sum := "7cd9aa963af52fc1028cc526576dd43b4bc7bd6a30fce597ef185c50106dfe4b", func := "compositor/compositorlaw09.BufferDecode", spec := "bufferDecode", unfollowed := true, recurses := true, apart := false }
def BufferDecodeSaid : Prop := bufferDecodeRow.holds Try.pinned (OpenSpec.ofChange bufferDecodeSpec)

/-- ITS FALSE NEIGHBOUR: 'it returns false'. Refute it at one input. -/
def bufferDecodeWrong : ChangeSpec := { name := "bufferDecode", fn := fun _ => fun
  | [d1, d2] => { results := [.lit (.bool false)], args := [d1, d2] }
  | _ => none }
def BufferDecodeWrongFalsely : Prop := bufferDecodeRow.holds Try.pinned (OpenSpec.ofChange bufferDecodeWrong)

/-- 'compositorlaw09.BufferRuns': WHATEVER THE INPUT: true; the input reads as it did. -/
def bufferRunsSpec : ChangeSpec := { name := "bufferRuns", fn := fun _ => fun
  | [d1, d2] => { results := [.lit (.bool true)], args := [d1, d2] }
  | _ => none }
def bufferRunsRow : OpenClaim := { program := "ytgikmcgoaihggaa", sum := "7cd9aa963af52fc1028cc526576dd43b4bc7bd6a30fce597ef185c50106dfe4b", func := "compositor/compositorlaw09.BufferRuns", spec := "bufferRuns", unfollowed := true, recurses := true, apart := false }
def BufferRunsSaid : Prop := bufferRunsRow.holds Try.pinned (OpenSpec.ofChange bufferRunsSpec)

/-- ITS FALSE NEIGHBOUR: 'it returns false'. Refute it at one input. -/
def bufferRunsWrong : ChangeSpec := { name := "bufferRuns", fn := fun _ => fun
  | [d1, d2] => { results := [.lit (.bool false)], args := [d1, d2] }
  | _ => none }
def BufferRunsWrongFalsely : Prop := bufferRunsRow.holds Try.pinned (OpenSpec.ofChange bufferRunsWrong)

/-- 'compositorlaw09.BufferEncode': WHATEVER THE INPUT: true; the input reads as it did. -/
def bufferEncodeSpec : ChangeSpec := { name := "bufferEncode", fn := fun _ => fun
  | [d] => { results := [.lit (.bool true)], args := [d] }
  | _ => none }
def bufferEncodeRow : OpenClaim := { program := "ytgikmcgoaihggaa", sum := "7cd9aa963af52fc1028cc526576dd43b4bc7bd6a30fce597ef185c50106dfe4b", func := "compositor/compositorlaw09.BufferEncode", spec := "bufferEncode", unfollowed := true, recurses := true, apart := false }
def BufferEncodeSaid : Prop := bufferEncodeRow.holds Try.pinned (OpenSpec.ofChange bufferEncodeSpec)

/-- ITS FALSE NEIGHBOUR: 'it returns false'. Refute it at one input. -/
def bufferEncodeWrong : ChangeSpec := { name := "bufferEncode", fn := fun _ => fun
  | [d] => { results := [.lit (.bool false)], args := [d] }
  | _ => none }
def BufferEncodeWrongFalsely : Prop := bufferEncodeRow.holds Try.pinned (OpenSpec.ofChange bufferEncodeWrong)

/-- 'compositorlaw09.BufferBasics': WHATEVER THE INPUT: true; the input reads as it did. -/
def bufferBasicsSpec : ChangeSpec := { name := "bufferBasics", fn := fun _ => fun
  | [d1, d2, d3] => { results := [.lit (.bool true)], args := [d1, d2, d3] }
  | _ => none }
def bufferBasicsRow : OpenClaim := { program := "ytgikmcgoaihggaa", sum := "7cd9aa963af52fc1028cc526576dd43b4bc7bd6a30fce597ef185c50106dfe4b", func := "compositor/compositorlaw09.BufferBasics", spec := "bufferBasics", unfollowed := true, recurses := true, apart := false }
def BufferBasicsSaid : Prop := bufferBasicsRow.holds Try.pinned (OpenSpec.ofChange bufferBasicsSpec)

/-- ITS FALSE NEIGHBOUR: 'it returns false'. Refute it at one input. -/
def bufferBasicsWrong : ChangeSpec := { name := "bufferBasics", fn := fun _ => fun
  | [d1, d2, d3] => { results := [.lit (.bool false)], args := [d1, d2, d3] }
  | _ => none }
def BufferBasicsWrongFalsely : Prop := bufferBasicsRow.holds Try.pinned (OpenSpec.ofChange bufferBasicsWrong)

/-- 'compositorlaw09.BufferCrop': WHATEVER THE INPUT: true; the input reads as it did. -/
def bufferCropSpec : ChangeSpec := { name := "bufferCrop", fn := fun _ => fun
  | [d1, d2] => { results := [.lit (.bool true)], args := [d1, d2] }
  | _ => none }
def bufferCropRow : OpenClaim := { program := "ytgikmcgoaihggaa", sum := "7cd9aa963af52fc1028cc526576dd43b4bc7bd6a30fce597ef185c50106dfe4b", func := "compositor/compositorlaw09.BufferCrop", spec := "bufferCrop", unfollowed := true, recurses := true, apart := false }
def BufferCropSaid : Prop := bufferCropRow.holds Try.pinned (OpenSpec.ofChange bufferCropSpec)

/-- ITS FALSE NEIGHBOUR: 'it returns false'. Refute it at one input. -/
def bufferCropWrong : ChangeSpec := { name := "bufferCrop", fn := fun _ => fun
  | [d1, d2] => { results := [.lit (.bool false)], args := [d1, d2] }
  | _ => none }
def BufferCropWrongFalsely : Prop := bufferCropRow.holds Try.pinned (OpenSpec.ofChange bufferCropWrong)

/-- 'compositorlaw09.BufferCovers': WHATEVER THE INPUT: true; the input reads as it did. -/
def bufferCoversSpec : ChangeSpec := { name := "bufferCovers", fn := fun _ => fun
  | [d1, d2, d3] => { results := [.lit (.bool true)], args := [d1, d2, d3] }
  | _ => none }
def bufferCoversRow : OpenClaim := { program := "ytgikmcgoaihggaa", sum := "7cd9aa963af52fc1028cc526576dd43b4bc7bd6a30fce597ef185c50106dfe4b", func := "compositor/compositorlaw09.BufferCovers", spec := "bufferCovers", unfollowed := true, recurses := true, apart := false }
def BufferCoversSaid : Prop := bufferCoversRow.holds Try.pinned (OpenSpec.ofChange bufferCoversSpec)

/-- ITS FALSE NEIGHBOUR: 'it returns false'. Refute it at one input. -/
def bufferCoversWrong : ChangeSpec := { name := "bufferCovers", fn := fun _ => fun
  | [d1, d2, d3] => { results := [.lit (.bool false)], args := [d1, d2, d3] }
  | _ => none }
def BufferCoversWrongFalsely : Prop := bufferCoversRow.holds Try.pinned (OpenSpec.ofChange bufferCoversWrong)

/-- 'compositorlaw09.BufferDiff': WHATEVER THE INPUT: true; the input reads as it did. -/
def bufferDiffSpec : ChangeSpec := { name := "bufferDiff", fn := fun _ => fun
  | [d1, d2] => { results := [.lit (.bool true)], args := [d1, d2] }
  | _ => none }
def bufferDiffRow : OpenClaim := { program := "ytgikmcgoaihggaa", sum := "7cd9aa963af52fc1028cc526576dd43b4bc7bd6a30fce597ef185c50106dfe4b", func := "compositor/compositorlaw09.BufferDiff", spec := "bufferDiff", unfollowed := true, recurses := true, apart := false }
def BufferDiffSaid : Prop := bufferDiffRow.holds Try.pinned (OpenSpec.ofChange bufferDiffSpec)

/-- ITS FALSE NEIGHBOUR: 'it returns false'. Refute it at one input. -/
def bufferDiffWrong : ChangeSpec := { name := "bufferDiff", fn := fun _ => fun
  | [d1, d2] => { results := [.lit (.bool false)], args := [d1, d2] }
  | _ => none }
def BufferDiffWrongFalsely : Prop := bufferDiffRow.holds Try.pinned (OpenSpec.ofChange bufferDiffWrong)

/-- 'compositorlaw09.BufferPaste': WHATEVER THE INPUT: true; the input reads as it did. -/
def bufferPasteSpec : ChangeSpec := { name := "bufferPaste", fn := fun _ => fun
  | [d1, d2, d3] => { results := [.lit (.bool true)], args := [d1, d2, d3] }
  | _ => none }
def bufferPasteRow : OpenClaim := { program := "ytgikmcgoaihggaa", sum := "7cd9aa963af52fc1028cc526576dd43b4bc7bd6a30fce597ef185c50106dfe4b", func := "compositor/compositorlaw09.BufferPaste", spec := "bufferPaste", unfollowed := true, recurses := true, apart := false }
def BufferPasteSaid : Prop := bufferPasteRow.holds Try.pinned (OpenSpec.ofChange bufferPasteSpec)

/-- ITS FALSE NEIGHBOUR: 'it returns false'. Refute it at one input. -/
def bufferPasteWrong : ChangeSpec := { name := "bufferPaste", fn := fun _ => fun
  | [d1, d2, d3] => { results := [.lit (.bool false)], args := [d1, d2, d3] }
  | _ => none }
def BufferPasteWrongFalsely : Prop := bufferPasteRow.holds Try.pinned (OpenSpec.ofChange bufferPasteWrong)

/-- 'compositorlaw09.BufferNew': WHATEVER THE INPUT: true; the input reads as it did. -/
def bufferNewSpec : ChangeSpec := { name := "bufferNew", fn := fun _ => fun
  | [d1, d2, d3] => { results := [.lit (.bool true)], args := [d1, d2, d3] }
  | _ => none }
def bufferNewRow : OpenClaim := { program := "ytgikmcgoaihggaa", sum := "7cd9aa963af52fc1028cc526576dd43b4bc7bd6a30fce597ef185c50106dfe4b", func := "compositor/compositorlaw09.BufferNew", spec := "bufferNew", unfollowed := true, recurses := true, apart := false }
def BufferNewSaid : Prop := bufferNewRow.holds Try.pinned (OpenSpec.ofChange bufferNewSpec)

/-- ITS FALSE NEIGHBOUR: 'it returns false'. Refute it at one input. -/
def bufferNewWrong : ChangeSpec := { name := "bufferNew", fn := fun _ => fun
  | [d1, d2, d3] => { results := [.lit (.bool false)], args := [d1, d2, d3] }
  | _ => none }
def BufferNewWrongFalsely : Prop := bufferNewRow.holds Try.pinned (OpenSpec.ofChange bufferNewWrong)

/-- 'compositorlaw09.BufferNeutral': WHATEVER THE INPUT: true; the input reads as it did. -/
def bufferNeutralSpec : ChangeSpec := { name := "bufferNeutral", fn := fun _ => fun
  | [d1, d2] => { results := [.lit (.bool true)], args := [d1, d2] }
  | _ => none }
def bufferNeutralRow : OpenClaim := { program := "ytgikmcgoaihggaa", sum := "7cd9aa963af52fc1028cc526576dd43b4bc7bd6a30fce597ef185c50106dfe4b", func := "compositor/compositorlaw09.BufferNeutral", spec := "bufferNeutral", unfollowed := true, recurses := true, apart := false }
def BufferNeutralSaid : Prop := bufferNeutralRow.holds Try.pinned (OpenSpec.ofChange bufferNeutralSpec)

/-- ITS FALSE NEIGHBOUR: 'it returns false'. Refute it at one input. -/
def bufferNeutralWrong : ChangeSpec := { name := "bufferNeutral", fn := fun _ => fun
  | [d1, d2] => { results := [.lit (.bool false)], args := [d1, d2] }
  | _ => none }
def BufferNeutralWrongFalsely : Prop := bufferNeutralRow.holds Try.pinned (OpenSpec.ofChange bufferNeutralWrong)

/- THE SECOND FORM. 'bulk': how many values and letters a reading holds, each counted each time it is reached (what is shared counts as often as it is met; a slice's spare places count too). A statement '..UptoSaid' is the law's where the arguments, and the package variables that the reading takes, are together of bulk at most 1048576: NARROWER than '..Said'. Prove '..Said' where nothing that the law and all that it calls make is longer than what came in: it says more and counts as full. Else prove '..UptoSaid'. A law counts once. -/
mutual
def uptoBulk {H : Type} : DataW H → Nat
  | .lit (.string bytes) => bytes.length + 1
  | .lit _ => 1
  | .nil => 1
  | .ptr d => uptoBulk d + 1
  | .slice elems spare => uptoBulkAll elems + uptoBulkAll spare + 1
  | .agg parts => uptoBulkAll parts + 1
  | .iface _ d => uptoBulk d + 1
  | .map entries => uptoBulkEntries entries + 1
  | .held _ => 1
def uptoBulkAll {H : Type} : List (DataW H) → Nat
  | [] => 0
  | d :: r => uptoBulk d + uptoBulkAll r
def uptoBulkEntries {H : Type} : List (Lit × DataW H) → Nat
  | [] => 0
  | x :: r => uptoBulkEntry x + uptoBulkEntries r
def uptoBulkEntry {H : Type} : Lit × DataW H → Nat
  | (.string bytes, d) => bytes.length + uptoBulk d + 1
  | (_, d) => uptoBulk d + 1
 end
def uptoSmall : (H : Type) → List (DataW H) → Bool := fun _ ds => decide (uptoBulkAll ds ≤ 1048576)
def OpenSpec.upto (s : _root_.Go.ChangeSpec) : _root_.Go.OpenSpec := { _root_.Go.OpenSpec.ofChange s with cond := some uptoSmall }

/-- 'compositorlaw09.BufferDecode', WHERE WHAT IT READS IS OF BULK AT MOST 1048576: true; the input reads as it did. -/
def bufferDecodeUptoRow : OpenClaim := { program := "ytgikmcgoaihggaa", sum := "7cd9aa963af52fc1028cc526576dd43b4bc7bd6a30fce597ef185c50106dfe4b", func := "compositor/compositorlaw09.BufferDecode", spec := "bufferDecode", unfollowed := true, recurses := true, apart := false, narrowed := true }
def BufferDecodeUptoSaid : Prop := bufferDecodeUptoRow.holds Try.pinned (OpenSpec.upto bufferDecodeSpec)

/-- 'compositorlaw09.BufferRuns', WHERE WHAT IT READS IS OF BULK AT MOST 1048576: true; the input reads as it did. -/
def bufferRunsUptoRow : OpenClaim := { program := "ytgikmcgoaihggaa", sum := "7cd9aa963af52fc1028cc526576dd43b4bc7bd6a30fce597ef185c50106dfe4b", func := "compositor/compositorlaw09.BufferRuns", spec := "bufferRuns", unfollowed := true, recurses := true, apart := false, narrowed := true }
def BufferRunsUptoSaid : Prop := bufferRunsUptoRow.holds Try.pinned (OpenSpec.upto bufferRunsSpec)

/-- 'compositorlaw09.BufferEncode', WHERE WHAT IT READS IS OF BULK AT MOST 1048576: true; the input reads as it did. -/
def bufferEncodeUptoRow : OpenClaim := { program := "ytgikmcgoaihggaa", sum := "7cd9aa963af52fc1028cc526576dd43b4bc7bd6a30fce597ef185c50106dfe4b", func := "compositor/compositorlaw09.BufferEncode", spec := "bufferEncode", unfollowed := true, recurses := true, apart := false, narrowed := true }
def BufferEncodeUptoSaid : Prop := bufferEncodeUptoRow.holds Try.pinned (OpenSpec.upto bufferEncodeSpec)

/-- 'compositorlaw09.BufferBasics', WHERE WHAT IT READS IS OF BULK AT MOST 1048576: true; the input reads as it did. -/
def bufferBasicsUptoRow : OpenClaim := { program := "ytgikmcgoaihggaa", sum := "7cd9aa963af52fc1028cc526576dd43b4bc7bd6a30fce597ef185c50106dfe4b", func := "compositor/compositorlaw09.BufferBasics", spec := "bufferBasics", unfollowed := true, recurses := true, apart := false, narrowed := true }
def BufferBasicsUptoSaid : Prop := bufferBasicsUptoRow.holds Try.pinned (OpenSpec.upto bufferBasicsSpec)

/-- 'compositorlaw09.BufferCrop', WHERE WHAT IT READS IS OF BULK AT MOST 1048576: true; the input reads as it did. -/
def bufferCropUptoRow : OpenClaim := { program := "ytgikmcgoaihggaa", sum := "7cd9aa963af52fc1028cc526576dd43b4bc7bd6a30fce597ef185c50106dfe4b", func := "compositor/compositorlaw09.BufferCrop", spec := "bufferCrop", unfollowed := true, recurses := true, apart := false, narrowed := true }
def BufferCropUptoSaid : Prop := bufferCropUptoRow.holds Try.pinned (OpenSpec.upto bufferCropSpec)

/-- 'compositorlaw09.BufferCovers', WHERE WHAT IT READS IS OF BULK AT MOST 1048576: true; the input reads as it did. -/
def bufferCoversUptoRow : OpenClaim := { program := "ytgikmcgoaihggaa", sum := "7cd9aa963af52fc1028cc526576dd43b4bc7bd6a30fce597ef185c50106dfe4b", func := "compositor/compositorlaw09.BufferCovers", spec := "bufferCovers", unfollowed := true, recurses := true, apart := false, narrowed := true }
def BufferCoversUptoSaid : Prop := bufferCoversUptoRow.holds Try.pinned (OpenSpec.upto bufferCoversSpec)

/-- 'compositorlaw09.BufferDiff', WHERE WHAT IT READS IS OF BULK AT MOST 1048576: true; the input reads as it did. -/
def bufferDiffUptoRow : OpenClaim := { program := "ytgikmcgoaihggaa", sum := "7cd9aa963af52fc1028cc526576dd43b4bc7bd6a30fce597ef185c50106dfe4b", func := "compositor/compositorlaw09.BufferDiff", spec := "bufferDiff", unfollowed := true, recurses := true, apart := false, narrowed := true }
def BufferDiffUptoSaid : Prop := bufferDiffUptoRow.holds Try.pinned (OpenSpec.upto bufferDiffSpec)

/-- 'compositorlaw09.BufferPaste', WHERE WHAT IT READS IS OF BULK AT MOST 1048576: true; the input reads as it did. -/
def bufferPasteUptoRow : OpenClaim := { program := "ytgikmcgoaihggaa", sum := "7cd9aa963af52fc1028cc526576dd43b4bc7bd6a30fce597ef185c50106dfe4b", func := "compositor/compositorlaw09.BufferPaste", spec := "bufferPaste", unfollowed := true, recurses := true, apart := false, narrowed := true }
def BufferPasteUptoSaid : Prop := bufferPasteUptoRow.holds Try.pinned (OpenSpec.upto bufferPasteSpec)

/-- 'compositorlaw09.BufferNew', WHERE WHAT IT READS IS OF BULK AT MOST 1048576: true; the input reads as it did. -/
def bufferNewUptoRow : OpenClaim := { program := "ytgikmcgoaihggaa", sum := "7cd9aa963af52fc1028cc526576dd43b4bc7bd6a30fce597ef185c50106dfe4b", func := "compositor/compositorlaw09.BufferNew", spec := "bufferNew", unfollowed := true, recurses := true, apart := false, narrowed := true }
def BufferNewUptoSaid : Prop := bufferNewUptoRow.holds Try.pinned (OpenSpec.upto bufferNewSpec)

/-- 'compositorlaw09.BufferNeutral', WHERE WHAT IT READS IS OF BULK AT MOST 1048576: true; the input reads as it did. -/
def bufferNeutralUptoRow : OpenClaim := { program := "ytgikmcgoaihggaa", sum := "7cd9aa963af52fc1028cc526576dd43b4bc7bd6a30fce597ef185c50106dfe4b", func := "compositor/compositorlaw09.BufferNeutral", spec := "bufferNeutral", unfollowed := true, recurses := true, apart := false, narrowed := true }
def BufferNeutralUptoSaid : Prop := bufferNeutralUptoRow.holds Try.pinned (OpenSpec.upto bufferNeutralSpec)

end Rows
end Go.Proofs.Ytgikmcgoaihggaa
