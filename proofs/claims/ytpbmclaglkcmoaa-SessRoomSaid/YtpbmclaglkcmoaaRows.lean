/-
  No cell of these rows narrows 'for every input' (looked for: loops, veiled, ifaces, maps, wideKeys, modest, calm, conditions, laid).
  DERIVED. THE GIVEN ROWS OF THIS SEAT. 12 by the template 'for every input the law returns true; each argument reads behind the call as it read before'; 0 by the template 'total and deterministic' (their statements: YtpbmclaglkcmoaaTotals.lean).
  GIVEN WITH THE SEED: the statements are not yours to turn. If you find one false, say at which input.
  Laid BY PROGRAM, IN A SANDBOX (cutbox-rows.mjs): the forced cells as the released guide's own fill.sh prints them over the translation 04e991360aacbd51… (all of the seat's roots in one cut). By AI agents, Wed Nov 11 2026. No macro, syntax, notation, axiom, sorry.
-/
import Derived.Test.YtpbmclaglkcmoaaChecked
import GoSem.Claim
import GoSem.ClaimJoined
import GoSem.ClaimMapViews
import Derived.JoinedTies
import Derived.KernelRfl
namespace Go.Proofs.Ytpbmclaglkcmoaa
/- THE CELL 'sum', in the pinned program and in every row, IS THE sha256 OF THE DUMP (.gsa) THAT YtpbmclaglkcmoaaProg.lean LOADS. Nothing in Lean hashes anything: it is a label: what it is worth is what the hold of that sum in a sandbox is worth. -/
noncomputable def Try.pinned : Pinned := { name := "ytpbmclaglkcmoaa", sum := "04e991360aacbd514c706119922181b754b597f11574b60dd7b7c11593069acc", checked := Try.checked }
namespace Rows
def none {H : Type} : Left H := { results := [], args := [] }

/-- 'commonslaw15.SessOnce': WHATEVER THE INPUT: true; the input reads as it did. -/
def sessOnceSpec : ChangeSpec := { name := "sessOnce", fn := fun _ => fun
  | [d] => { results := [.lit (.bool true)], args := [d] }
  | _ => none }
def sessOnceRow : OpenClaim := { program := "ytpbmclaglkcmoaa", sum := "04e991360aacbd514c706119922181b754b597f11574b60dd7b7c11593069acc", func := "commons/commonslaw15.SessOnce", spec := "sessOnce", apart := false }
def SessOnceSaid : Prop := sessOnceRow.holds Try.pinned (OpenSpec.ofChange sessOnceSpec)

/-- ITS FALSE NEIGHBOUR: 'it returns false'. Refute it at one input. -/
def sessOnceWrong : ChangeSpec := { name := "sessOnce", fn := fun _ => fun
  | [d] => { results := [.lit (.bool false)], args := [d] }
  | _ => none }
def SessOnceWrongFalsely : Prop := sessOnceRow.holds Try.pinned (OpenSpec.ofChange sessOnceWrong)

/-- 'commonslaw15.SessRoom': WHATEVER THE INPUT: true; the input reads as it did. -/
def sessRoomSpec : ChangeSpec := { name := "sessRoom", fn := fun _ => fun
  | [d] => { results := [.lit (.bool true)], args := [d] }
  | _ => none }
def sessRoomRow : OpenClaim := { program := "ytpbmclaglkcmoaa", sum := "04e991360aacbd514c706119922181b754b597f11574b60dd7b7c11593069acc", func := "commons/commonslaw15.SessRoom", spec := "sessRoom", apart := false }
def SessRoomSaid : Prop := sessRoomRow.holds Try.pinned (OpenSpec.ofChange sessRoomSpec)

/-- ITS FALSE NEIGHBOUR: 'it returns false'. Refute it at one input. -/
def sessRoomWrong : ChangeSpec := { name := "sessRoom", fn := fun _ => fun
  | [d] => { results := [.lit (.bool false)], args := [d] }
  | _ => none }
def SessRoomWrongFalsely : Prop := sessRoomRow.holds Try.pinned (OpenSpec.ofChange sessRoomWrong)

/-- 'commonslaw15.SessLives': WHATEVER THE INPUT: true; the input reads as it did. -/
def sessLivesSpec : ChangeSpec := { name := "sessLives", fn := fun _ => fun
  | [d] => { results := [.lit (.bool true)], args := [d] }
  | _ => none }
def sessLivesRow : OpenClaim := { program := "ytpbmclaglkcmoaa", sum := "04e991360aacbd514c706119922181b754b597f11574b60dd7b7c11593069acc", func := "commons/commonslaw15.SessLives", spec := "sessLives", apart := false }
def SessLivesSaid : Prop := sessLivesRow.holds Try.pinned (OpenSpec.ofChange sessLivesSpec)

/-- ITS FALSE NEIGHBOUR: 'it returns false'. Refute it at one input. -/
def sessLivesWrong : ChangeSpec := { name := "sessLives", fn := fun _ => fun
  | [d] => { results := [.lit (.bool false)], args := [d] }
  | _ => none }
def SessLivesWrongFalsely : Prop := sessLivesRow.holds Try.pinned (OpenSpec.ofChange sessLivesWrong)

/-- 'commonslaw15.SessNone': WHATEVER THE INPUT: true; the input reads as it did. -/
def sessNoneSpec : ChangeSpec := { name := "sessNone", fn := fun _ => fun
  | [d] => { results := [.lit (.bool true)], args := [d] }
  | _ => none }
def sessNoneRow : OpenClaim := { program := "ytpbmclaglkcmoaa", sum := "04e991360aacbd514c706119922181b754b597f11574b60dd7b7c11593069acc", func := "commons/commonslaw15.SessNone", spec := "sessNone", apart := false }
def SessNoneSaid : Prop := sessNoneRow.holds Try.pinned (OpenSpec.ofChange sessNoneSpec)

/-- ITS FALSE NEIGHBOUR: 'it returns false'. Refute it at one input. -/
def sessNoneWrong : ChangeSpec := { name := "sessNone", fn := fun _ => fun
  | [d] => { results := [.lit (.bool false)], args := [d] }
  | _ => none }
def SessNoneWrongFalsely : Prop := sessNoneRow.holds Try.pinned (OpenSpec.ofChange sessNoneWrong)

/-- 'commonslaw2.SumTells': WHATEVER THE INPUT: true; the input reads as it did. -/
def sumTellsSpec : ChangeSpec := { name := "sumTells", fn := fun _ => fun
  | [d1, d2, d3] => { results := [.lit (.bool true)], args := [d1, d2, d3] }
  | _ => none }
def sumTellsRow : OpenClaim := { program := "ytpbmclaglkcmoaa", sum := "04e991360aacbd514c706119922181b754b597f11574b60dd7b7c11593069acc", func := "commons/commonslaw2.SumTells", spec := "sumTells", inPlace := ["internal/abi.NoEscape", "internal/bytealg.MakeNoZero"], apart := false }
def SumTellsSaid : Prop := sumTellsRow.holds Try.pinned (OpenSpec.ofChange sumTellsSpec)

/-- ITS FALSE NEIGHBOUR: 'it returns false'. Refute it at one input. -/
def sumTellsWrong : ChangeSpec := { name := "sumTells", fn := fun _ => fun
  | [d1, d2, d3] => { results := [.lit (.bool false)], args := [d1, d2, d3] }
  | _ => none }
def SumTellsWrongFalsely : Prop := sumTellsRow.holds Try.pinned (OpenSpec.ofChange sumTellsWrong)

/-- 'commonslaw2.SumBack': WHATEVER THE INPUT: true; the input reads as it did. -/
def sumBackSpec : ChangeSpec := { name := "sumBack", fn := fun _ => fun
  | [d1, d2] => { results := [.lit (.bool true)], args := [d1, d2] }
  | _ => none }
def sumBackRow : OpenClaim := { program := "ytpbmclaglkcmoaa", sum := "04e991360aacbd514c706119922181b754b597f11574b60dd7b7c11593069acc", func := "commons/commonslaw2.SumBack", spec := "sumBack", inPlace := ["internal/abi.NoEscape", "internal/bytealg.MakeNoZero"], apart := false }
def SumBackSaid : Prop := sumBackRow.holds Try.pinned (OpenSpec.ofChange sumBackSpec)

/-- ITS FALSE NEIGHBOUR: 'it returns false'. Refute it at one input. -/
def sumBackWrong : ChangeSpec := { name := "sumBack", fn := fun _ => fun
  | [d1, d2] => { results := [.lit (.bool false)], args := [d1, d2] }
  | _ => none }
def SumBackWrongFalsely : Prop := sumBackRow.holds Try.pinned (OpenSpec.ofChange sumBackWrong)

/-- 'commonslaw2.SumChanged': WHATEVER THE INPUT: true; the input reads as it did. -/
def sumChangedSpec : ChangeSpec := { name := "sumChanged", fn := fun _ => fun
  | [d1, d2, d3, d4] => { results := [.lit (.bool true)], args := [d1, d2, d3, d4] }
  | _ => none }
def sumChangedRow : OpenClaim := { program := "ytpbmclaglkcmoaa", sum := "04e991360aacbd514c706119922181b754b597f11574b60dd7b7c11593069acc", func := "commons/commonslaw2.SumChanged", spec := "sumChanged", inPlace := ["internal/abi.NoEscape", "internal/bytealg.MakeNoZero"], apart := false }
def SumChangedSaid : Prop := sumChangedRow.holds Try.pinned (OpenSpec.ofChange sumChangedSpec)

/-- ITS FALSE NEIGHBOUR: 'it returns false'. Refute it at one input. -/
def sumChangedWrong : ChangeSpec := { name := "sumChanged", fn := fun _ => fun
  | [d1, d2, d3, d4] => { results := [.lit (.bool false)], args := [d1, d2, d3, d4] }
  | _ => none }
def SumChangedWrongFalsely : Prop := sumChangedRow.holds Try.pinned (OpenSpec.ofChange sumChangedWrong)

/-- 'commonslaw2.SumParts': WHATEVER THE INPUT: true; the input reads as it did. -/
def sumPartsSpec : ChangeSpec := { name := "sumParts", fn := fun _ => fun
  | [d1, d2, d3, d4] => { results := [.lit (.bool true)], args := [d1, d2, d3, d4] }
  | _ => none }
def sumPartsRow : OpenClaim := { program := "ytpbmclaglkcmoaa", sum := "04e991360aacbd514c706119922181b754b597f11574b60dd7b7c11593069acc", func := "commons/commonslaw2.SumParts", spec := "sumParts", inPlace := ["internal/abi.NoEscape", "internal/bytealg.MakeNoZero"], apart := false }
def SumPartsSaid : Prop := sumPartsRow.holds Try.pinned (OpenSpec.ofChange sumPartsSpec)

/-- ITS FALSE NEIGHBOUR: 'it returns false'. Refute it at one input. -/
def sumPartsWrong : ChangeSpec := { name := "sumParts", fn := fun _ => fun
  | [d1, d2, d3, d4] => { results := [.lit (.bool false)], args := [d1, d2, d3, d4] }
  | _ => none }
def SumPartsWrongFalsely : Prop := sumPartsRow.holds Try.pinned (OpenSpec.ofChange sumPartsWrong)

/-- 'commonslaw11.RecBack': WHATEVER THE INPUT: true; the input reads as it did. -/
def recBackSpec : ChangeSpec := { name := "recBack", fn := fun _ => fun
  | [d1, d2, d3, d4] => { results := [.lit (.bool true)], args := [d1, d2, d3, d4] }
  | _ => none }
def recBackRow : OpenClaim := { program := "ytpbmclaglkcmoaa", sum := "04e991360aacbd514c706119922181b754b597f11574b60dd7b7c11593069acc", func := "commons/commonslaw11.RecBack", spec := "recBack", inPlace := ["internal/abi.NoEscape", "internal/bytealg.MakeNoZero"], apart := false }
def RecBackSaid : Prop := recBackRow.holds Try.pinned (OpenSpec.ofChange recBackSpec)

/-- ITS FALSE NEIGHBOUR: 'it returns false'. Refute it at one input. -/
def recBackWrong : ChangeSpec := { name := "recBack", fn := fun _ => fun
  | [d1, d2, d3, d4] => { results := [.lit (.bool false)], args := [d1, d2, d3, d4] }
  | _ => none }
def RecBackWrongFalsely : Prop := recBackRow.holds Try.pinned (OpenSpec.ofChange recBackWrong)

/-- 'commonslaw11.RecMost': WHATEVER THE INPUT: true; the input reads as it did. -/
def recMostSpec : ChangeSpec := { name := "recMost", fn := fun _ => fun
  | [d] => { results := [.lit (.bool true)], args := [d] }
  | _ => none }
def recMostRow : OpenClaim := { program := "ytpbmclaglkcmoaa", sum := "04e991360aacbd514c706119922181b754b597f11574b60dd7b7c11593069acc", func := "commons/commonslaw11.RecMost", spec := "recMost", inPlace := ["internal/abi.NoEscape", "internal/bytealg.MakeNoZero"], apart := false }
def RecMostSaid : Prop := recMostRow.holds Try.pinned (OpenSpec.ofChange recMostSpec)

/-- ITS FALSE NEIGHBOUR: 'it returns false'. Refute it at one input. -/
def recMostWrong : ChangeSpec := { name := "recMost", fn := fun _ => fun
  | [d] => { results := [.lit (.bool false)], args := [d] }
  | _ => none }
def RecMostWrongFalsely : Prop := recMostRow.holds Try.pinned (OpenSpec.ofChange recMostWrong)

/-- 'commonslaw11.RecHeads': WHATEVER THE INPUT: true; the input reads as it did. -/
def recHeadsSpec : ChangeSpec := { name := "recHeads", fn := fun _ => fun
  | [d1, d2, d3] => { results := [.lit (.bool true)], args := [d1, d2, d3] }
  | _ => none }
def recHeadsRow : OpenClaim := { program := "ytpbmclaglkcmoaa", sum := "04e991360aacbd514c706119922181b754b597f11574b60dd7b7c11593069acc", func := "commons/commonslaw11.RecHeads", spec := "recHeads", inPlace := ["internal/abi.NoEscape", "internal/bytealg.MakeNoZero"], apart := false }
def RecHeadsSaid : Prop := recHeadsRow.holds Try.pinned (OpenSpec.ofChange recHeadsSpec)

/-- ITS FALSE NEIGHBOUR: 'it returns false'. Refute it at one input. -/
def recHeadsWrong : ChangeSpec := { name := "recHeads", fn := fun _ => fun
  | [d1, d2, d3] => { results := [.lit (.bool false)], args := [d1, d2, d3] }
  | _ => none }
def RecHeadsWrongFalsely : Prop := recHeadsRow.holds Try.pinned (OpenSpec.ofChange recHeadsWrong)

/-- 'commonslaw11.RecRow': WHATEVER THE INPUT: true; the input reads as it did. -/
def recRowSpec : ChangeSpec := { name := "recRow", fn := fun _ => fun
  | [d] => { results := [.lit (.bool true)], args := [d] }
  | _ => none }
def recRowRow : OpenClaim := { program := "ytpbmclaglkcmoaa", sum := "04e991360aacbd514c706119922181b754b597f11574b60dd7b7c11593069acc", func := "commons/commonslaw11.RecRow", spec := "recRow", inPlace := ["internal/abi.NoEscape", "internal/bytealg.MakeNoZero"], apart := false }
def RecRowSaid : Prop := recRowRow.holds Try.pinned (OpenSpec.ofChange recRowSpec)

/-- ITS FALSE NEIGHBOUR: 'it returns false'. Refute it at one input. -/
def recRowWrong : ChangeSpec := { name := "recRow", fn := fun _ => fun
  | [d] => { results := [.lit (.bool false)], args := [d] }
  | _ => none }
def RecRowWrongFalsely : Prop := recRowRow.holds Try.pinned (OpenSpec.ofChange recRowWrong)

/- THE SECOND FORM. 'bulk': how many values and letters a reading holds, each counted each time it is reached (what is shared counts as often as it is met; a slice's spare places count too). A statement '..UptoSaid' is the law's where the arguments, and the package variables that the reading takes, are together of bulk at most 1048576: NARROWER than '..Said'. Prove '..Said' where nothing that the law and all that it calls make is longer than what came in: it says more and counts as full. Else prove '..UptoSaid'. A law counts once. -/
mutual
def uptoBulk {H : Type} : DataW H → Nat
  | .lit (.string bytes) => bytes.length + 1
  | .lit _ => 1
  | .nil => 1
  | .ptr d => uptoBulk d + 1
  | .slice elems spare => uptoBulkAll elems + uptoBulkAll spare + 1
  | .agg parts => uptoBulkAll parts + 1
  | .iface _ d => uptoBulk d + 1
  | .map entries => uptoBulkEntries entries + 1
  | .held _ => 1
def uptoBulkAll {H : Type} : List (DataW H) → Nat
  | [] => 0
  | d :: r => uptoBulk d + uptoBulkAll r
def uptoBulkEntries {H : Type} : List (Lit × DataW H) → Nat
  | [] => 0
  | x :: r => uptoBulkEntry x + uptoBulkEntries r
def uptoBulkEntry {H : Type} : Lit × DataW H → Nat
  | (.string bytes, d) => bytes.length + uptoBulk d + 1
  | (_, d) => uptoBulk d + 1
 end
def uptoSmall : (H : Type) → List (DataW H) → Bool := fun _ ds => decide (uptoBulkAll ds ≤ 1048576)
def OpenSpec.upto (s : _root_.Go.ChangeSpec) : _root_.Go.OpenSpec := { _root_.Go.OpenSpec.ofChange s with cond := some uptoSmall }

/-- 'commonslaw15.SessOnce', WHERE WHAT IT READS IS OF BULK AT MOST 1048576: true; the input reads as it did. -/
def sessOnceUptoRow : OpenClaim := { program := "ytpbmclaglkcmoaa", sum := "04e991360aacbd514c706119922181b754b597f11574b60dd7b7c11593069acc", func := "commons/commonslaw15.SessOnce", spec := "sessOnce", apart := false, narrowed := true }
def SessOnceUptoSaid : Prop := sessOnceUptoRow.holds Try.pinned (OpenSpec.upto sessOnceSpec)

/-- 'commonslaw15.SessRoom', WHERE WHAT IT READS IS OF BULK AT MOST 1048576: true; the input reads as it did. -/
def sessRoomUptoRow : OpenClaim := { program := "ytpbmclaglkcmoaa", sum := "04e991360aacbd514c706119922181b754b597f11574b60dd7b7c11593069acc", func := "commons/commonslaw15.SessRoom", spec := "sessRoom", apart := false, narrowed := true }
def SessRoomUptoSaid : Prop := sessRoomUptoRow.holds Try.pinned (OpenSpec.upto sessRoomSpec)

/-- 'commonslaw15.SessLives', WHERE WHAT IT READS IS OF BULK AT MOST 1048576: true; the input reads as it did. -/
def sessLivesUptoRow : OpenClaim := { program := "ytpbmclaglkcmoaa", sum := "04e991360aacbd514c706119922181b754b597f11574b60dd7b7c11593069acc", func := "commons/commonslaw15.SessLives", spec := "sessLives", apart := false, narrowed := true }
def SessLivesUptoSaid : Prop := sessLivesUptoRow.holds Try.pinned (OpenSpec.upto sessLivesSpec)

/-- 'commonslaw15.SessNone', WHERE WHAT IT READS IS OF BULK AT MOST 1048576: true; the input reads as it did. -/
def sessNoneUptoRow : OpenClaim := { program := "ytpbmclaglkcmoaa", sum := "04e991360aacbd514c706119922181b754b597f11574b60dd7b7c11593069acc", func := "commons/commonslaw15.SessNone", spec := "sessNone", apart := false, narrowed := true }
def SessNoneUptoSaid : Prop := sessNoneUptoRow.holds Try.pinned (OpenSpec.upto sessNoneSpec)

/-- 'commonslaw2.SumTells', WHERE WHAT IT READS IS OF BULK AT MOST 1048576: true; the input reads as it did. -/
def sumTellsUptoRow : OpenClaim := { program := "ytpbmclaglkcmoaa", sum := "04e991360aacbd514c706119922181b754b597f11574b60dd7b7c11593069acc", func := "commons/commonslaw2.SumTells", spec := "sumTells", inPlace := ["internal/abi.NoEscape", "internal/bytealg.MakeNoZero"], apart := false, narrowed := true }
def SumTellsUptoSaid : Prop := sumTellsUptoRow.holds Try.pinned (OpenSpec.upto sumTellsSpec)

/-- 'commonslaw2.SumBack', WHERE WHAT IT READS IS OF BULK AT MOST 1048576: true; the input reads as it did. -/
def sumBackUptoRow : OpenClaim := { program := "ytpbmclaglkcmoaa", sum := "04e991360aacbd514c706119922181b754b597f11574b60dd7b7c11593069acc", func := "commons/commonslaw2.SumBack", spec := "sumBack", inPlace := ["internal/abi.NoEscape", "internal/bytealg.MakeNoZero"], apart := false, narrowed := true }
def SumBackUptoSaid : Prop := sumBackUptoRow.holds Try.pinned (OpenSpec.upto sumBackSpec)

/-- 'commonslaw2.SumChanged', WHERE WHAT IT READS IS OF BULK AT MOST 1048576: true; the input reads as it did. -/
def sumChangedUptoRow : OpenClaim := { program := "ytpbmclaglkcmoaa", sum := "04e991360aacbd514c706119922181b754b597f11574b60dd7b7c11593069acc", func := "commons/commonslaw2.SumChanged", spec := "sumChanged", inPlace := ["internal/abi.NoEscape", "internal/bytealg.MakeNoZero"], apart := false, narrowed := true }
def SumChangedUptoSaid : Prop := sumChangedUptoRow.holds Try.pinned (OpenSpec.upto sumChangedSpec)

/-- 'commonslaw2.SumParts', WHERE WHAT IT READS IS OF BULK AT MOST 1048576: true; the input reads as it did. -/
def sumPartsUptoRow : OpenClaim := { program := "ytpbmclaglkcmoaa", sum := "04e991360aacbd514c706119922181b754b597f11574b60dd7b7c11593069acc", func := "commons/commonslaw2.SumParts", spec := "sumParts", inPlace := ["internal/abi.NoEscape", "internal/bytealg.MakeNoZero"], apart := false, narrowed := true }
def SumPartsUptoSaid : Prop := sumPartsUptoRow.holds Try.pinned (OpenSpec.upto sumPartsSpec)

/-- 'commonslaw11.RecBack', WHERE WHAT IT READS IS OF BULK AT MOST 1048576: true; the input reads as it did. -/
def recBackUptoRow : OpenClaim := { program := "ytpbmclaglkcmoaa", sum := "04e991360aacbd514c706119922181b754b597f11574b60dd7b7c11593069acc", func := "commons/commonslaw11.RecBack", spec := "recBack", inPlace := ["internal/abi.NoEscape", "internal/bytealg.MakeNoZero"], apart := false, narrowed := true }
def RecBackUptoSaid : Prop := recBackUptoRow.holds Try.pinned (OpenSpec.upto recBackSpec)

/-- 'commonslaw11.RecMost', WHERE WHAT IT READS IS OF BULK AT MOST 1048576: true; the input reads as it did. -/
def recMostUptoRow : OpenClaim := { program := "ytpbmclaglkcmoaa", sum := "04e991360aacbd514c706119922181b754b597f11574b60dd7b7c11593069acc", func := "commons/commonslaw11.RecMost", spec := "recMost", inPlace := ["internal/abi.NoEscape", "internal/bytealg.MakeNoZero"], apart := false, narrowed := true }
def RecMostUptoSaid : Prop := recMostUptoRow.holds Try.pinned (OpenSpec.upto recMostSpec)

/-- 'commonslaw11.RecHeads', WHERE WHAT IT READS IS OF BULK AT MOST 1048576: true; the input reads as it did. -/
def recHeadsUptoRow : OpenClaim := { program := "ytpbmclaglkcmoaa", sum := "04e991360aacbd514c706119922181b754b597f11574b60dd7b7c11593069acc", func := "commons/commonslaw11.RecHeads", spec := "recHeads", inPlace := ["internal/abi.NoEscape", "internal/bytealg.MakeNoZero"], apart := false, narrowed := true }
def RecHeadsUptoSaid : Prop := recHeadsUptoRow.holds Try.pinned (OpenSpec.upto recHeadsSpec)

/-- 'commonslaw11.RecRow', WHERE WHAT IT READS IS OF BULK AT MOST 1048576: true; the input reads as it did. -/
def recRowUptoRow : OpenClaim := { program := "ytpbmclaglkcmoaa", sum := "04e991360aacbd514c706119922181b754b597f11574b60dd7b7c11593069acc", func := "commons/commonslaw11.RecRow", spec := "recRow", inPlace := ["internal/abi.NoEscape", "internal/bytealg.MakeNoZero"], apart := false, narrowed := true }
def RecRowUptoSaid : Prop := recRowUptoRow.holds Try.pinned (OpenSpec.upto recRowSpec)

end Rows
end Go.Proofs.Ytpbmclaglkcmoaa
