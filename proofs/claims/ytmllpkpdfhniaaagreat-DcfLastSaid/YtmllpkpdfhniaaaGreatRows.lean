/-
  No cell of these rows narrows 'for every input' (looked for: loops, veiled, ifaces, maps, wideKeys, modest, calm, conditions, laid).
  DERIVED. THE GIVEN ROWS OF THIS SEAT. 18 by the template 'for every input the law returns true; each argument reads behind the call as it read before'; 0 by the template 'total and deterministic' (their statements: YtmllpkpdfhniaaaGreatTotals.lean).
  GIVEN WITH THE SEED: the statements are not yours to turn. If you find one false, say at which input.
  Laid BY PROGRAM, IN A SANDBOX (cutbox-rows.mjs): the forced cells as the released guide's own fill.sh prints them over the translation af35e5e867dece90… (all of the seat's roots in one cut). By AI agents, Wed Nov 11 2026. No macro, syntax, notation, axiom, sorry.
-/
import Derived.Test.YtmllpkpdfhniaaaGreatChecked
import GoSem.Claim
import GoSem.ClaimJoined
import GoSem.ClaimMapViews
import Derived.JoinedTies
import Derived.KernelRfl
namespace Go.Proofs.YtmllpkpdfhniaaaGreat
/- THE CELL 'sum', in the pinned program and in every row, IS THE sha256 OF THE DUMP (.gsa) THAT YtmllpkpdfhniaaaGreatProg.lean LOADS. Nothing in Lean hashes anything: it is a label: what it is worth is what the hold of that sum in a sandbox is worth. -/
noncomputable def Tryz.pinned : Pinned := { name := "ytmllpkpdfhniaaagreat", sum := "af35e5e867dece904e24f72937819f385a6c7513a137f8111ac270396792a07c", checked := Tryz.checked }
namespace Rows
def none {H : Type} : Left H := { results := [], args := [] }

/-- 'tramwaylaw21.DcfLast': WHATEVER THE INPUT: true; the input reads as it did. -/
def dcfLastSpec : ChangeSpec := { name := "dcfLast", fn := fun _ => fun
  | [d1, d2] => { results := [.lit (.bool true)], args := [d1, d2] }
  | _ => none }
def dcfLastRow : OpenClaim := { program := "ytmllpkpdfhniaaagreat", sum := "af35e5e867dece904e24f72937819f385a6c7513a137f8111ac270396792a07c", func := "tramway/tramwaylaw21.DcfLast", spec := "dcfLast", inPlace := ["internal/bytealg.abigen_runtime_cmpstring"], unfollowed := true, recurses := true, plainKeys := false, apart := false }
def DcfLastSaid : Prop := dcfLastRow.holds Tryz.pinned (OpenSpec.ofChange dcfLastSpec)

/-- ITS FALSE NEIGHBOUR: 'it returns false'. Refute it at one input. -/
def dcfLastWrong : ChangeSpec := { name := "dcfLast", fn := fun _ => fun
  | [d1, d2] => { results := [.lit (.bool false)], args := [d1, d2] }
  | _ => none }
def DcfLastWrongFalsely : Prop := dcfLastRow.holds Tryz.pinned (OpenSpec.ofChange dcfLastWrong)

/-- 'tramwaylaw21.DcfReads': WHATEVER THE INPUT: true; the input reads as it did. -/
def dcfReadsSpec : ChangeSpec := { name := "dcfReads", fn := fun _ => fun
  | [d1, d2] => { results := [.lit (.bool true)], args := [d1, d2] }
  | _ => none }
def dcfReadsRow : OpenClaim := { program := "ytmllpkpdfhniaaagreat", sum := "af35e5e867dece904e24f72937819f385a6c7513a137f8111ac270396792a07c", func := "tramway/tramwaylaw21.DcfReads", spec := "dcfReads", inPlace := ["internal/bytealg.abigen_runtime_cmpstring"], unfollowed := true, recurses := true, plainKeys := false, apart := false }
def DcfReadsSaid : Prop := dcfReadsRow.holds Tryz.pinned (OpenSpec.ofChange dcfReadsSpec)

/-- ITS FALSE NEIGHBOUR: 'it returns false'. Refute it at one input. -/
def dcfReadsWrong : ChangeSpec := { name := "dcfReads", fn := fun _ => fun
  | [d1, d2] => { results := [.lit (.bool false)], args := [d1, d2] }
  | _ => none }
def DcfReadsWrongFalsely : Prop := dcfReadsRow.holds Tryz.pinned (OpenSpec.ofChange dcfReadsWrong)

/-- 'tramwaylaw13.PdomapDoes': WHATEVER THE INPUT: true; the input reads as it did. -/
def pdomapDoesSpec : ChangeSpec := { name := "pdomapDoes", fn := fun _ => fun
  | [d1, d2, d3] => { results := [.lit (.bool true)], args := [d1, d2, d3] }
  | _ => none }
def pdomapDoesRow : OpenClaim := { program := "ytmllpkpdfhniaaagreat", sum := "af35e5e867dece904e24f72937819f385a6c7513a137f8111ac270396792a07c", func := "tramway/tramwaylaw13.PdomapDoes", spec := "pdomapDoes", inPlace := ["internal/bytealg.abigen_runtime_cmpstring"], unfollowed := true, recurses := true, plainKeys := false, apart := false }
def PdomapDoesSaid : Prop := pdomapDoesRow.holds Tryz.pinned (OpenSpec.ofChange pdomapDoesSpec)

/-- ITS FALSE NEIGHBOUR: 'it returns false'. Refute it at one input. -/
def pdomapDoesWrong : ChangeSpec := { name := "pdomapDoes", fn := fun _ => fun
  | [d1, d2, d3] => { results := [.lit (.bool false)], args := [d1, d2, d3] }
  | _ => none }
def PdomapDoesWrongFalsely : Prop := pdomapDoesRow.holds Tryz.pinned (OpenSpec.ofChange pdomapDoesWrong)

/-- 'tramwaylaw10.SdoWrites': WHATEVER THE INPUT: true; the input reads as it did. -/
def sdoWritesSpec : ChangeSpec := { name := "sdoWrites", fn := fun _ => fun
  | [d1, d2] => { results := [.lit (.bool true)], args := [d1, d2] }
  | _ => none }
def sdoWritesRow : OpenClaim := { program := "ytmllpkpdfhniaaagreat", sum := "af35e5e867dece904e24f72937819f385a6c7513a137f8111ac270396792a07c", func := "tramway/tramwaylaw10.SdoWrites", spec := "sdoWrites", inPlace := ["internal/bytealg.abigen_runtime_cmpstring"], unfollowed := true, recurses := true, plainKeys := false, apart := false }
def SdoWritesSaid : Prop := sdoWritesRow.holds Tryz.pinned (OpenSpec.ofChange sdoWritesSpec)

/-- ITS FALSE NEIGHBOUR: 'it returns false'. Refute it at one input. -/
def sdoWritesWrong : ChangeSpec := { name := "sdoWrites", fn := fun _ => fun
  | [d1, d2] => { results := [.lit (.bool false)], args := [d1, d2] }
  | _ => none }
def SdoWritesWrongFalsely : Prop := sdoWritesRow.holds Tryz.pinned (OpenSpec.ofChange sdoWritesWrong)

/-- 'tramwaylaw10.SdoToggle': WHATEVER THE INPUT: true; the input reads as it did. -/
def sdoToggleSpec : ChangeSpec := { name := "sdoToggle", fn := fun _ => fun
  | [d1, d2, d3] => { results := [.lit (.bool true)], args := [d1, d2, d3] }
  | _ => none }
def sdoToggleRow : OpenClaim := { program := "ytmllpkpdfhniaaagreat", sum := "af35e5e867dece904e24f72937819f385a6c7513a137f8111ac270396792a07c", func := "tramway/tramwaylaw10.SdoToggle", spec := "sdoToggle", inPlace := ["internal/bytealg.abigen_runtime_cmpstring"], unfollowed := true, recurses := true, plainKeys := false, apart := false }
def SdoToggleSaid : Prop := sdoToggleRow.holds Tryz.pinned (OpenSpec.ofChange sdoToggleSpec)

/-- ITS FALSE NEIGHBOUR: 'it returns false'. Refute it at one input. -/
def sdoToggleWrong : ChangeSpec := { name := "sdoToggle", fn := fun _ => fun
  | [d1, d2, d3] => { results := [.lit (.bool false)], args := [d1, d2, d3] }
  | _ => none }
def SdoToggleWrongFalsely : Prop := sdoToggleRow.holds Tryz.pinned (OpenSpec.ofChange sdoToggleWrong)

/-- 'tramwaylaw21.DcfApplies': WHATEVER THE INPUT: true; the input reads as it did. -/
def dcfAppliesSpec : ChangeSpec := { name := "dcfApplies", fn := fun _ => fun
  | [d1, d2] => { results := [.lit (.bool true)], args := [d1, d2] }
  | _ => none }
def dcfAppliesRow : OpenClaim := { program := "ytmllpkpdfhniaaagreat", sum := "af35e5e867dece904e24f72937819f385a6c7513a137f8111ac270396792a07c", func := "tramway/tramwaylaw21.DcfApplies", spec := "dcfApplies", inPlace := ["internal/bytealg.abigen_runtime_cmpstring"], unfollowed := true, recurses := true, plainKeys := false, apart := false }
def DcfAppliesSaid : Prop := dcfAppliesRow.holds Tryz.pinned (OpenSpec.ofChange dcfAppliesSpec)

/-- ITS FALSE NEIGHBOUR: 'it returns false'. Refute it at one input. -/
def dcfAppliesWrong : ChangeSpec := { name := "dcfApplies", fn := fun _ => fun
  | [d1, d2] => { results := [.lit (.bool false)], args := [d1, d2] }
  | _ => none }
def DcfAppliesWrongFalsely : Prop := dcfAppliesRow.holds Tryz.pinned (OpenSpec.ofChange dcfAppliesWrong)

/-- 'tramwaylaw10.SdoReads': WHATEVER THE INPUT: true; the input reads as it did. -/
def sdoReadsSpec : ChangeSpec := { name := "sdoReads", fn := fun _ => fun
  | [d1, d2, d3] => { results := [.lit (.bool true)], args := [d1, d2, d3] }
  | _ => none }
def sdoReadsRow : OpenClaim := { program := "ytmllpkpdfhniaaagreat", sum := "af35e5e867dece904e24f72937819f385a6c7513a137f8111ac270396792a07c", func := "tramway/tramwaylaw10.SdoReads", spec := "sdoReads", inPlace := ["internal/bytealg.abigen_runtime_cmpstring"], unfollowed := true, recurses := true, plainKeys := false, apart := false }
def SdoReadsSaid : Prop := sdoReadsRow.holds Tryz.pinned (OpenSpec.ofChange sdoReadsSpec)

/-- ITS FALSE NEIGHBOUR: 'it returns false'. Refute it at one input. -/
def sdoReadsWrong : ChangeSpec := { name := "sdoReads", fn := fun _ => fun
  | [d1, d2, d3] => { results := [.lit (.bool false)], args := [d1, d2, d3] }
  | _ => none }
def SdoReadsWrongFalsely : Prop := sdoReadsRow.holds Tryz.pinned (OpenSpec.ofChange sdoReadsWrong)

/-- 'tramwaylaw10.SdoQuiet': WHATEVER THE INPUT: true; the input reads as it did. -/
def sdoQuietSpec : ChangeSpec := { name := "sdoQuiet", fn := fun _ => fun
  | [d1, d2] => { results := [.lit (.bool true)], args := [d1, d2] }
  | _ => none }
def sdoQuietRow : OpenClaim := { program := "ytmllpkpdfhniaaagreat", sum := "af35e5e867dece904e24f72937819f385a6c7513a137f8111ac270396792a07c", func := "tramway/tramwaylaw10.SdoQuiet", spec := "sdoQuiet", inPlace := ["internal/bytealg.abigen_runtime_cmpstring"], unfollowed := true, recurses := true, plainKeys := false, apart := false }
def SdoQuietSaid : Prop := sdoQuietRow.holds Tryz.pinned (OpenSpec.ofChange sdoQuietSpec)

/-- ITS FALSE NEIGHBOUR: 'it returns false'. Refute it at one input. -/
def sdoQuietWrong : ChangeSpec := { name := "sdoQuiet", fn := fun _ => fun
  | [d1, d2] => { results := [.lit (.bool false)], args := [d1, d2] }
  | _ => none }
def SdoQuietWrongFalsely : Prop := sdoQuietRow.holds Tryz.pinned (OpenSpec.ofChange sdoQuietWrong)

/-- 'tramwaylaw10.SdoAnswers': WHATEVER THE INPUT: true; the input reads as it did. -/
def sdoAnswersSpec : ChangeSpec := { name := "sdoAnswers", fn := fun _ => fun
  | [d1, d2] => { results := [.lit (.bool true)], args := [d1, d2] }
  | _ => none }
def sdoAnswersRow : OpenClaim := { program := "ytmllpkpdfhniaaagreat", sum := "af35e5e867dece904e24f72937819f385a6c7513a137f8111ac270396792a07c", func := "tramway/tramwaylaw10.SdoAnswers", spec := "sdoAnswers", inPlace := ["internal/bytealg.abigen_runtime_cmpstring"], unfollowed := true, recurses := true, plainKeys := false, apart := false }
def SdoAnswersSaid : Prop := sdoAnswersRow.holds Tryz.pinned (OpenSpec.ofChange sdoAnswersSpec)

/-- ITS FALSE NEIGHBOUR: 'it returns false'. Refute it at one input. -/
def sdoAnswersWrong : ChangeSpec := { name := "sdoAnswers", fn := fun _ => fun
  | [d1, d2] => { results := [.lit (.bool false)], args := [d1, d2] }
  | _ => none }
def SdoAnswersWrongFalsely : Prop := sdoAnswersRow.holds Tryz.pinned (OpenSpec.ofChange sdoAnswersWrong)

/-- 'tramwaylaw22.ConfigStops': WHATEVER THE INPUT: true; the input reads as it did. -/
def configStopsSpec : ChangeSpec := { name := "configStops", fn := fun _ => fun
  | [d1, d2] => { results := [.lit (.bool true)], args := [d1, d2] }
  | _ => none }
def configStopsRow : OpenClaim := { program := "ytmllpkpdfhniaaagreat", sum := "af35e5e867dece904e24f72937819f385a6c7513a137f8111ac270396792a07c", func := "tramway/tramwaylaw22.ConfigStops", spec := "configStops", inPlace := ["internal/bytealg.abigen_runtime_cmpstring"], unfollowed := true, recurses := true, plainKeys := false, apart := false }
def ConfigStopsSaid : Prop := configStopsRow.holds Tryz.pinned (OpenSpec.ofChange configStopsSpec)

/-- ITS FALSE NEIGHBOUR: 'it returns false'. Refute it at one input. -/
def configStopsWrong : ChangeSpec := { name := "configStops", fn := fun _ => fun
  | [d1, d2] => { results := [.lit (.bool false)], args := [d1, d2] }
  | _ => none }
def ConfigStopsWrongFalsely : Prop := configStopsRow.holds Tryz.pinned (OpenSpec.ofChange configStopsWrong)

/-- 'tramwaylaw22.ConfigReads': WHATEVER THE INPUT: true; the input reads as it did. -/
def configReadsSpec : ChangeSpec := { name := "configReads", fn := fun _ => fun
  | [d1, d2] => { results := [.lit (.bool true)], args := [d1, d2] }
  | _ => none }
def configReadsRow : OpenClaim := { program := "ytmllpkpdfhniaaagreat", sum := "af35e5e867dece904e24f72937819f385a6c7513a137f8111ac270396792a07c", func := "tramway/tramwaylaw22.ConfigReads", spec := "configReads", inPlace := ["internal/bytealg.abigen_runtime_cmpstring"], unfollowed := true, recurses := true, plainKeys := false, apart := false }
def ConfigReadsSaid : Prop := configReadsRow.holds Tryz.pinned (OpenSpec.ofChange configReadsSpec)

/-- ITS FALSE NEIGHBOUR: 'it returns false'. Refute it at one input. -/
def configReadsWrong : ChangeSpec := { name := "configReads", fn := fun _ => fun
  | [d1, d2] => { results := [.lit (.bool false)], args := [d1, d2] }
  | _ => none }
def ConfigReadsWrongFalsely : Prop := configReadsRow.holds Tryz.pinned (OpenSpec.ofChange configReadsWrong)

/-- 'tramwaylaw22.ConfigAsks': WHATEVER THE INPUT: true; the input reads as it did. -/
def configAsksSpec : ChangeSpec := { name := "configAsks", fn := fun _ => fun
  | [d1, d2] => { results := [.lit (.bool true)], args := [d1, d2] }
  | _ => none }
def configAsksRow : OpenClaim := { program := "ytmllpkpdfhniaaagreat", sum := "af35e5e867dece904e24f72937819f385a6c7513a137f8111ac270396792a07c", func := "tramway/tramwaylaw22.ConfigAsks", spec := "configAsks", inPlace := ["internal/bytealg.abigen_runtime_cmpstring"], unfollowed := true, recurses := true, plainKeys := false, apart := false }
def ConfigAsksSaid : Prop := configAsksRow.holds Tryz.pinned (OpenSpec.ofChange configAsksSpec)

/-- ITS FALSE NEIGHBOUR: 'it returns false'. Refute it at one input. -/
def configAsksWrong : ChangeSpec := { name := "configAsks", fn := fun _ => fun
  | [d1, d2] => { results := [.lit (.bool false)], args := [d1, d2] }
  | _ => none }
def ConfigAsksWrongFalsely : Prop := configAsksRow.holds Tryz.pinned (OpenSpec.ofChange configAsksWrong)

/-- 'tramwaylaw22.ConfigWhole': WHATEVER THE INPUT: true; the input reads as it did. -/
def configWholeSpec : ChangeSpec := { name := "configWhole", fn := fun _ => fun
  | [d1, d2] => { results := [.lit (.bool true)], args := [d1, d2] }
  | _ => none }
def configWholeRow : OpenClaim := { program := "ytmllpkpdfhniaaagreat", sum := "af35e5e867dece904e24f72937819f385a6c7513a137f8111ac270396792a07c", func := "tramway/tramwaylaw22.ConfigWhole", spec := "configWhole", inPlace := ["internal/bytealg.abigen_runtime_cmpstring"], unfollowed := true, recurses := true, plainKeys := false, apart := false }
def ConfigWholeSaid : Prop := configWholeRow.holds Tryz.pinned (OpenSpec.ofChange configWholeSpec)

/-- ITS FALSE NEIGHBOUR: 'it returns false'. Refute it at one input. -/
def configWholeWrong : ChangeSpec := { name := "configWhole", fn := fun _ => fun
  | [d1, d2] => { results := [.lit (.bool false)], args := [d1, d2] }
  | _ => none }
def ConfigWholeWrongFalsely : Prop := configWholeRow.holds Tryz.pinned (OpenSpec.ofChange configWholeWrong)

/-- 'tramwaylaw22.ConfigOther': WHATEVER THE INPUT: true; the input reads as it did. -/
def configOtherSpec : ChangeSpec := { name := "configOther", fn := fun _ => fun
  | [d1, d2] => { results := [.lit (.bool true)], args := [d1, d2] }
  | _ => none }
def configOtherRow : OpenClaim := { program := "ytmllpkpdfhniaaagreat", sum := "af35e5e867dece904e24f72937819f385a6c7513a137f8111ac270396792a07c", func := "tramway/tramwaylaw22.ConfigOther", spec := "configOther", inPlace := ["internal/bytealg.abigen_runtime_cmpstring"], unfollowed := true, recurses := true, plainKeys := false, apart := false }
def ConfigOtherSaid : Prop := configOtherRow.holds Tryz.pinned (OpenSpec.ofChange configOtherSpec)

/-- ITS FALSE NEIGHBOUR: 'it returns false'. Refute it at one input. -/
def configOtherWrong : ChangeSpec := { name := "configOther", fn := fun _ => fun
  | [d1, d2] => { results := [.lit (.bool false)], args := [d1, d2] }
  | _ => none }
def ConfigOtherWrongFalsely : Prop := configOtherRow.holds Tryz.pinned (OpenSpec.ofChange configOtherWrong)

/-- 'tramwaylaw22.ConfigKeep': WHATEVER THE INPUT: true; the input reads as it did. -/
def configKeepSpec : ChangeSpec := { name := "configKeep", fn := fun _ => fun
  | [d1, d2] => { results := [.lit (.bool true)], args := [d1, d2] }
  | _ => none }
def configKeepRow : OpenClaim := { program := "ytmllpkpdfhniaaagreat", sum := "af35e5e867dece904e24f72937819f385a6c7513a137f8111ac270396792a07c", func := "tramway/tramwaylaw22.ConfigKeep", spec := "configKeep", inPlace := ["internal/bytealg.abigen_runtime_cmpstring"], unfollowed := true, recurses := true, plainKeys := false, apart := false }
def ConfigKeepSaid : Prop := configKeepRow.holds Tryz.pinned (OpenSpec.ofChange configKeepSpec)

/-- ITS FALSE NEIGHBOUR: 'it returns false'. Refute it at one input. -/
def configKeepWrong : ChangeSpec := { name := "configKeep", fn := fun _ => fun
  | [d1, d2] => { results := [.lit (.bool false)], args := [d1, d2] }
  | _ => none }
def ConfigKeepWrongFalsely : Prop := configKeepRow.holds Tryz.pinned (OpenSpec.ofChange configKeepWrong)

/-- 'tramwaylaw11.ClientAgain': WHATEVER THE INPUT: true; the input reads as it did. -/
def clientAgainSpec : ChangeSpec := { name := "clientAgain", fn := fun _ => fun
  | [d] => { results := [.lit (.bool true)], args := [d] }
  | _ => none }
def clientAgainRow : OpenClaim := { program := "ytmllpkpdfhniaaagreat", sum := "af35e5e867dece904e24f72937819f385a6c7513a137f8111ac270396792a07c", func := "tramway/tramwaylaw11.ClientAgain", spec := "clientAgain", inPlace := ["internal/bytealg.abigen_runtime_cmpstring"], unfollowed := true, recurses := true, plainKeys := false, apart := false }
def ClientAgainSaid : Prop := clientAgainRow.holds Tryz.pinned (OpenSpec.ofChange clientAgainSpec)

/-- ITS FALSE NEIGHBOUR: 'it returns false'. Refute it at one input. -/
def clientAgainWrong : ChangeSpec := { name := "clientAgain", fn := fun _ => fun
  | [d] => { results := [.lit (.bool false)], args := [d] }
  | _ => none }
def ClientAgainWrongFalsely : Prop := clientAgainRow.holds Tryz.pinned (OpenSpec.ofChange clientAgainWrong)

/-- 'tramwaylaw11.ClientWhole': WHATEVER THE INPUT: true; the input reads as it did. -/
def clientWholeSpec : ChangeSpec := { name := "clientWhole", fn := fun _ => fun
  | [d1, d2] => { results := [.lit (.bool true)], args := [d1, d2] }
  | _ => none }
def clientWholeRow : OpenClaim := { program := "ytmllpkpdfhniaaagreat", sum := "af35e5e867dece904e24f72937819f385a6c7513a137f8111ac270396792a07c", func := "tramway/tramwaylaw11.ClientWhole", spec := "clientWhole", inPlace := ["internal/bytealg.abigen_runtime_cmpstring"], unfollowed := true, recurses := true, plainKeys := false, apart := false }
def ClientWholeSaid : Prop := clientWholeRow.holds Tryz.pinned (OpenSpec.ofChange clientWholeSpec)

/-- ITS FALSE NEIGHBOUR: 'it returns false'. Refute it at one input. -/
def clientWholeWrong : ChangeSpec := { name := "clientWhole", fn := fun _ => fun
  | [d1, d2] => { results := [.lit (.bool false)], args := [d1, d2] }
  | _ => none }
def ClientWholeWrongFalsely : Prop := clientWholeRow.holds Tryz.pinned (OpenSpec.ofChange clientWholeWrong)

/-- 'tramwaylaw11.ClientTalks': WHATEVER THE INPUT: true; the input reads as it did. -/
def clientTalksSpec : ChangeSpec := { name := "clientTalks", fn := fun _ => fun
  | [d1, d2, d3] => { results := [.lit (.bool true)], args := [d1, d2, d3] }
  | _ => none }
def clientTalksRow : OpenClaim := { program := "ytmllpkpdfhniaaagreat", sum := "af35e5e867dece904e24f72937819f385a6c7513a137f8111ac270396792a07c", func := "tramway/tramwaylaw11.ClientTalks", spec := "clientTalks", inPlace := ["internal/bytealg.abigen_runtime_cmpstring"], unfollowed := true, recurses := true, plainKeys := false, apart := false }
def ClientTalksSaid : Prop := clientTalksRow.holds Tryz.pinned (OpenSpec.ofChange clientTalksSpec)

/-- ITS FALSE NEIGHBOUR: 'it returns false'. Refute it at one input. -/
def clientTalksWrong : ChangeSpec := { name := "clientTalks", fn := fun _ => fun
  | [d1, d2, d3] => { results := [.lit (.bool false)], args := [d1, d2, d3] }
  | _ => none }
def ClientTalksWrongFalsely : Prop := clientTalksRow.holds Tryz.pinned (OpenSpec.ofChange clientTalksWrong)

/- THE SECOND FORM. 'bulk': how many values and letters a reading holds, each counted each time it is reached (what is shared counts as often as it is met; a slice's spare places count too). A statement '..UptoSaid' is the law's where the arguments, and the package variables that the reading takes, are together of bulk at most 1048576: NARROWER than '..Said'. Prove '..Said' where nothing that the law and all that it calls make is longer than what came in: it says more and counts as full. Else prove '..UptoSaid'. A law counts once. -/
mutual
def uptoBulk {H : Type} : DataW H → Nat
  | .lit (.string bytes) => bytes.length + 1
  | .lit _ => 1
  | .nil => 1
  | .ptr d => uptoBulk d + 1
  | .slice elems spare => uptoBulkAll elems + uptoBulkAll spare + 1
  | .agg parts => uptoBulkAll parts + 1
  | .iface _ d => uptoBulk d + 1
  | .map entries => uptoBulkEntries entries + 1
  | .held _ => 1
def uptoBulkAll {H : Type} : List (DataW H) → Nat
  | [] => 0
  | d :: r => uptoBulk d + uptoBulkAll r
def uptoBulkEntries {H : Type} : List (Lit × DataW H) → Nat
  | [] => 0
  | x :: r => uptoBulkEntry x + uptoBulkEntries r
def uptoBulkEntry {H : Type} : Lit × DataW H → Nat
  | (.string bytes, d) => bytes.length + uptoBulk d + 1
  | (_, d) => uptoBulk d + 1
 end
def uptoSmall : (H : Type) → List (DataW H) → Bool := fun _ ds => decide (uptoBulkAll ds ≤ 1048576)
def OpenSpec.upto (s : _root_.Go.ChangeSpec) : _root_.Go.OpenSpec := { _root_.Go.OpenSpec.ofChange s with cond := some uptoSmall }

/-- 'tramwaylaw21.DcfLast', WHERE WHAT IT READS IS OF BULK AT MOST 1048576: true; the input reads as it did. -/
def dcfLastUptoRow : OpenClaim := { program := "ytmllpkpdfhniaaagreat", sum := "af35e5e867dece904e24f72937819f385a6c7513a137f8111ac270396792a07c", func := "tramway/tramwaylaw21.DcfLast", spec := "dcfLast", inPlace := ["internal/bytealg.abigen_runtime_cmpstring"], unfollowed := true, recurses := true, plainKeys := false, apart := false, narrowed := true }
def DcfLastUptoSaid : Prop := dcfLastUptoRow.holds Tryz.pinned (OpenSpec.upto dcfLastSpec)

/-- 'tramwaylaw21.DcfReads', WHERE WHAT IT READS IS OF BULK AT MOST 1048576: true; the input reads as it did. -/
def dcfReadsUptoRow : OpenClaim := { program := "ytmllpkpdfhniaaagreat", sum := "af35e5e867dece904e24f72937819f385a6c7513a137f8111ac270396792a07c", func := "tramway/tramwaylaw21.DcfReads", spec := "dcfReads", inPlace := ["internal/bytealg.abigen_runtime_cmpstring"], unfollowed := true, recurses := true, plainKeys := false, apart := false, narrowed := true }
def DcfReadsUptoSaid : Prop := dcfReadsUptoRow.holds Tryz.pinned (OpenSpec.upto dcfReadsSpec)

/-- 'tramwaylaw13.PdomapDoes', WHERE WHAT IT READS IS OF BULK AT MOST 1048576: true; the input reads as it did. -/
def pdomapDoesUptoRow : OpenClaim := { program := "ytmllpkpdfhniaaagreat", sum := "af35e5e867dece904e24f72937819f385a6c7513a137f8111ac270396792a07c", func := "tramway/tramwaylaw13.PdomapDoes", spec := "pdomapDoes", inPlace := ["internal/bytealg.abigen_runtime_cmpstring"], unfollowed := true, recurses := true, plainKeys := false, apart := false, narrowed := true }
def PdomapDoesUptoSaid : Prop := pdomapDoesUptoRow.holds Tryz.pinned (OpenSpec.upto pdomapDoesSpec)

/-- 'tramwaylaw10.SdoWrites', WHERE WHAT IT READS IS OF BULK AT MOST 1048576: true; the input reads as it did. -/
def sdoWritesUptoRow : OpenClaim := { program := "ytmllpkpdfhniaaagreat", sum := "af35e5e867dece904e24f72937819f385a6c7513a137f8111ac270396792a07c", func := "tramway/tramwaylaw10.SdoWrites", spec := "sdoWrites", inPlace := ["internal/bytealg.abigen_runtime_cmpstring"], unfollowed := true, recurses := true, plainKeys := false, apart := false, narrowed := true }
def SdoWritesUptoSaid : Prop := sdoWritesUptoRow.holds Tryz.pinned (OpenSpec.upto sdoWritesSpec)

/-- 'tramwaylaw10.SdoToggle', WHERE WHAT IT READS IS OF BULK AT MOST 1048576: true; the input reads as it did. -/
def sdoToggleUptoRow : OpenClaim := { program := "ytmllpkpdfhniaaagreat", sum := "af35e5e867dece904e24f72937819f385a6c7513a137f8111ac270396792a07c", func := "tramway/tramwaylaw10.SdoToggle", spec := "sdoToggle", inPlace := ["internal/bytealg.abigen_runtime_cmpstring"], unfollowed := true, recurses := true, plainKeys := false, apart := false, narrowed := true }
def SdoToggleUptoSaid : Prop := sdoToggleUptoRow.holds Tryz.pinned (OpenSpec.upto sdoToggleSpec)

/-- 'tramwaylaw21.DcfApplies', WHERE WHAT IT READS IS OF BULK AT MOST 1048576: true; the input reads as it did. -/
def dcfAppliesUptoRow : OpenClaim := { program := "ytmllpkpdfhniaaagreat", sum := "af35e5e867dece904e24f72937819f385a6c7513a137f8111ac270396792a07c", func := "tramway/tramwaylaw21.DcfApplies", spec := "dcfApplies", inPlace := ["internal/bytealg.abigen_runtime_cmpstring"], unfollowed := true, recurses := true, plainKeys := false, apart := false, narrowed := true }
def DcfAppliesUptoSaid : Prop := dcfAppliesUptoRow.holds Tryz.pinned (OpenSpec.upto dcfAppliesSpec)

/-- 'tramwaylaw10.SdoReads', WHERE WHAT IT READS IS OF BULK AT MOST 1048576: true; the input reads as it did. -/
def sdoReadsUptoRow : OpenClaim := { program := "ytmllpkpdfhniaaagreat", sum := "af35e5e867dece904e24f72937819f385a6c7513a137f8111ac270396792a07c", func := "tramway/tramwaylaw10.SdoReads", spec := "sdoReads", inPlace := ["internal/bytealg.abigen_runtime_cmpstring"], unfollowed := true, recurses := true, plainKeys := false, apart := false, narrowed := true }
def SdoReadsUptoSaid : Prop := sdoReadsUptoRow.holds Tryz.pinned (OpenSpec.upto sdoReadsSpec)

/-- 'tramwaylaw10.SdoQuiet', WHERE WHAT IT READS IS OF BULK AT MOST 1048576: true; the input reads as it did. -/
def sdoQuietUptoRow : OpenClaim := { program := "ytmllpkpdfhniaaagreat", sum := "af35e5e867dece904e24f72937819f385a6c7513a137f8111ac270396792a07c", func := "tramway/tramwaylaw10.SdoQuiet", spec := "sdoQuiet", inPlace := ["internal/bytealg.abigen_runtime_cmpstring"], unfollowed := true, recurses := true, plainKeys := false, apart := false, narrowed := true }
def SdoQuietUptoSaid : Prop := sdoQuietUptoRow.holds Tryz.pinned (OpenSpec.upto sdoQuietSpec)

/-- 'tramwaylaw10.SdoAnswers', WHERE WHAT IT READS IS OF BULK AT MOST 1048576: true; the input reads as it did. -/
def sdoAnswersUptoRow : OpenClaim := { program := "ytmllpkpdfhniaaagreat", sum := "af35e5e867dece904e24f72937819f385a6c7513a137f8111ac270396792a07c", func := "tramway/tramwaylaw10.SdoAnswers", spec := "sdoAnswers", inPlace := ["internal/bytealg.abigen_runtime_cmpstring"], unfollowed := true, recurses := true, plainKeys := false, apart := false, narrowed := true }
def SdoAnswersUptoSaid : Prop := sdoAnswersUptoRow.holds Tryz.pinned (OpenSpec.upto sdoAnswersSpec)

/-- 'tramwaylaw22.ConfigStops', WHERE WHAT IT READS IS OF BULK AT MOST 1048576: true; the input reads as it did. -/
def configStopsUptoRow : OpenClaim := { program := "ytmllpkpdfhniaaagreat", sum := "af35e5e867dece904e24f72937819f385a6c7513a137f8111ac270396792a07c", func := "tramway/tramwaylaw22.ConfigStops", spec := "configStops", inPlace := ["internal/bytealg.abigen_runtime_cmpstring"], unfollowed := true, recurses := true, plainKeys := false, apart := false, narrowed := true }
def ConfigStopsUptoSaid : Prop := configStopsUptoRow.holds Tryz.pinned (OpenSpec.upto configStopsSpec)

/-- 'tramwaylaw22.ConfigReads', WHERE WHAT IT READS IS OF BULK AT MOST 1048576: true; the input reads as it did. -/
def configReadsUptoRow : OpenClaim := { program := "ytmllpkpdfhniaaagreat", sum := "af35e5e867dece904e24f72937819f385a6c7513a137f8111ac270396792a07c", func := "tramway/tramwaylaw22.ConfigReads", spec := "configReads", inPlace := ["internal/bytealg.abigen_runtime_cmpstring"], unfollowed := true, recurses := true, plainKeys := false, apart := false, narrowed := true }
def ConfigReadsUptoSaid : Prop := configReadsUptoRow.holds Tryz.pinned (OpenSpec.upto configReadsSpec)

/-- 'tramwaylaw22.ConfigAsks', WHERE WHAT IT READS IS OF BULK AT MOST 1048576: true; the input reads as it did. -/
def configAsksUptoRow : OpenClaim := { program := "ytmllpkpdfhniaaagreat", sum := "af35e5e867dece904e24f72937819f385a6c7513a137f8111ac270396792a07c", func := "tramway/tramwaylaw22.ConfigAsks", spec := "configAsks", inPlace := ["internal/bytealg.abigen_runtime_cmpstring"], unfollowed := true, recurses := true, plainKeys := false, apart := false, narrowed := true }
def ConfigAsksUptoSaid : Prop := configAsksUptoRow.holds Tryz.pinned (OpenSpec.upto configAsksSpec)

/-- 'tramwaylaw22.ConfigWhole', WHERE WHAT IT READS IS OF BULK AT MOST 1048576: true; the input reads as it did. -/
def configWholeUptoRow : OpenClaim := { program := "ytmllpkpdfhniaaagreat", sum := "af35e5e867dece904e24f72937819f385a6c7513a137f8111ac270396792a07c", func := "tramway/tramwaylaw22.ConfigWhole", spec := "configWhole", inPlace := ["internal/bytealg.abigen_runtime_cmpstring"], unfollowed := true, recurses := true, plainKeys := false, apart := false, narrowed := true }
def ConfigWholeUptoSaid : Prop := configWholeUptoRow.holds Tryz.pinned (OpenSpec.upto configWholeSpec)

/-- 'tramwaylaw22.ConfigOther', WHERE WHAT IT READS IS OF BULK AT MOST 1048576: true; the input reads as it did. -/
def configOtherUptoRow : OpenClaim := { program := "ytmllpkpdfhniaaagreat", sum := "af35e5e867dece904e24f72937819f385a6c7513a137f8111ac270396792a07c", func := "tramway/tramwaylaw22.ConfigOther", spec := "configOther", inPlace := ["internal/bytealg.abigen_runtime_cmpstring"], unfollowed := true, recurses := true, plainKeys := false, apart := false, narrowed := true }
def ConfigOtherUptoSaid : Prop := configOtherUptoRow.holds Tryz.pinned (OpenSpec.upto configOtherSpec)

/-- 'tramwaylaw22.ConfigKeep', WHERE WHAT IT READS IS OF BULK AT MOST 1048576: true; the input reads as it did. -/
def configKeepUptoRow : OpenClaim := { program := "ytmllpkpdfhniaaagreat", sum := "af35e5e867dece904e24f72937819f385a6c7513a137f8111ac270396792a07c", func := "tramway/tramwaylaw22.ConfigKeep", spec := "configKeep", inPlace := ["internal/bytealg.abigen_runtime_cmpstring"], unfollowed := true, recurses := true, plainKeys := false, apart := false, narrowed := true }
def ConfigKeepUptoSaid : Prop := configKeepUptoRow.holds Tryz.pinned (OpenSpec.upto configKeepSpec)

/-- 'tramwaylaw11.ClientAgain', WHERE WHAT IT READS IS OF BULK AT MOST 1048576: true; the input reads as it did. -/
def clientAgainUptoRow : OpenClaim := { program := "ytmllpkpdfhniaaagreat", sum := "af35e5e867dece904e24f72937819f385a6c7513a137f8111ac270396792a07c", func := "tramway/tramwaylaw11.ClientAgain", spec := "clientAgain", inPlace := ["internal/bytealg.abigen_runtime_cmpstring"], unfollowed := true, recurses := true, plainKeys := false, apart := false, narrowed := true }
def ClientAgainUptoSaid : Prop := clientAgainUptoRow.holds Tryz.pinned (OpenSpec.upto clientAgainSpec)

/-- 'tramwaylaw11.ClientWhole', WHERE WHAT IT READS IS OF BULK AT MOST 1048576: true; the input reads as it did. -/
def clientWholeUptoRow : OpenClaim := { program := "ytmllpkpdfhniaaagreat", sum := "af35e5e867dece904e24f72937819f385a6c7513a137f8111ac270396792a07c", func := "tramway/tramwaylaw11.ClientWhole", spec := "clientWhole", inPlace := ["internal/bytealg.abigen_runtime_cmpstring"], unfollowed := true, recurses := true, plainKeys := false, apart := false, narrowed := true }
def ClientWholeUptoSaid : Prop := clientWholeUptoRow.holds Tryz.pinned (OpenSpec.upto clientWholeSpec)

/-- 'tramwaylaw11.ClientTalks', WHERE WHAT IT READS IS OF BULK AT MOST 1048576: true; the input reads as it did. -/
def clientTalksUptoRow : OpenClaim := { program := "ytmllpkpdfhniaaagreat", sum := "af35e5e867dece904e24f72937819f385a6c7513a137f8111ac270396792a07c", func := "tramway/tramwaylaw11.ClientTalks", spec := "clientTalks", inPlace := ["internal/bytealg.abigen_runtime_cmpstring"], unfollowed := true, recurses := true, plainKeys := false, apart := false, narrowed := true }
def ClientTalksUptoSaid : Prop := clientTalksUptoRow.holds Tryz.pinned (OpenSpec.upto clientTalksSpec)

end Rows
end Go.Proofs.YtmllpkpdfhniaaaGreat
