/-
  No cell of these rows narrows 'for every input' (looked for: loops, veiled, ifaces, maps, wideKeys, modest, calm, conditions, laid).
  DERIVED. THE GIVEN ROWS OF THIS SEAT. 6 by the template 'for every input the law returns true; each argument reads behind the call as it read before'; 0 by the template 'total and deterministic' (their statements: YtchflniekbhohaaTotals.lean).
  GIVEN WITH THE SEED: the statements are not yours to turn. If you find one false, say at which input.
  Laid BY PROGRAM, IN A SANDBOX (cutbox-rows.mjs): the forced cells as the released guide's own fill.sh prints them over the translation 2f59deff50789836… (all of the seat's roots in one cut). By AI agents, Wed Nov 11 2026. No macro, syntax, notation, axiom, sorry.
-/
import Derived.Test.YtchflniekbhohaaChecked
import GoSem.Claim
import GoSem.ClaimJoined
import GoSem.ClaimMapViews
import Derived.JoinedTies
import Derived.KernelRfl
namespace Go.Proofs.Ytchflniekbhohaa
/- THE CELL 'sum', in the pinned program and in every row, IS THE sha256 OF THE DUMP (.gsa) THAT YtchflniekbhohaaProg.lean LOADS. Nothing in Lean hashes anything: it is a label: what it is worth is what the hold of that sum in a sandbox is worth. -/
noncomputable def Try.pinned : Pinned := { name := "ytchflniekbhohaa", sum := "2f59deff507898364aecefa039cc4c6b45ec69667234d4d0e3ff3715252a09d8", checked := Try.checked }
namespace Rows
def none {H : Type} : Left H := { results := [], args := [] }

/-- 'reedpipelaw09.HuffTells': WHATEVER THE INPUT: true; the input reads as it did. -/
def huffTellsSpec : ChangeSpec := { name := "huffTells", fn := fun _ => fun
  | [d1, d2, d3, d4] => { results := [.lit (.bool true)], args := [d1, d2, d3, d4] }
  | _ => none }
def huffTellsRow : OpenClaim := { program := "ytchflniekbhohaa", sum := "2f59deff507898364aecefa039cc4c6b45ec69667234d4d0e3ff3715252a09d8", func := "reedpipe/reedpipelaw09.HuffTells", spec := "huffTells", unfollowed := true, recurses := true, apart := false }
def HuffTellsSaid : Prop := huffTellsRow.holds Try.pinned (OpenSpec.ofChange huffTellsSpec)

/-- ITS FALSE NEIGHBOUR: 'it returns false'. Refute it at one input. -/
def huffTellsWrong : ChangeSpec := { name := "huffTells", fn := fun _ => fun
  | [d1, d2, d3, d4] => { results := [.lit (.bool false)], args := [d1, d2, d3, d4] }
  | _ => none }
def HuffTellsWrongFalsely : Prop := huffTellsRow.holds Try.pinned (OpenSpec.ofChange huffTellsWrong)

/-- 'reedpipelaw09.HuffSteps': WHATEVER THE INPUT: true; the input reads as it did. -/
def huffStepsSpec : ChangeSpec := { name := "huffSteps", fn := fun _ => fun
  | [d1, d2, d3] => { results := [.lit (.bool true)], args := [d1, d2, d3] }
  | _ => none }
def huffStepsRow : OpenClaim := { program := "ytchflniekbhohaa", sum := "2f59deff507898364aecefa039cc4c6b45ec69667234d4d0e3ff3715252a09d8", func := "reedpipe/reedpipelaw09.HuffSteps", spec := "huffSteps", unfollowed := true, recurses := true, apart := false }
def HuffStepsSaid : Prop := huffStepsRow.holds Try.pinned (OpenSpec.ofChange huffStepsSpec)

/-- ITS FALSE NEIGHBOUR: 'it returns false'. Refute it at one input. -/
def huffStepsWrong : ChangeSpec := { name := "huffSteps", fn := fun _ => fun
  | [d1, d2, d3] => { results := [.lit (.bool false)], args := [d1, d2, d3] }
  | _ => none }
def HuffStepsWrongFalsely : Prop := huffStepsRow.holds Try.pinned (OpenSpec.ofChange huffStepsWrong)

/-- 'reedpipelaw09.HuffSigns': WHATEVER THE INPUT: true; the input reads as it did. -/
def huffSignsSpec : ChangeSpec := { name := "huffSigns", fn := fun _ => fun
  | [d1, d2] => { results := [.lit (.bool true)], args := [d1, d2] }
  | _ => none }
def huffSignsRow : OpenClaim := { program := "ytchflniekbhohaa", sum := "2f59deff507898364aecefa039cc4c6b45ec69667234d4d0e3ff3715252a09d8", func := "reedpipe/reedpipelaw09.HuffSigns", spec := "huffSigns", unfollowed := true, recurses := true, apart := false }
def HuffSignsSaid : Prop := huffSignsRow.holds Try.pinned (OpenSpec.ofChange huffSignsSpec)

/-- ITS FALSE NEIGHBOUR: 'it returns false'. Refute it at one input. -/
def huffSignsWrong : ChangeSpec := { name := "huffSigns", fn := fun _ => fun
  | [d1, d2] => { results := [.lit (.bool false)], args := [d1, d2] }
  | _ => none }
def HuffSignsWrongFalsely : Prop := huffSignsRow.holds Try.pinned (OpenSpec.ofChange huffSignsWrong)

/-- 'reedpipelaw09.HuffNames': WHATEVER THE INPUT: true; the input reads as it did. -/
def huffNamesSpec : ChangeSpec := { name := "huffNames", fn := fun _ => fun
  | [] => { results := [.lit (.bool true)], args := [] }
  | _ => none }
def huffNamesRow : OpenClaim := { program := "ytchflniekbhohaa", sum := "2f59deff507898364aecefa039cc4c6b45ec69667234d4d0e3ff3715252a09d8", func := "reedpipe/reedpipelaw09.HuffNames", spec := "huffNames", unfollowed := true, recurses := true, apart := false }
def HuffNamesSaid : Prop := huffNamesRow.holds Try.pinned (OpenSpec.ofChange huffNamesSpec)

/-- ITS FALSE NEIGHBOUR: 'it returns false'. Refute it at one input. -/
def huffNamesWrong : ChangeSpec := { name := "huffNames", fn := fun _ => fun
  | [] => { results := [.lit (.bool false)], args := [] }
  | _ => none }
def HuffNamesWrongFalsely : Prop := huffNamesRow.holds Try.pinned (OpenSpec.ofChange huffNamesWrong)

/-- 'reedpipelaw09.HuffStepBack': WHATEVER THE INPUT: true; the input reads as it did. -/
def huffStepBackSpec : ChangeSpec := { name := "huffStepBack", fn := fun _ => fun
  | [d1, d2, d3, d4] => { results := [.lit (.bool true)], args := [d1, d2, d3, d4] }
  | _ => none }
def huffStepBackRow : OpenClaim := { program := "ytchflniekbhohaa", sum := "2f59deff507898364aecefa039cc4c6b45ec69667234d4d0e3ff3715252a09d8", func := "reedpipe/reedpipelaw09.HuffStepBack", spec := "huffStepBack", unfollowed := true, recurses := true, apart := false }
def HuffStepBackSaid : Prop := huffStepBackRow.holds Try.pinned (OpenSpec.ofChange huffStepBackSpec)

/-- ITS FALSE NEIGHBOUR: 'it returns false'. Refute it at one input. -/
def huffStepBackWrong : ChangeSpec := { name := "huffStepBack", fn := fun _ => fun
  | [d1, d2, d3, d4] => { results := [.lit (.bool false)], args := [d1, d2, d3, d4] }
  | _ => none }
def HuffStepBackWrongFalsely : Prop := huffStepBackRow.holds Try.pinned (OpenSpec.ofChange huffStepBackWrong)

/-- 'reedpipelaw09.HuffBack': WHATEVER THE INPUT: true; the input reads as it did. -/
def huffBackSpec : ChangeSpec := { name := "huffBack", fn := fun _ => fun
  | [d1, d2, d3, d4, d5] => { results := [.lit (.bool true)], args := [d1, d2, d3, d4, d5] }
  | _ => none }
def huffBackRow : OpenClaim := { program := "ytchflniekbhohaa", sum := "2f59deff507898364aecefa039cc4c6b45ec69667234d4d0e3ff3715252a09d8", func := "reedpipe/reedpipelaw09.HuffBack", spec := "huffBack", unfollowed := true, recurses := true, apart := false }
def HuffBackSaid : Prop := huffBackRow.holds Try.pinned (OpenSpec.ofChange huffBackSpec)

/-- ITS FALSE NEIGHBOUR: 'it returns false'. Refute it at one input. -/
def huffBackWrong : ChangeSpec := { name := "huffBack", fn := fun _ => fun
  | [d1, d2, d3, d4, d5] => { results := [.lit (.bool false)], args := [d1, d2, d3, d4, d5] }
  | _ => none }
def HuffBackWrongFalsely : Prop := huffBackRow.holds Try.pinned (OpenSpec.ofChange huffBackWrong)

/- THE SECOND FORM. 'bulk': how many values and letters a reading holds, each counted each time it is reached (what is shared counts as often as it is met; a slice's spare places count too). A statement '..UptoSaid' is the law's where the arguments, and the package variables that the reading takes, are together of bulk at most 1048576: NARROWER than '..Said'. Prove '..Said' where nothing that the law and all that it calls make is longer than what came in: it says more and counts as full. Else prove '..UptoSaid'. A law counts once. -/
mutual
def uptoBulk {H : Type} : DataW H → Nat
  | .lit (.string bytes) => bytes.length + 1
  | .lit _ => 1
  | .nil => 1
  | .ptr d => uptoBulk d + 1
  | .slice elems spare => uptoBulkAll elems + uptoBulkAll spare + 1
  | .agg parts => uptoBulkAll parts + 1
  | .iface _ d => uptoBulk d + 1
  | .map entries => uptoBulkEntries entries + 1
  | .held _ => 1
def uptoBulkAll {H : Type} : List (DataW H) → Nat
  | [] => 0
  | d :: r => uptoBulk d + uptoBulkAll r
def uptoBulkEntries {H : Type} : List (Lit × DataW H) → Nat
  | [] => 0
  | x :: r => uptoBulkEntry x + uptoBulkEntries r
def uptoBulkEntry {H : Type} : Lit × DataW H → Nat
  | (.string bytes, d) => bytes.length + uptoBulk d + 1
  | (_, d) => uptoBulk d + 1
 end
def uptoSmall : (H : Type) → List (DataW H) → Bool := fun _ ds => decide (uptoBulkAll ds ≤ 1048576)
def OpenSpec.upto (s : _root_.Go.ChangeSpec) : _root_.Go.OpenSpec := { _root_.Go.OpenSpec.ofChange s with cond := some uptoSmall }

/-- 'reedpipelaw09.HuffTells', WHERE WHAT IT READS IS OF BULK AT MOST 1048576: true; the input reads as it did. -/
def huffTellsUptoRow : OpenClaim := { program := "ytchflniekbhohaa", sum := "2f59deff507898364aecefa039cc4c6b45ec69667234d4d0e3ff3715252a09d8", func := "reedpipe/reedpipelaw09.HuffTells", spec := "huffTells", unfollowed := true, recurses := true, apart := false, narrowed := true }
def HuffTellsUptoSaid : Prop := huffTellsUptoRow.holds Try.pinned (OpenSpec.upto huffTellsSpec)

/-- 'reedpipelaw09.HuffSteps', WHERE WHAT IT READS IS OF BULK AT MOST 1048576: true; the input reads as it did. -/
def huffStepsUptoRow : OpenClaim := { program := "ytchflniekbhohaa", sum := "2f59deff507898364aecefa039cc4c6b45ec69667234d4d0e3ff3715252a09d8", func := "reedpipe/reedpipelaw09.HuffSteps", spec := "huffSteps", unfollowed := true, recurses := true, apart := false, narrowed := true }
def HuffStepsUptoSaid : Prop := huffStepsUptoRow.holds Try.pinned (OpenSpec.upto huffStepsSpec)

/-- 'reedpipelaw09.HuffSigns', WHERE WHAT IT READS IS OF BULK AT MOST 1048576: true; the input reads as it did. -/
def huffSignsUptoRow : OpenClaim := { program := "ytchflniekbhohaa", sum := "2f59deff507898364aecefa039cc4c6b45ec69667234d4d0e3ff3715252a09d8", func := "reedpipe/reedpipelaw09.HuffSigns", spec := "huffSigns", unfollowed := true, recurses := true, apart := false, narrowed := true }
def HuffSignsUptoSaid : Prop := huffSignsUptoRow.holds Try.pinned (OpenSpec.upto huffSignsSpec)

/-- 'reedpipelaw09.HuffNames', WHERE WHAT IT READS IS OF BULK AT MOST 1048576: true; the input reads as it did. -/
def huffNamesUptoRow : OpenClaim := { program := "ytchflniekbhohaa", sum := "2f59deff507898364aecefa039cc4c6b45ec69667234d4d0e3ff3715252a09d8", func := "reedpipe/reedpipelaw09.HuffNames", spec := "huffNames", unfollowed := true, recurses := true, apart := false, narrowed := true }
def HuffNamesUptoSaid : Prop := huffNamesUptoRow.holds Try.pinned (OpenSpec.upto huffNamesSpec)

/-- 'reedpipelaw09.HuffStepBack', WHERE WHAT IT READS IS OF BULK AT MOST 1048576: true; the input reads as it did. -/
def huffStepBackUptoRow : OpenClaim := { program := "ytchflniekbhohaa", sum := "2f59deff507898364aecefa039cc4c6b45ec69667234d4d0e3ff3715252a09d8", func := "reedpipe/reedpipelaw09.HuffStepBack", spec := "huffStepBack", unfollowed := true, recurses := true, apart := false, narrowed := true }
def HuffStepBackUptoSaid : Prop := huffStepBackUptoRow.holds Try.pinned (OpenSpec.upto huffStepBackSpec)

/-- 'reedpipelaw09.HuffBack', WHERE WHAT IT READS IS OF BULK AT MOST 1048576: true; the input reads as it did. -/
def huffBackUptoRow : OpenClaim := { program := "ytchflniekbhohaa", sum := "2f59deff507898364aecefa039cc4c6b45ec69667234d4d0e3ff3715252a09d8", func := "reedpipe/reedpipelaw09.HuffBack", spec := "huffBack", unfollowed := true, recurses := true, apart := false, narrowed := true }
def HuffBackUptoSaid : Prop := huffBackUptoRow.holds Try.pinned (OpenSpec.upto huffBackSpec)

end Rows
end Go.Proofs.Ytchflniekbhohaa
