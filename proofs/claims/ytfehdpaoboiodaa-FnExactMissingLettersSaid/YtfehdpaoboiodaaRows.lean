/-
  No cell of these rows narrows 'for every input' (looked for: loops, veiled, ifaces, maps, wideKeys, modest, calm, conditions, laid).
  DERIVED. THE GIVEN ROWS OF THIS SEAT. 10 by the template 'for every input the law returns true; each argument reads behind the call as it read before'; 0 by the template 'total and deterministic' (their statements: YtfehdpaoboiodaaTotals.lean).
  GIVEN WITH THE SEED: the statements are not yours to turn. If you find one false, say at which input.
  Laid BY PROGRAM, IN A SANDBOX (cutbox-rows.mjs): the forced cells as the released guide's own fill.sh prints them over the translation d7ba9790c4d42ea3… (all of the seat's roots in one cut). By AI agents, Wed Nov 11 2026. No macro, syntax, notation, axiom, sorry.
-/
import Derived.Test.YtfehdpaoboiodaaChecked
import GoSem.Claim
import GoSem.ClaimJoined
import GoSem.ClaimMapViews
import Derived.JoinedTies
import Derived.KernelRfl
namespace Go.Proofs.Ytfehdpaoboiodaa
/- THE CELL 'sum', in the pinned program and in every row, IS THE sha256 OF THE DUMP (.gsa) THAT YtfehdpaoboiodaaProg.lean LOADS. Nothing in Lean hashes anything: it is a label: what it is worth is what the hold of that sum in a sandbox is worth. -/
noncomputable def Try.pinned : Pinned := { name := "ytfehdpaoboiodaa", sum := "d7ba9790c4d42ea377b0837afd58b8f4ab635634f9c2f048fd59851180c42982", checked := Try.checked }
namespace Rows
def none {H : Type} : Left H := { results := [], args := [] }

/-- 'laws.FnExactIsSort': WHATEVER THE INPUT: true; the input reads as it did. -/
def fnExactIsSortSpec : ChangeSpec := { name := "fnExactIsSort", fn := fun _ => fun
  | [d] => { results := [.lit (.bool true)], args := [d] }
  | _ => none }
def fnExactIsSortRow : OpenClaim := { program := "ytfehdpaoboiodaa", sum := "d7ba9790c4d42ea377b0837afd58b8f4ab635634f9c2f048fd59851180c42982", func := "loop.example/g01054/laws.FnExactIsSort", spec := "fnExactIsSort", apart := false }
def FnExactIsSortSaid : Prop := fnExactIsSortRow.holds Try.pinned (OpenSpec.ofChange fnExactIsSortSpec)

/-- ITS FALSE NEIGHBOUR: 'it returns false'. Refute it at one input. -/
def fnExactIsSortWrong : ChangeSpec := { name := "fnExactIsSort", fn := fun _ => fun
  | [d] => { results := [.lit (.bool false)], args := [d] }
  | _ => none }
def FnExactIsSortWrongFalsely : Prop := fnExactIsSortRow.holds Try.pinned (OpenSpec.ofChange fnExactIsSortWrong)

/-- 'laws.FnExactIsFont': WHATEVER THE INPUT: true; the input reads as it did. -/
def fnExactIsFontSpec : ChangeSpec := { name := "fnExactIsFont", fn := fun _ => fun
  | [d] => { results := [.lit (.bool true)], args := [d] }
  | _ => none }
def fnExactIsFontRow : OpenClaim := { program := "ytfehdpaoboiodaa", sum := "d7ba9790c4d42ea377b0837afd58b8f4ab635634f9c2f048fd59851180c42982", func := "loop.example/g01054/laws.FnExactIsFont", spec := "fnExactIsFont", apart := false }
def FnExactIsFontSaid : Prop := fnExactIsFontRow.holds Try.pinned (OpenSpec.ofChange fnExactIsFontSpec)

/-- ITS FALSE NEIGHBOUR: 'it returns false'. Refute it at one input. -/
def fnExactIsFontWrong : ChangeSpec := { name := "fnExactIsFont", fn := fun _ => fun
  | [d] => { results := [.lit (.bool false)], args := [d] }
  | _ => none }
def FnExactIsFontWrongFalsely : Prop := fnExactIsFontRow.holds Try.pinned (OpenSpec.ofChange fnExactIsFontWrong)

/-- 'laws.FnExactSetOfCode': WHATEVER THE INPUT: true; the input reads as it did. -/
def fnExactSetOfCodeSpec : ChangeSpec := { name := "fnExactSetOfCode", fn := fun _ => fun
  | [d1, d2] => { results := [.lit (.bool true)], args := [d1, d2] }
  | _ => none }
def fnExactSetOfCodeRow : OpenClaim := { program := "ytfehdpaoboiodaa", sum := "d7ba9790c4d42ea377b0837afd58b8f4ab635634f9c2f048fd59851180c42982", func := "loop.example/g01054/laws.FnExactSetOfCode", spec := "fnExactSetOfCode", apart := false }
def FnExactSetOfCodeSaid : Prop := fnExactSetOfCodeRow.holds Try.pinned (OpenSpec.ofChange fnExactSetOfCodeSpec)

/-- ITS FALSE NEIGHBOUR: 'it returns false'. Refute it at one input. -/
def fnExactSetOfCodeWrong : ChangeSpec := { name := "fnExactSetOfCode", fn := fun _ => fun
  | [d1, d2] => { results := [.lit (.bool false)], args := [d1, d2] }
  | _ => none }
def FnExactSetOfCodeWrongFalsely : Prop := fnExactSetOfCodeRow.holds Try.pinned (OpenSpec.ofChange fnExactSetOfCodeWrong)

/-- 'laws.FnExactWeightOfTypes': WHATEVER THE INPUT: true; the input reads as it did. -/
def fnExactWeightOfTypesSpec : ChangeSpec := { name := "fnExactWeightOfTypes", fn := fun _ => fun
  | [d1, d2, d3] => { results := [.lit (.bool true)], args := [d1, d2, d3] }
  | _ => none }
def fnExactWeightOfTypesRow : OpenClaim := { program := "ytfehdpaoboiodaa", sum := "d7ba9790c4d42ea377b0837afd58b8f4ab635634f9c2f048fd59851180c42982", func := "loop.example/g01054/laws.FnExactWeightOfTypes", spec := "fnExactWeightOfTypes", apart := false }
def FnExactWeightOfTypesSaid : Prop := fnExactWeightOfTypesRow.holds Try.pinned (OpenSpec.ofChange fnExactWeightOfTypesSpec)

/-- ITS FALSE NEIGHBOUR: 'it returns false'. Refute it at one input. -/
def fnExactWeightOfTypesWrong : ChangeSpec := { name := "fnExactWeightOfTypes", fn := fun _ => fun
  | [d1, d2, d3] => { results := [.lit (.bool false)], args := [d1, d2, d3] }
  | _ => none }
def FnExactWeightOfTypesWrongFalsely : Prop := fnExactWeightOfTypesRow.holds Try.pinned (OpenSpec.ofChange fnExactWeightOfTypesWrong)

/-- 'laws.FnExactWidthOfWord': WHATEVER THE INPUT: true; the input reads as it did. -/
def fnExactWidthOfWordSpec : ChangeSpec := { name := "fnExactWidthOfWord", fn := fun _ => fun
  | [d1, d2] => { results := [.lit (.bool true)], args := [d1, d2] }
  | _ => none }
def fnExactWidthOfWordRow : OpenClaim := { program := "ytfehdpaoboiodaa", sum := "d7ba9790c4d42ea377b0837afd58b8f4ab635634f9c2f048fd59851180c42982", func := "loop.example/g01054/laws.FnExactWidthOfWord", spec := "fnExactWidthOfWord", apart := false }
def FnExactWidthOfWordSaid : Prop := fnExactWidthOfWordRow.holds Try.pinned (OpenSpec.ofChange fnExactWidthOfWordSpec)

/-- ITS FALSE NEIGHBOUR: 'it returns false'. Refute it at one input. -/
def fnExactWidthOfWordWrong : ChangeSpec := { name := "fnExactWidthOfWord", fn := fun _ => fun
  | [d1, d2] => { results := [.lit (.bool false)], args := [d1, d2] }
  | _ => none }
def FnExactWidthOfWordWrongFalsely : Prop := fnExactWidthOfWordRow.holds Try.pinned (OpenSpec.ofChange fnExactWidthOfWordWrong)

/-- 'laws.FnExactMissingLetters': WHATEVER THE INPUT: true; the input reads as it did. -/
def fnExactMissingLettersSpec : ChangeSpec := { name := "fnExactMissingLetters", fn := fun _ => fun
  | [d1, d2] => { results := [.lit (.bool true)], args := [d1, d2] }
  | _ => none }
def fnExactMissingLettersRow : OpenClaim := { program := "ytfehdpaoboiodaa", sum := "d7ba9790c4d42ea377b0837afd58b8f4ab635634f9c2f048fd59851180c42982", func := "loop.example/g01054/laws.FnExactMissingLetters", spec := "fnExactMissingLetters", inPlace := ["internal/bytealg.IndexByteString", "internal/bytealg.IndexString"], named := ["internal/bytealg.MaxLen"], apart := false }
def FnExactMissingLettersSaid : Prop := fnExactMissingLettersRow.holds Try.pinned (OpenSpec.ofChange fnExactMissingLettersSpec)

/-- ITS FALSE NEIGHBOUR: 'it returns false'. Refute it at one input. -/
def fnExactMissingLettersWrong : ChangeSpec := { name := "fnExactMissingLetters", fn := fun _ => fun
  | [d1, d2] => { results := [.lit (.bool false)], args := [d1, d2] }
  | _ => none }
def FnExactMissingLettersWrongFalsely : Prop := fnExactMissingLettersRow.holds Try.pinned (OpenSpec.ofChange fnExactMissingLettersWrong)

/-- 'laws.FnExactIsEnough': WHATEVER THE INPUT: true; the input reads as it did. -/
def fnExactIsEnoughSpec : ChangeSpec := { name := "fnExactIsEnough", fn := fun _ => fun
  | [d1, d2, d3] => { results := [.lit (.bool true)], args := [d1, d2, d3] }
  | _ => none }
def fnExactIsEnoughRow : OpenClaim := { program := "ytfehdpaoboiodaa", sum := "d7ba9790c4d42ea377b0837afd58b8f4ab635634f9c2f048fd59851180c42982", func := "loop.example/g01054/laws.FnExactIsEnough", spec := "fnExactIsEnough", apart := false }
def FnExactIsEnoughSaid : Prop := fnExactIsEnoughRow.holds Try.pinned (OpenSpec.ofChange fnExactIsEnoughSpec)

/-- ITS FALSE NEIGHBOUR: 'it returns false'. Refute it at one input. -/
def fnExactIsEnoughWrong : ChangeSpec := { name := "fnExactIsEnough", fn := fun _ => fun
  | [d1, d2, d3] => { results := [.lit (.bool false)], args := [d1, d2, d3] }
  | _ => none }
def FnExactIsEnoughWrongFalsely : Prop := fnExactIsEnoughRow.holds Try.pinned (OpenSpec.ofChange fnExactIsEnoughWrong)

/-- 'laws.FnExactTimesToSet': WHATEVER THE INPUT: true; the input reads as it did. -/
def fnExactTimesToSetSpec : ChangeSpec := { name := "fnExactTimesToSet", fn := fun _ => fun
  | [d1, d2, d3] => { results := [.lit (.bool true)], args := [d1, d2, d3] }
  | _ => none }
def fnExactTimesToSetRow : OpenClaim := { program := "ytfehdpaoboiodaa", sum := "d7ba9790c4d42ea377b0837afd58b8f4ab635634f9c2f048fd59851180c42982", func := "loop.example/g01054/laws.FnExactTimesToSet", spec := "fnExactTimesToSet", apart := false }
def FnExactTimesToSetSaid : Prop := fnExactTimesToSetRow.holds Try.pinned (OpenSpec.ofChange fnExactTimesToSetSpec)

/-- ITS FALSE NEIGHBOUR: 'it returns false'. Refute it at one input. -/
def fnExactTimesToSetWrong : ChangeSpec := { name := "fnExactTimesToSet", fn := fun _ => fun
  | [d1, d2, d3] => { results := [.lit (.bool false)], args := [d1, d2, d3] }
  | _ => none }
def FnExactTimesToSetWrongFalsely : Prop := fnExactTimesToSetRow.holds Try.pinned (OpenSpec.ofChange fnExactTimesToSetWrong)

/-- 'laws.FnExactScarcestSort': WHATEVER THE INPUT: true; the input reads as it did. -/
def fnExactScarcestSortSpec : ChangeSpec := { name := "fnExactScarcestSort", fn := fun _ => fun
  | [d1, d2, d3] => { results := [.lit (.bool true)], args := [d1, d2, d3] }
  | _ => none }
def fnExactScarcestSortRow : OpenClaim := { program := "ytfehdpaoboiodaa", sum := "d7ba9790c4d42ea377b0837afd58b8f4ab635634f9c2f048fd59851180c42982", func := "loop.example/g01054/laws.FnExactScarcestSort", spec := "fnExactScarcestSort", apart := false }
def FnExactScarcestSortSaid : Prop := fnExactScarcestSortRow.holds Try.pinned (OpenSpec.ofChange fnExactScarcestSortSpec)

/-- ITS FALSE NEIGHBOUR: 'it returns false'. Refute it at one input. -/
def fnExactScarcestSortWrong : ChangeSpec := { name := "fnExactScarcestSort", fn := fun _ => fun
  | [d1, d2, d3] => { results := [.lit (.bool false)], args := [d1, d2, d3] }
  | _ => none }
def FnExactScarcestSortWrongFalsely : Prop := fnExactScarcestSortRow.holds Try.pinned (OpenSpec.ofChange fnExactScarcestSortWrong)

/-- 'laws.FnExactFirstRunOut': WHATEVER THE INPUT: true; the input reads as it did. -/
def fnExactFirstRunOutSpec : ChangeSpec := { name := "fnExactFirstRunOut", fn := fun _ => fun
  | [d1, d2, d3] => { results := [.lit (.bool true)], args := [d1, d2, d3] }
  | _ => none }
def fnExactFirstRunOutRow : OpenClaim := { program := "ytfehdpaoboiodaa", sum := "d7ba9790c4d42ea377b0837afd58b8f4ab635634f9c2f048fd59851180c42982", func := "loop.example/g01054/laws.FnExactFirstRunOut", spec := "fnExactFirstRunOut", apart := false }
def FnExactFirstRunOutSaid : Prop := fnExactFirstRunOutRow.holds Try.pinned (OpenSpec.ofChange fnExactFirstRunOutSpec)

/-- ITS FALSE NEIGHBOUR: 'it returns false'. Refute it at one input. -/
def fnExactFirstRunOutWrong : ChangeSpec := { name := "fnExactFirstRunOut", fn := fun _ => fun
  | [d1, d2, d3] => { results := [.lit (.bool false)], args := [d1, d2, d3] }
  | _ => none }
def FnExactFirstRunOutWrongFalsely : Prop := fnExactFirstRunOutRow.holds Try.pinned (OpenSpec.ofChange fnExactFirstRunOutWrong)

/- THE SECOND FORM. 'bulk': how many values and letters a reading holds, each counted each time it is reached (what is shared counts as often as it is met; a slice's spare places count too). A statement '..UptoSaid' is the law's where the arguments, and the package variables that the reading takes, are together of bulk at most 1048576: NARROWER than '..Said'. Prove '..Said' where nothing that the law and all that it calls make is longer than what came in: it says more and counts as full. Else prove '..UptoSaid'. A law counts once. -/
mutual
def uptoBulk {H : Type} : DataW H → Nat
  | .lit (.string bytes) => bytes.length + 1
  | .lit _ => 1
  | .nil => 1
  | .ptr d => uptoBulk d + 1
  | .slice elems spare => uptoBulkAll elems + uptoBulkAll spare + 1
  | .agg parts => uptoBulkAll parts + 1
  | .iface _ d => uptoBulk d + 1
  | .map entries => uptoBulkEntries entries + 1
  | .held _ => 1
def uptoBulkAll {H : Type} : List (DataW H) → Nat
  | [] => 0
  | d :: r => uptoBulk d + uptoBulkAll r
def uptoBulkEntries {H : Type} : List (Lit × DataW H) → Nat
  | [] => 0
  | x :: r => uptoBulkEntry x + uptoBulkEntries r
def uptoBulkEntry {H : Type} : Lit × DataW H → Nat
  | (.string bytes, d) => bytes.length + uptoBulk d + 1
  | (_, d) => uptoBulk d + 1
 end
def uptoSmall : (H : Type) → List (DataW H) → Bool := fun _ ds => decide (uptoBulkAll ds ≤ 1048576)
def OpenSpec.upto (s : _root_.Go.ChangeSpec) : _root_.Go.OpenSpec := { _root_.Go.OpenSpec.ofChange s with cond := some uptoSmall }

/-- 'laws.FnExactIsSort', WHERE WHAT IT READS IS OF BULK AT MOST 1048576: true; the input reads as it did. -/
def fnExactIsSortUptoRow : OpenClaim := { program := "ytfehdpaoboiodaa", sum := "d7ba9790c4d42ea377b0837afd58b8f4ab635634f9c2f048fd59851180c42982", func := "loop.example/g01054/laws.FnExactIsSort", spec := "fnExactIsSort", apart := false, narrowed := true }
def FnExactIsSortUptoSaid : Prop := fnExactIsSortUptoRow.holds Try.pinned (OpenSpec.upto fnExactIsSortSpec)

/-- 'laws.FnExactIsFont', WHERE WHAT IT READS IS OF BULK AT MOST 1048576: true; the input reads as it did. -/
def fnExactIsFontUptoRow : OpenClaim := { program := "ytfehdpaoboiodaa", sum := "d7ba9790c4d42ea377b0837afd58b8f4ab635634f9c2f048fd59851180c42982", func := "loop.example/g01054/laws.FnExactIsFont", spec := "fnExactIsFont", apart := false, narrowed := true }
def FnExactIsFontUptoSaid : Prop := fnExactIsFontUptoRow.holds Try.pinned (OpenSpec.upto fnExactIsFontSpec)

/-- 'laws.FnExactSetOfCode', WHERE WHAT IT READS IS OF BULK AT MOST 1048576: true; the input reads as it did. -/
def fnExactSetOfCodeUptoRow : OpenClaim := { program := "ytfehdpaoboiodaa", sum := "d7ba9790c4d42ea377b0837afd58b8f4ab635634f9c2f048fd59851180c42982", func := "loop.example/g01054/laws.FnExactSetOfCode", spec := "fnExactSetOfCode", apart := false, narrowed := true }
def FnExactSetOfCodeUptoSaid : Prop := fnExactSetOfCodeUptoRow.holds Try.pinned (OpenSpec.upto fnExactSetOfCodeSpec)

/-- 'laws.FnExactWeightOfTypes', WHERE WHAT IT READS IS OF BULK AT MOST 1048576: true; the input reads as it did. -/
def fnExactWeightOfTypesUptoRow : OpenClaim := { program := "ytfehdpaoboiodaa", sum := "d7ba9790c4d42ea377b0837afd58b8f4ab635634f9c2f048fd59851180c42982", func := "loop.example/g01054/laws.FnExactWeightOfTypes", spec := "fnExactWeightOfTypes", apart := false, narrowed := true }
def FnExactWeightOfTypesUptoSaid : Prop := fnExactWeightOfTypesUptoRow.holds Try.pinned (OpenSpec.upto fnExactWeightOfTypesSpec)

/-- 'laws.FnExactWidthOfWord', WHERE WHAT IT READS IS OF BULK AT MOST 1048576: true; the input reads as it did. -/
def fnExactWidthOfWordUptoRow : OpenClaim := { program := "ytfehdpaoboiodaa", sum := "d7ba9790c4d42ea377b0837afd58b8f4ab635634f9c2f048fd59851180c42982", func := "loop.example/g01054/laws.FnExactWidthOfWord", spec := "fnExactWidthOfWord", apart := false, narrowed := true }
def FnExactWidthOfWordUptoSaid : Prop := fnExactWidthOfWordUptoRow.holds Try.pinned (OpenSpec.upto fnExactWidthOfWordSpec)

/-- 'laws.FnExactMissingLetters', WHERE WHAT IT READS IS OF BULK AT MOST 1048576: true; the input reads as it did. -/
def fnExactMissingLettersUptoRow : OpenClaim := { program := "ytfehdpaoboiodaa", sum := "d7ba9790c4d42ea377b0837afd58b8f4ab635634f9c2f048fd59851180c42982", func := "loop.example/g01054/laws.FnExactMissingLetters", spec := "fnExactMissingLetters", inPlace := ["internal/bytealg.IndexByteString", "internal/bytealg.IndexString"], named := ["internal/bytealg.MaxLen"], apart := false, narrowed := true }
def FnExactMissingLettersUptoSaid : Prop := fnExactMissingLettersUptoRow.holds Try.pinned (OpenSpec.upto fnExactMissingLettersSpec)

/-- 'laws.FnExactIsEnough', WHERE WHAT IT READS IS OF BULK AT MOST 1048576: true; the input reads as it did. -/
def fnExactIsEnoughUptoRow : OpenClaim := { program := "ytfehdpaoboiodaa", sum := "d7ba9790c4d42ea377b0837afd58b8f4ab635634f9c2f048fd59851180c42982", func := "loop.example/g01054/laws.FnExactIsEnough", spec := "fnExactIsEnough", apart := false, narrowed := true }
def FnExactIsEnoughUptoSaid : Prop := fnExactIsEnoughUptoRow.holds Try.pinned (OpenSpec.upto fnExactIsEnoughSpec)

/-- 'laws.FnExactTimesToSet', WHERE WHAT IT READS IS OF BULK AT MOST 1048576: true; the input reads as it did. -/
def fnExactTimesToSetUptoRow : OpenClaim := { program := "ytfehdpaoboiodaa", sum := "d7ba9790c4d42ea377b0837afd58b8f4ab635634f9c2f048fd59851180c42982", func := "loop.example/g01054/laws.FnExactTimesToSet", spec := "fnExactTimesToSet", apart := false, narrowed := true }
def FnExactTimesToSetUptoSaid : Prop := fnExactTimesToSetUptoRow.holds Try.pinned (OpenSpec.upto fnExactTimesToSetSpec)

/-- 'laws.FnExactScarcestSort', WHERE WHAT IT READS IS OF BULK AT MOST 1048576: true; the input reads as it did. -/
def fnExactScarcestSortUptoRow : OpenClaim := { program := "ytfehdpaoboiodaa", sum := "d7ba9790c4d42ea377b0837afd58b8f4ab635634f9c2f048fd59851180c42982", func := "loop.example/g01054/laws.FnExactScarcestSort", spec := "fnExactScarcestSort", apart := false, narrowed := true }
def FnExactScarcestSortUptoSaid : Prop := fnExactScarcestSortUptoRow.holds Try.pinned (OpenSpec.upto fnExactScarcestSortSpec)

/-- 'laws.FnExactFirstRunOut', WHERE WHAT IT READS IS OF BULK AT MOST 1048576: true; the input reads as it did. -/
def fnExactFirstRunOutUptoRow : OpenClaim := { program := "ytfehdpaoboiodaa", sum := "d7ba9790c4d42ea377b0837afd58b8f4ab635634f9c2f048fd59851180c42982", func := "loop.example/g01054/laws.FnExactFirstRunOut", spec := "fnExactFirstRunOut", apart := false, narrowed := true }
def FnExactFirstRunOutUptoSaid : Prop := fnExactFirstRunOutUptoRow.holds Try.pinned (OpenSpec.upto fnExactFirstRunOutSpec)

end Rows
end Go.Proofs.Ytfehdpaoboiodaa
