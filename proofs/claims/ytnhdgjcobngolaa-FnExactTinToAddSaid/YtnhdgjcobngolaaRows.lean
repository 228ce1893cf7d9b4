/-
  No cell of these rows narrows 'for every input' (looked for: loops, veiled, ifaces, maps, wideKeys, modest, calm, conditions, laid).
  DERIVED. THE GIVEN ROWS OF THIS SEAT. 11 by the template 'for every input the law returns true; each argument reads behind the call as it read before'; 0 by the template 'total and deterministic' (their statements: YtnhdgjcobngolaaTotals.lean).
  GIVEN WITH THE SEED: the statements are not yours to turn. If you find one false, say at which input.
  Laid BY PROGRAM, IN A SANDBOX (cutbox-rows.mjs): the forced cells as the released guide's own fill.sh prints them over the translation 38e3edeebd31988e… (all of the seat's roots in one cut). By AI agents, Wed Nov 11 2026. No macro, syntax, notation, axiom, sorry.
-/
import Derived.Test.YtnhdgjcobngolaaChecked
import GoSem.Claim
import GoSem.ClaimJoined
import GoSem.ClaimMapViews
import Derived.JoinedTies
import Derived.KernelRfl
namespace Go.Proofs.Ytnhdgjcobngolaa
/- THE CELL 'sum', in the pinned program and in every row, IS THE sha256 OF THE DUMP (.gsa) THAT YtnhdgjcobngolaaProg.lean LOADS. Nothing in Lean hashes anything: it is a label: what it is worth is what the hold of that sum in a sandbox is worth. -/
noncomputable def Try.pinned : Pinned := { name := "ytnhdgjcobngolaa", sum := "38e3edeebd31988e9ebe9938c3bf473ea69e7176a380a9f4dd14d2b7f017de51", checked := Try.checked }
namespace Rows
def none {H : Type} : Left H := { results := [], args := [] }

/-- 'laws.FnExactConstants': WHATEVER THE INPUT: true; the input reads as it did. -/
def fnExactConstantsSpec : ChangeSpec := { name := "fnExactConstants", fn := fun _ => fun
  | [] => { results := [.lit (.bool true)], args := [] }
  | _ => none }
def fnExactConstantsRow : OpenClaim := { program := "ytnhdgjcobngolaa", sum := "38e3edeebd31988e9ebe9938c3bf473ea69e7176a380a9f4dd14d2b7f017de51", func := "loop.example/g01054/laws.FnExactConstants", spec := "fnExactConstants", apart := false }
def FnExactConstantsSaid : Prop := fnExactConstantsRow.holds Try.pinned (OpenSpec.ofChange fnExactConstantsSpec)

/-- ITS FALSE NEIGHBOUR: 'it returns false'. Refute it at one input. -/
def fnExactConstantsWrong : ChangeSpec := { name := "fnExactConstants", fn := fun _ => fun
  | [] => { results := [.lit (.bool false)], args := [] }
  | _ => none }
def FnExactConstantsWrongFalsely : Prop := fnExactConstantsRow.holds Try.pinned (OpenSpec.ofChange fnExactConstantsWrong)

/-- 'laws.FnExactIsBlend': WHATEVER THE INPUT: true; the input reads as it did. -/
def fnExactIsBlendSpec : ChangeSpec := { name := "fnExactIsBlend", fn := fun _ => fun
  | [d] => { results := [.lit (.bool true)], args := [d] }
  | _ => none }
def fnExactIsBlendRow : OpenClaim := { program := "ytnhdgjcobngolaa", sum := "38e3edeebd31988e9ebe9938c3bf473ea69e7176a380a9f4dd14d2b7f017de51", func := "loop.example/g01054/laws.FnExactIsBlend", spec := "fnExactIsBlend", apart := false }
def FnExactIsBlendSaid : Prop := fnExactIsBlendRow.holds Try.pinned (OpenSpec.ofChange fnExactIsBlendSpec)

/-- ITS FALSE NEIGHBOUR: 'it returns false'. Refute it at one input. -/
def fnExactIsBlendWrong : ChangeSpec := { name := "fnExactIsBlend", fn := fun _ => fun
  | [d] => { results := [.lit (.bool false)], args := [d] }
  | _ => none }
def FnExactIsBlendWrongFalsely : Prop := fnExactIsBlendRow.holds Try.pinned (OpenSpec.ofChange fnExactIsBlendWrong)

/-- 'laws.FnExactIsMelt': WHATEVER THE INPUT: true; the input reads as it did. -/
def fnExactIsMeltSpec : ChangeSpec := { name := "fnExactIsMelt", fn := fun _ => fun
  | [d] => { results := [.lit (.bool true)], args := [d] }
  | _ => none }
def fnExactIsMeltRow : OpenClaim := { program := "ytnhdgjcobngolaa", sum := "38e3edeebd31988e9ebe9938c3bf473ea69e7176a380a9f4dd14d2b7f017de51", func := "loop.example/g01054/laws.FnExactIsMelt", spec := "fnExactIsMelt", apart := false }
def FnExactIsMeltSaid : Prop := fnExactIsMeltRow.holds Try.pinned (OpenSpec.ofChange fnExactIsMeltSpec)

/-- ITS FALSE NEIGHBOUR: 'it returns false'. Refute it at one input. -/
def fnExactIsMeltWrong : ChangeSpec := { name := "fnExactIsMelt", fn := fun _ => fun
  | [d] => { results := [.lit (.bool false)], args := [d] }
  | _ => none }
def FnExactIsMeltWrongFalsely : Prop := fnExactIsMeltRow.holds Try.pinned (OpenSpec.ofChange fnExactIsMeltWrong)

/-- 'laws.FnExactGramsOf': WHATEVER THE INPUT: true; the input reads as it did. -/
def fnExactGramsOfSpec : ChangeSpec := { name := "fnExactGramsOf", fn := fun _ => fun
  | [d] => { results := [.lit (.bool true)], args := [d] }
  | _ => none }
def fnExactGramsOfRow : OpenClaim := { program := "ytnhdgjcobngolaa", sum := "38e3edeebd31988e9ebe9938c3bf473ea69e7176a380a9f4dd14d2b7f017de51", func := "loop.example/g01054/laws.FnExactGramsOf", spec := "fnExactGramsOf", apart := false }
def FnExactGramsOfSaid : Prop := fnExactGramsOfRow.holds Try.pinned (OpenSpec.ofChange fnExactGramsOfSpec)

/-- ITS FALSE NEIGHBOUR: 'it returns false'. Refute it at one input. -/
def fnExactGramsOfWrong : ChangeSpec := { name := "fnExactGramsOf", fn := fun _ => fun
  | [d] => { results := [.lit (.bool false)], args := [d] }
  | _ => none }
def FnExactGramsOfWrongFalsely : Prop := fnExactGramsOfRow.holds Try.pinned (OpenSpec.ofChange fnExactGramsOfWrong)

/-- 'laws.FnExactAfterDross': WHATEVER THE INPUT: true; the input reads as it did. -/
def fnExactAfterDrossSpec : ChangeSpec := { name := "fnExactAfterDross", fn := fun _ => fun
  | [d1, d2] => { results := [.lit (.bool true)], args := [d1, d2] }
  | _ => none }
def fnExactAfterDrossRow : OpenClaim := { program := "ytnhdgjcobngolaa", sum := "38e3edeebd31988e9ebe9938c3bf473ea69e7176a380a9f4dd14d2b7f017de51", func := "loop.example/g01054/laws.FnExactAfterDross", spec := "fnExactAfterDross", unfollowed := true, recurses := true, apart := false }
def FnExactAfterDrossSaid : Prop := fnExactAfterDrossRow.holds Try.pinned (OpenSpec.ofChange fnExactAfterDrossSpec)

/-- ITS FALSE NEIGHBOUR: 'it returns false'. Refute it at one input. -/
def fnExactAfterDrossWrong : ChangeSpec := { name := "fnExactAfterDross", fn := fun _ => fun
  | [d1, d2] => { results := [.lit (.bool false)], args := [d1, d2] }
  | _ => none }
def FnExactAfterDrossWrongFalsely : Prop := fnExactAfterDrossRow.holds Try.pinned (OpenSpec.ofChange fnExactAfterDrossWrong)

/-- 'laws.FnExactDoesFit': WHATEVER THE INPUT: true; the input reads as it did. -/
def fnExactDoesFitSpec : ChangeSpec := { name := "fnExactDoesFit", fn := fun _ => fun
  | [d1, d2] => { results := [.lit (.bool true)], args := [d1, d2] }
  | _ => none }
def fnExactDoesFitRow : OpenClaim := { program := "ytnhdgjcobngolaa", sum := "38e3edeebd31988e9ebe9938c3bf473ea69e7176a380a9f4dd14d2b7f017de51", func := "loop.example/g01054/laws.FnExactDoesFit", spec := "fnExactDoesFit", apart := false }
def FnExactDoesFitSaid : Prop := fnExactDoesFitRow.holds Try.pinned (OpenSpec.ofChange fnExactDoesFitSpec)

/-- ITS FALSE NEIGHBOUR: 'it returns false'. Refute it at one input. -/
def fnExactDoesFitWrong : ChangeSpec := { name := "fnExactDoesFit", fn := fun _ => fun
  | [d1, d2] => { results := [.lit (.bool false)], args := [d1, d2] }
  | _ => none }
def FnExactDoesFitWrongFalsely : Prop := fnExactDoesFitRow.holds Try.pinned (OpenSpec.ofChange fnExactDoesFitWrong)

/-- 'laws.FnExactTakeMelt': WHATEVER THE INPUT: true; the input reads as it did. -/
def fnExactTakeMeltSpec : ChangeSpec := { name := "fnExactTakeMelt", fn := fun _ => fun
  | [d1, d2] => { results := [.lit (.bool true)], args := [d1, d2] }
  | _ => none }
def fnExactTakeMeltRow : OpenClaim := { program := "ytnhdgjcobngolaa", sum := "38e3edeebd31988e9ebe9938c3bf473ea69e7176a380a9f4dd14d2b7f017de51", func := "loop.example/g01054/laws.FnExactTakeMelt", spec := "fnExactTakeMelt", apart := false }
def FnExactTakeMeltSaid : Prop := fnExactTakeMeltRow.holds Try.pinned (OpenSpec.ofChange fnExactTakeMeltSpec)

/-- ITS FALSE NEIGHBOUR: 'it returns false'. Refute it at one input. -/
def fnExactTakeMeltWrong : ChangeSpec := { name := "fnExactTakeMelt", fn := fun _ => fun
  | [d1, d2] => { results := [.lit (.bool false)], args := [d1, d2] }
  | _ => none }
def FnExactTakeMeltWrongFalsely : Prop := fnExactTakeMeltRow.holds Try.pinned (OpenSpec.ofChange fnExactTakeMeltWrong)

/-- 'laws.FnExactSharesOf': WHATEVER THE INPUT: true; the input reads as it did. -/
def fnExactSharesOfSpec : ChangeSpec := { name := "fnExactSharesOf", fn := fun _ => fun
  | [d] => { results := [.lit (.bool true)], args := [d] }
  | _ => none }
def fnExactSharesOfRow : OpenClaim := { program := "ytnhdgjcobngolaa", sum := "38e3edeebd31988e9ebe9938c3bf473ea69e7176a380a9f4dd14d2b7f017de51", func := "loop.example/g01054/laws.FnExactSharesOf", spec := "fnExactSharesOf", apart := false }
def FnExactSharesOfSaid : Prop := fnExactSharesOfRow.holds Try.pinned (OpenSpec.ofChange fnExactSharesOfSpec)

/-- ITS FALSE NEIGHBOUR: 'it returns false'. Refute it at one input. -/
def fnExactSharesOfWrong : ChangeSpec := { name := "fnExactSharesOf", fn := fun _ => fun
  | [d] => { results := [.lit (.bool false)], args := [d] }
  | _ => none }
def FnExactSharesOfWrongFalsely : Prop := fnExactSharesOfRow.holds Try.pinned (OpenSpec.ofChange fnExactSharesOfWrong)

/-- 'laws.FnExactAntimonyToAdd': WHATEVER THE INPUT: true; the input reads as it did. -/
def fnExactAntimonyToAddSpec : ChangeSpec := { name := "fnExactAntimonyToAdd", fn := fun _ => fun
  | [d1, d2] => { results := [.lit (.bool true)], args := [d1, d2] }
  | _ => none }
def fnExactAntimonyToAddRow : OpenClaim := { program := "ytnhdgjcobngolaa", sum := "38e3edeebd31988e9ebe9938c3bf473ea69e7176a380a9f4dd14d2b7f017de51", func := "loop.example/g01054/laws.FnExactAntimonyToAdd", spec := "fnExactAntimonyToAdd", unfollowed := true, recurses := true, apart := false }
def FnExactAntimonyToAddSaid : Prop := fnExactAntimonyToAddRow.holds Try.pinned (OpenSpec.ofChange fnExactAntimonyToAddSpec)

/-- ITS FALSE NEIGHBOUR: 'it returns false'. Refute it at one input. -/
def fnExactAntimonyToAddWrong : ChangeSpec := { name := "fnExactAntimonyToAdd", fn := fun _ => fun
  | [d1, d2] => { results := [.lit (.bool false)], args := [d1, d2] }
  | _ => none }
def FnExactAntimonyToAddWrongFalsely : Prop := fnExactAntimonyToAddRow.holds Try.pinned (OpenSpec.ofChange fnExactAntimonyToAddWrong)

/-- 'laws.FnExactTinToAdd': WHATEVER THE INPUT: true; the input reads as it did. -/
def fnExactTinToAddSpec : ChangeSpec := { name := "fnExactTinToAdd", fn := fun _ => fun
  | [d1, d2] => { results := [.lit (.bool true)], args := [d1, d2] }
  | _ => none }
def fnExactTinToAddRow : OpenClaim := { program := "ytnhdgjcobngolaa", sum := "38e3edeebd31988e9ebe9938c3bf473ea69e7176a380a9f4dd14d2b7f017de51", func := "loop.example/g01054/laws.FnExactTinToAdd", spec := "fnExactTinToAdd", unfollowed := true, recurses := true, apart := false }
def FnExactTinToAddSaid : Prop := fnExactTinToAddRow.holds Try.pinned (OpenSpec.ofChange fnExactTinToAddSpec)

/-- ITS FALSE NEIGHBOUR: 'it returns false'. Refute it at one input. -/
def fnExactTinToAddWrong : ChangeSpec := { name := "fnExactTinToAdd", fn := fun _ => fun
  | [d1, d2] => { results := [.lit (.bool false)], args := [d1, d2] }
  | _ => none }
def FnExactTinToAddWrongFalsely : Prop := fnExactTinToAddRow.holds Try.pinned (OpenSpec.ofChange fnExactTinToAddWrong)

/-- 'laws.FnExactLeadToAdd': WHATEVER THE INPUT: true; the input reads as it did. -/
def fnExactLeadToAddSpec : ChangeSpec := { name := "fnExactLeadToAdd", fn := fun _ => fun
  | [d1, d2] => { results := [.lit (.bool true)], args := [d1, d2] }
  | _ => none }
def fnExactLeadToAddRow : OpenClaim := { program := "ytnhdgjcobngolaa", sum := "38e3edeebd31988e9ebe9938c3bf473ea69e7176a380a9f4dd14d2b7f017de51", func := "loop.example/g01054/laws.FnExactLeadToAdd", spec := "fnExactLeadToAdd", unfollowed := true, recurses := true, apart := false }
def FnExactLeadToAddSaid : Prop := fnExactLeadToAddRow.holds Try.pinned (OpenSpec.ofChange fnExactLeadToAddSpec)

/-- ITS FALSE NEIGHBOUR: 'it returns false'. Refute it at one input. -/
def fnExactLeadToAddWrong : ChangeSpec := { name := "fnExactLeadToAdd", fn := fun _ => fun
  | [d1, d2] => { results := [.lit (.bool false)], args := [d1, d2] }
  | _ => none }
def FnExactLeadToAddWrongFalsely : Prop := fnExactLeadToAddRow.holds Try.pinned (OpenSpec.ofChange fnExactLeadToAddWrong)

/- THE SECOND FORM. 'bulk': how many values and letters a reading holds, each counted each time it is reached (what is shared counts as often as it is met; a slice's spare places count too). A statement '..UptoSaid' is the law's where the arguments, and the package variables that the reading takes, are together of bulk at most 1048576: NARROWER than '..Said'. Prove '..Said' where nothing that the law and all that it calls make is longer than what came in: it says more and counts as full. Else prove '..UptoSaid'. A law counts once. -/
mutual
def uptoBulk {H : Type} : DataW H → Nat
  | .lit (.string bytes) => bytes.length + 1
  | .lit _ => 1
  | .nil => 1
  | .ptr d => uptoBulk d + 1
  | .slice elems spare => uptoBulkAll elems + uptoBulkAll spare + 1
  | .agg parts => uptoBulkAll parts + 1
  | .iface _ d => uptoBulk d + 1
  | .map entries => uptoBulkEntries entries + 1
  | .held _ => 1
def uptoBulkAll {H : Type} : List (DataW H) → Nat
  | [] => 0
  | d :: r => uptoBulk d + uptoBulkAll r
def uptoBulkEntries {H : Type} : List (Lit × DataW H) → Nat
  | [] => 0
  | x :: r => uptoBulkEntry x + uptoBulkEntries r
def uptoBulkEntry {H : Type} : Lit × DataW H → Nat
  | (.string bytes, d) => bytes.length + uptoBulk d + 1
  | (_, d) => uptoBulk d + 1
 end
def uptoSmall : (H : Type) → List (DataW H) → Bool := fun _ ds => decide (uptoBulkAll ds ≤ 1048576)
def OpenSpec.upto (s : _root_.Go.ChangeSpec) : _root_.Go.OpenSpec := { _root_.Go.OpenSpec.ofChange s with cond := some uptoSmall }

/-- 'laws.FnExactConstants', WHERE WHAT IT READS IS OF BULK AT MOST 1048576: true; the input reads as it did. -/
def fnExactConstantsUptoRow : OpenClaim := { program := "ytnhdgjcobngolaa", sum := "38e3edeebd31988e9ebe9938c3bf473ea69e7176a380a9f4dd14d2b7f017de51", func := "loop.example/g01054/laws.FnExactConstants", spec := "fnExactConstants", apart := false, narrowed := true }
def FnExactConstantsUptoSaid : Prop := fnExactConstantsUptoRow.holds Try.pinned (OpenSpec.upto fnExactConstantsSpec)

/-- 'laws.FnExactIsBlend', WHERE WHAT IT READS IS OF BULK AT MOST 1048576: true; the input reads as it did. -/
def fnExactIsBlendUptoRow : OpenClaim := { program := "ytnhdgjcobngolaa", sum := "38e3edeebd31988e9ebe9938c3bf473ea69e7176a380a9f4dd14d2b7f017de51", func := "loop.example/g01054/laws.FnExactIsBlend", spec := "fnExactIsBlend", apart := false, narrowed := true }
def FnExactIsBlendUptoSaid : Prop := fnExactIsBlendUptoRow.holds Try.pinned (OpenSpec.upto fnExactIsBlendSpec)

/-- 'laws.FnExactIsMelt', WHERE WHAT IT READS IS OF BULK AT MOST 1048576: true; the input reads as it did. -/
def fnExactIsMeltUptoRow : OpenClaim := { program := "ytnhdgjcobngolaa", sum := "38e3edeebd31988e9ebe9938c3bf473ea69e7176a380a9f4dd14d2b7f017de51", func := "loop.example/g01054/laws.FnExactIsMelt", spec := "fnExactIsMelt", apart := false, narrowed := true }
def FnExactIsMeltUptoSaid : Prop := fnExactIsMeltUptoRow.holds Try.pinned (OpenSpec.upto fnExactIsMeltSpec)

/-- 'laws.FnExactGramsOf', WHERE WHAT IT READS IS OF BULK AT MOST 1048576: true; the input reads as it did. -/
def fnExactGramsOfUptoRow : OpenClaim := { program := "ytnhdgjcobngolaa", sum := "38e3edeebd31988e9ebe9938c3bf473ea69e7176a380a9f4dd14d2b7f017de51", func := "loop.example/g01054/laws.FnExactGramsOf", spec := "fnExactGramsOf", apart := false, narrowed := true }
def FnExactGramsOfUptoSaid : Prop := fnExactGramsOfUptoRow.holds Try.pinned (OpenSpec.upto fnExactGramsOfSpec)

/-- 'laws.FnExactAfterDross', WHERE WHAT IT READS IS OF BULK AT MOST 1048576: true; the input reads as it did. -/
def fnExactAfterDrossUptoRow : OpenClaim := { program := "ytnhdgjcobngolaa", sum := "38e3edeebd31988e9ebe9938c3bf473ea69e7176a380a9f4dd14d2b7f017de51", func := "loop.example/g01054/laws.FnExactAfterDross", spec := "fnExactAfterDross", unfollowed := true, recurses := true, apart := false, narrowed := true }
def FnExactAfterDrossUptoSaid : Prop := fnExactAfterDrossUptoRow.holds Try.pinned (OpenSpec.upto fnExactAfterDrossSpec)

/-- 'laws.FnExactDoesFit', WHERE WHAT IT READS IS OF BULK AT MOST 1048576: true; the input reads as it did. -/
def fnExactDoesFitUptoRow : OpenClaim := { program := "ytnhdgjcobngolaa", sum := "38e3edeebd31988e9ebe9938c3bf473ea69e7176a380a9f4dd14d2b7f017de51", func := "loop.example/g01054/laws.FnExactDoesFit", spec := "fnExactDoesFit", apart := false, narrowed := true }
def FnExactDoesFitUptoSaid : Prop := fnExactDoesFitUptoRow.holds Try.pinned (OpenSpec.upto fnExactDoesFitSpec)

/-- 'laws.FnExactTakeMelt', WHERE WHAT IT READS IS OF BULK AT MOST 1048576: true; the input reads as it did. -/
def fnExactTakeMeltUptoRow : OpenClaim := { program := "ytnhdgjcobngolaa", sum := "38e3edeebd31988e9ebe9938c3bf473ea69e7176a380a9f4dd14d2b7f017de51", func := "loop.example/g01054/laws.FnExactTakeMelt", spec := "fnExactTakeMelt", apart := false, narrowed := true }
def FnExactTakeMeltUptoSaid : Prop := fnExactTakeMeltUptoRow.holds Try.pinned (OpenSpec.upto fnExactTakeMeltSpec)

/-- 'laws.FnExactSharesOf', WHERE WHAT IT READS IS OF BULK AT MOST 1048576: true; the input reads as it did. -/
def fnExactSharesOfUptoRow : OpenClaim := { program := "ytnhdgjcobngolaa", sum := "38e3edeebd31988e9ebe9938c3bf473ea69e7176a380a9f4dd14d2b7f017de51", func := "loop.example/g01054/laws.FnExactSharesOf", spec := "fnExactSharesOf", apart := false, narrowed := true }
def FnExactSharesOfUptoSaid : Prop := fnExactSharesOfUptoRow.holds Try.pinned (OpenSpec.upto fnExactSharesOfSpec)

/-- 'laws.FnExactAntimonyToAdd', WHERE WHAT IT READS IS OF BULK AT MOST 1048576: true; the input reads as it did. -/
def fnExactAntimonyToAddUptoRow : OpenClaim := { program := "ytnhdgjcobngolaa", sum := "38e3edeebd31988e9ebe9938c3bf473ea69e7176a380a9f4dd14d2b7f017de51", func := "loop.example/g01054/laws.FnExactAntimonyToAdd", spec := "fnExactAntimonyToAdd", unfollowed := true, recurses := true, apart := false, narrowed := true }
def FnExactAntimonyToAddUptoSaid : Prop := fnExactAntimonyToAddUptoRow.holds Try.pinned (OpenSpec.upto fnExactAntimonyToAddSpec)

/-- 'laws.FnExactTinToAdd', WHERE WHAT IT READS IS OF BULK AT MOST 1048576: true; the input reads as it did. -/
def fnExactTinToAddUptoRow : OpenClaim := { program := "ytnhdgjcobngolaa", sum := "38e3edeebd31988e9ebe9938c3bf473ea69e7176a380a9f4dd14d2b7f017de51", func := "loop.example/g01054/laws.FnExactTinToAdd", spec := "fnExactTinToAdd", unfollowed := true, recurses := true, apart := false, narrowed := true }
def FnExactTinToAddUptoSaid : Prop := fnExactTinToAddUptoRow.holds Try.pinned (OpenSpec.upto fnExactTinToAddSpec)

/-- 'laws.FnExactLeadToAdd', WHERE WHAT IT READS IS OF BULK AT MOST 1048576: true; the input reads as it did. -/
def fnExactLeadToAddUptoRow : OpenClaim := { program := "ytnhdgjcobngolaa", sum := "38e3edeebd31988e9ebe9938c3bf473ea69e7176a380a9f4dd14d2b7f017de51", func := "loop.example/g01054/laws.FnExactLeadToAdd", spec := "fnExactLeadToAdd", unfollowed := true, recurses := true, apart := false, narrowed := true }
def FnExactLeadToAddUptoSaid : Prop := fnExactLeadToAddUptoRow.holds Try.pinned (OpenSpec.upto fnExactLeadToAddSpec)

end Rows
end Go.Proofs.Ytnhdgjcobngolaa
