/-
  No cell of these rows narrows 'for every input' (looked for: loops, veiled, ifaces, maps, wideKeys, modest, calm, conditions, laid).
  DERIVED. THE GIVEN ROWS OF THIS SEAT. 13 by the template 'for every input the law returns true; each argument reads behind the call as it read before'; 0 by the template 'total and deterministic' (their statements: YtclmdidgioggdaaTotals.lean).
  GIVEN WITH THE SEED: the statements are not yours to turn. If you find one false, say at which input.
  Laid BY PROGRAM, IN A SANDBOX (cutbox-rows.mjs): the forced cells as the released guide's own fill.sh prints them over the translation 24b2feae1cf5e4c6… (all of the seat's roots in one cut). By AI agents, Wed Nov 11 2026. No macro, syntax, notation, axiom, sorry.
-/
import Derived.Test.YtclmdidgioggdaaChecked
import GoSem.Claim
import GoSem.ClaimJoined
import GoSem.ClaimMapViews
import Derived.JoinedTies
import Derived.KernelRfl
namespace Go.Proofs.Ytclmdidgioggdaa
/- THE CELL 'sum', in the pinned program and in every row, IS THE sha256 OF THE DUMP (.gsa) THAT YtclmdidgioggdaaProg.lean LOADS. Nothing in Lean hashes anything: it is a label: what it is worth is what the hold of that sum in a sandbox is worth. -/
noncomputable def Try.pinned : Pinned := { name := "ytclmdidgioggdaa", sum := "24b2feae1cf5e4c69b068b98187e42c62f98772eb4cdc14f9046d59a2f748125", checked := Try.checked }
namespace Rows
def none {H : Type} : Left H := { results := [], args := [] }

/-- 'coxswainlaw04.GainLogs': WHATEVER THE INPUT: true; the input reads as it did. -/
def gainLogsSpec : ChangeSpec := { name := "gainLogs", fn := fun _ => fun
  | [d] => { results := [.lit (.bool true)], args := [d] }
  | _ => none }
def gainLogsRow : OpenClaim := { program := "ytclmdidgioggdaa", sum := "24b2feae1cf5e4c69b068b98187e42c62f98772eb4cdc14f9046d59a2f748125", func := "coxswain/coxswainlaw04.GainLogs", spec := "gainLogs", named := ["math/bits.overflowError"], apart := false }
def GainLogsSaid : Prop := gainLogsRow.holds Try.pinned (OpenSpec.ofChange gainLogsSpec)

/-- ITS FALSE NEIGHBOUR: 'it returns false'. Refute it at one input. -/
def gainLogsWrong : ChangeSpec := { name := "gainLogs", fn := fun _ => fun
  | [d] => { results := [.lit (.bool false)], args := [d] }
  | _ => none }
def GainLogsWrongFalsely : Prop := gainLogsRow.holds Try.pinned (OpenSpec.ofChange gainLogsWrong)

/-- 'coxswainlaw04.GainBounds': WHATEVER THE INPUT: true; the input reads as it did. -/
def gainBoundsSpec : ChangeSpec := { name := "gainBounds", fn := fun _ => fun
  | [d1, d2] => { results := [.lit (.bool true)], args := [d1, d2] }
  | _ => none }
def gainBoundsRow : OpenClaim := { program := "ytclmdidgioggdaa", sum := "24b2feae1cf5e4c69b068b98187e42c62f98772eb4cdc14f9046d59a2f748125", func := "coxswain/coxswainlaw04.GainBounds", spec := "gainBounds", named := ["math/bits.overflowError"], apart := false }
def GainBoundsSaid : Prop := gainBoundsRow.holds Try.pinned (OpenSpec.ofChange gainBoundsSpec)

/-- ITS FALSE NEIGHBOUR: 'it returns false'. Refute it at one input. -/
def gainBoundsWrong : ChangeSpec := { name := "gainBounds", fn := fun _ => fun
  | [d1, d2] => { results := [.lit (.bool false)], args := [d1, d2] }
  | _ => none }
def GainBoundsWrongFalsely : Prop := gainBoundsRow.holds Try.pinned (OpenSpec.ofChange gainBoundsWrong)

/-- 'coxswainlaw04.GainProducts': WHATEVER THE INPUT: true; the input reads as it did. -/
def gainProductsSpec : ChangeSpec := { name := "gainProducts", fn := fun _ => fun
  | [d1, d2] => { results := [.lit (.bool true)], args := [d1, d2] }
  | _ => none }
def gainProductsRow : OpenClaim := { program := "ytclmdidgioggdaa", sum := "24b2feae1cf5e4c69b068b98187e42c62f98772eb4cdc14f9046d59a2f748125", func := "coxswain/coxswainlaw04.GainProducts", spec := "gainProducts", named := ["math/bits.overflowError"], apart := false }
def GainProductsSaid : Prop := gainProductsRow.holds Try.pinned (OpenSpec.ofChange gainProductsSpec)

/-- ITS FALSE NEIGHBOUR: 'it returns false'. Refute it at one input. -/
def gainProductsWrong : ChangeSpec := { name := "gainProducts", fn := fun _ => fun
  | [d1, d2] => { results := [.lit (.bool false)], args := [d1, d2] }
  | _ => none }
def GainProductsWrongFalsely : Prop := gainProductsRow.holds Try.pinned (OpenSpec.ofChange gainProductsWrong)

/-- 'coxswainlaw03.NatBits': WHATEVER THE INPUT: true; the input reads as it did. -/
def natBitsSpec : ChangeSpec := { name := "natBits", fn := fun _ => fun
  | [d1, d2] => { results := [.lit (.bool true)], args := [d1, d2] }
  | _ => none }
def natBitsRow : OpenClaim := { program := "ytclmdidgioggdaa", sum := "24b2feae1cf5e4c69b068b98187e42c62f98772eb4cdc14f9046d59a2f748125", func := "coxswain/coxswainlaw03.NatBits", spec := "natBits", named := ["math/bits.overflowError"], apart := false }
def NatBitsSaid : Prop := natBitsRow.holds Try.pinned (OpenSpec.ofChange natBitsSpec)

/-- ITS FALSE NEIGHBOUR: 'it returns false'. Refute it at one input. -/
def natBitsWrong : ChangeSpec := { name := "natBits", fn := fun _ => fun
  | [d1, d2] => { results := [.lit (.bool false)], args := [d1, d2] }
  | _ => none }
def NatBitsWrongFalsely : Prop := natBitsRow.holds Try.pinned (OpenSpec.ofChange natBitsWrong)

/-- 'coxswainlaw04.GainOf': WHATEVER THE INPUT: true; the input reads as it did. -/
def gainOfSpec : ChangeSpec := { name := "gainOf", fn := fun _ => fun
  | [d1, d2] => { results := [.lit (.bool true)], args := [d1, d2] }
  | _ => none }
def gainOfRow : OpenClaim := { program := "ytclmdidgioggdaa", sum := "24b2feae1cf5e4c69b068b98187e42c62f98772eb4cdc14f9046d59a2f748125", func := "coxswain/coxswainlaw04.GainOf", spec := "gainOf", named := ["math/bits.overflowError"], apart := false }
def GainOfSaid : Prop := gainOfRow.holds Try.pinned (OpenSpec.ofChange gainOfSpec)

/-- ITS FALSE NEIGHBOUR: 'it returns false'. Refute it at one input. -/
def gainOfWrong : ChangeSpec := { name := "gainOf", fn := fun _ => fun
  | [d1, d2] => { results := [.lit (.bool false)], args := [d1, d2] }
  | _ => none }
def GainOfWrongFalsely : Prop := gainOfRow.holds Try.pinned (OpenSpec.ofChange gainOfWrong)

/-- 'coxswainlaw03.NatDivides': WHATEVER THE INPUT: true; the input reads as it did. -/
def natDividesSpec : ChangeSpec := { name := "natDivides", fn := fun _ => fun
  | [d1, d2, d3] => { results := [.lit (.bool true)], args := [d1, d2, d3] }
  | _ => none }
def natDividesRow : OpenClaim := { program := "ytclmdidgioggdaa", sum := "24b2feae1cf5e4c69b068b98187e42c62f98772eb4cdc14f9046d59a2f748125", func := "coxswain/coxswainlaw03.NatDivides", spec := "natDivides", named := ["math/bits.overflowError"], apart := false }
def NatDividesSaid : Prop := natDividesRow.holds Try.pinned (OpenSpec.ofChange natDividesSpec)

/-- ITS FALSE NEIGHBOUR: 'it returns false'. Refute it at one input. -/
def natDividesWrong : ChangeSpec := { name := "natDivides", fn := fun _ => fun
  | [d1, d2, d3] => { results := [.lit (.bool false)], args := [d1, d2, d3] }
  | _ => none }
def NatDividesWrongFalsely : Prop := natDividesRow.holds Try.pinned (OpenSpec.ofChange natDividesWrong)

/-- 'coxswainlaw04.GainSums': WHATEVER THE INPUT: true; the input reads as it did. -/
def gainSumsSpec : ChangeSpec := { name := "gainSums", fn := fun _ => fun
  | [d1, d2] => { results := [.lit (.bool true)], args := [d1, d2] }
  | _ => none }
def gainSumsRow : OpenClaim := { program := "ytclmdidgioggdaa", sum := "24b2feae1cf5e4c69b068b98187e42c62f98772eb4cdc14f9046d59a2f748125", func := "coxswain/coxswainlaw04.GainSums", spec := "gainSums", named := ["math/bits.overflowError"], apart := false }
def GainSumsSaid : Prop := gainSumsRow.holds Try.pinned (OpenSpec.ofChange gainSumsSpec)

/-- ITS FALSE NEIGHBOUR: 'it returns false'. Refute it at one input. -/
def gainSumsWrong : ChangeSpec := { name := "gainSums", fn := fun _ => fun
  | [d1, d2] => { results := [.lit (.bool false)], args := [d1, d2] }
  | _ => none }
def GainSumsWrongFalsely : Prop := gainSumsRow.holds Try.pinned (OpenSpec.ofChange gainSumsWrong)

/-- 'coxswainlaw03.NatTexts': WHATEVER THE INPUT: true; the input reads as it did. -/
def natTextsSpec : ChangeSpec := { name := "natTexts", fn := fun _ => fun
  | [d1, d2] => { results := [.lit (.bool true)], args := [d1, d2] }
  | _ => none }
def natTextsRow : OpenClaim := { program := "ytclmdidgioggdaa", sum := "24b2feae1cf5e4c69b068b98187e42c62f98772eb4cdc14f9046d59a2f748125", func := "coxswain/coxswainlaw03.NatTexts", spec := "natTexts", named := ["math/bits.overflowError"], apart := false }
def NatTextsSaid : Prop := natTextsRow.holds Try.pinned (OpenSpec.ofChange natTextsSpec)

/-- ITS FALSE NEIGHBOUR: 'it returns false'. Refute it at one input. -/
def natTextsWrong : ChangeSpec := { name := "natTexts", fn := fun _ => fun
  | [d1, d2] => { results := [.lit (.bool false)], args := [d1, d2] }
  | _ => none }
def NatTextsWrongFalsely : Prop := natTextsRow.holds Try.pinned (OpenSpec.ofChange natTextsWrong)

/-- 'coxswaintop.CoxswainWeights': WHATEVER THE INPUT: true; the input reads as it did. -/
def coxswainWeightsSpec : ChangeSpec := { name := "coxswainWeights", fn := fun _ => fun
  | [d1, d2] => { results := [.lit (.bool true)], args := [d1, d2] }
  | _ => none }
def coxswainWeightsRow : OpenClaim := { program := "ytclmdidgioggdaa", sum := "24b2feae1cf5e4c69b068b98187e42c62f98772eb4cdc14f9046d59a2f748125", func := "coxswain/coxswaintop.CoxswainWeights", spec := "coxswainWeights", named := ["math/bits.overflowError"], apart := false }
def CoxswainWeightsSaid : Prop := coxswainWeightsRow.holds Try.pinned (OpenSpec.ofChange coxswainWeightsSpec)

/-- ITS FALSE NEIGHBOUR: 'it returns false'. Refute it at one input. -/
def coxswainWeightsWrong : ChangeSpec := { name := "coxswainWeights", fn := fun _ => fun
  | [d1, d2] => { results := [.lit (.bool false)], args := [d1, d2] }
  | _ => none }
def CoxswainWeightsWrongFalsely : Prop := coxswainWeightsRow.holds Try.pinned (OpenSpec.ofChange coxswainWeightsWrong)

/-- 'coxswainlaw03.NatOne': WHATEVER THE INPUT: true; the input reads as it did. -/
def natOneSpec : ChangeSpec := { name := "natOne", fn := fun _ => fun
  | [d1, d2] => { results := [.lit (.bool true)], args := [d1, d2] }
  | _ => none }
def natOneRow : OpenClaim := { program := "ytclmdidgioggdaa", sum := "24b2feae1cf5e4c69b068b98187e42c62f98772eb4cdc14f9046d59a2f748125", func := "coxswain/coxswainlaw03.NatOne", spec := "natOne", named := ["math/bits.overflowError"], apart := false }
def NatOneSaid : Prop := natOneRow.holds Try.pinned (OpenSpec.ofChange natOneSpec)

/-- ITS FALSE NEIGHBOUR: 'it returns false'. Refute it at one input. -/
def natOneWrong : ChangeSpec := { name := "natOne", fn := fun _ => fun
  | [d1, d2] => { results := [.lit (.bool false)], args := [d1, d2] }
  | _ => none }
def NatOneWrongFalsely : Prop := natOneRow.holds Try.pinned (OpenSpec.ofChange natOneWrong)

/-- 'coxswainlaw03.NatTwo': WHATEVER THE INPUT: true; the input reads as it did. -/
def natTwoSpec : ChangeSpec := { name := "natTwo", fn := fun _ => fun
  | [d1, d2] => { results := [.lit (.bool true)], args := [d1, d2] }
  | _ => none }
def natTwoRow : OpenClaim := { program := "ytclmdidgioggdaa", sum := "24b2feae1cf5e4c69b068b98187e42c62f98772eb4cdc14f9046d59a2f748125", func := "coxswain/coxswainlaw03.NatTwo", spec := "natTwo", named := ["math/bits.overflowError"], apart := false }
def NatTwoSaid : Prop := natTwoRow.holds Try.pinned (OpenSpec.ofChange natTwoSpec)

/-- ITS FALSE NEIGHBOUR: 'it returns false'. Refute it at one input. -/
def natTwoWrong : ChangeSpec := { name := "natTwo", fn := fun _ => fun
  | [d1, d2] => { results := [.lit (.bool false)], args := [d1, d2] }
  | _ => none }
def NatTwoWrongFalsely : Prop := natTwoRow.holds Try.pinned (OpenSpec.ofChange natTwoWrong)

/-- 'coxswainlaw03.NatRules': WHATEVER THE INPUT: true; the input reads as it did. -/
def natRulesSpec : ChangeSpec := { name := "natRules", fn := fun _ => fun
  | [d1, d2, d3] => { results := [.lit (.bool true)], args := [d1, d2, d3] }
  | _ => none }
def natRulesRow : OpenClaim := { program := "ytclmdidgioggdaa", sum := "24b2feae1cf5e4c69b068b98187e42c62f98772eb4cdc14f9046d59a2f748125", func := "coxswain/coxswainlaw03.NatRules", spec := "natRules", unfollowed := true, recurses := true, named := ["math/bits.overflowError"], apart := false }
def NatRulesSaid : Prop := natRulesRow.holds Try.pinned (OpenSpec.ofChange natRulesSpec)

/-- ITS FALSE NEIGHBOUR: 'it returns false'. Refute it at one input. -/
def natRulesWrong : ChangeSpec := { name := "natRules", fn := fun _ => fun
  | [d1, d2, d3] => { results := [.lit (.bool false)], args := [d1, d2, d3] }
  | _ => none }
def NatRulesWrongFalsely : Prop := natRulesRow.holds Try.pinned (OpenSpec.ofChange natRulesWrong)

/-- 'coxswainlaw03.NatSmall': WHATEVER THE INPUT: true; the input reads as it did. -/
def natSmallSpec : ChangeSpec := { name := "natSmall", fn := fun _ => fun
  | [d1, d2] => { results := [.lit (.bool true)], args := [d1, d2] }
  | _ => none }
def natSmallRow : OpenClaim := { program := "ytclmdidgioggdaa", sum := "24b2feae1cf5e4c69b068b98187e42c62f98772eb4cdc14f9046d59a2f748125", func := "coxswain/coxswainlaw03.NatSmall", spec := "natSmall", named := ["math/bits.overflowError"], apart := false }
def NatSmallSaid : Prop := natSmallRow.holds Try.pinned (OpenSpec.ofChange natSmallSpec)

/-- ITS FALSE NEIGHBOUR: 'it returns false'. Refute it at one input. -/
def natSmallWrong : ChangeSpec := { name := "natSmall", fn := fun _ => fun
  | [d1, d2] => { results := [.lit (.bool false)], args := [d1, d2] }
  | _ => none }
def NatSmallWrongFalsely : Prop := natSmallRow.holds Try.pinned (OpenSpec.ofChange natSmallWrong)

/- THE SECOND FORM. 'bulk': how many values and letters a reading holds, each counted each time it is reached (what is shared counts as often as it is met; a slice's spare places count too). A statement '..UptoSaid' is the law's where the arguments, and the package variables that the reading takes, are together of bulk at most 1048576: NARROWER than '..Said'. Prove '..Said' where nothing that the law and all that it calls make is longer than what came in: it says more and counts as full. Else prove '..UptoSaid'. A law counts once. -/
mutual
def uptoBulk {H : Type} : DataW H → Nat
  | .lit (.string bytes) => bytes.length + 1
  | .lit _ => 1
  | .nil => 1
  | .ptr d => uptoBulk d + 1
  | .slice elems spare => uptoBulkAll elems + uptoBulkAll spare + 1
  | .agg parts => uptoBulkAll parts + 1
  | .iface _ d => uptoBulk d + 1
  | .map entries => uptoBulkEntries entries + 1
  | .held _ => 1
def uptoBulkAll {H : Type} : List (DataW H) → Nat
  | [] => 0
  | d :: r => uptoBulk d + uptoBulkAll r
def uptoBulkEntries {H : Type} : List (Lit × DataW H) → Nat
  | [] => 0
  | x :: r => uptoBulkEntry x + uptoBulkEntries r
def uptoBulkEntry {H : Type} : Lit × DataW H → Nat
  | (.string bytes, d) => bytes.length + uptoBulk d + 1
  | (_, d) => uptoBulk d + 1
 end
def uptoSmall : (H : Type) → List (DataW H) → Bool := fun _ ds => decide (uptoBulkAll ds ≤ 1048576)
def OpenSpec.upto (s : _root_.Go.ChangeSpec) : _root_.Go.OpenSpec := { _root_.Go.OpenSpec.ofChange s with cond := some uptoSmall }

/-- 'coxswainlaw04.GainLogs', WHERE WHAT IT READS IS OF BULK AT MOST 1048576: true; the input reads as it did. -/
def gainLogsUptoRow : OpenClaim := { program := "ytclmdidgioggdaa", sum := "24b2feae1cf5e4c69b068b98187e42c62f98772eb4cdc14f9046d59a2f748125", func := "coxswain/coxswainlaw04.GainLogs", spec := "gainLogs", named := ["math/bits.overflowError"], apart := false, narrowed := true }
def GainLogsUptoSaid : Prop := gainLogsUptoRow.holds Try.pinned (OpenSpec.upto gainLogsSpec)

/-- 'coxswainlaw04.GainBounds', WHERE WHAT IT READS IS OF BULK AT MOST 1048576: true; the input reads as it did. -/
def gainBoundsUptoRow : OpenClaim := { program := "ytclmdidgioggdaa", sum := "24b2feae1cf5e4c69b068b98187e42c62f98772eb4cdc14f9046d59a2f748125", func := "coxswain/coxswainlaw04.GainBounds", spec := "gainBounds", named := ["math/bits.overflowError"], apart := false, narrowed := true }
def GainBoundsUptoSaid : Prop := gainBoundsUptoRow.holds Try.pinned (OpenSpec.upto gainBoundsSpec)

/-- 'coxswainlaw04.GainProducts', WHERE WHAT IT READS IS OF BULK AT MOST 1048576: true; the input reads as it did. -/
def gainProductsUptoRow : OpenClaim := { program := "ytclmdidgioggdaa", sum := "24b2feae1cf5e4c69b068b98187e42c62f98772eb4cdc14f9046d59a2f748125", func := "coxswain/coxswainlaw04.GainProducts", spec := "gainProducts", named := ["math/bits.overflowError"], apart := false, narrowed := true }
def GainProductsUptoSaid : Prop := gainProductsUptoRow.holds Try.pinned (OpenSpec.upto gainProductsSpec)

/-- 'coxswainlaw03.NatBits', WHERE WHAT IT READS IS OF BULK AT MOST 1048576: true; the input reads as it did. -/
def natBitsUptoRow : OpenClaim := { program := "ytclmdidgioggdaa", sum := "24b2feae1cf5e4c69b068b98187e42c62f98772eb4cdc14f9046d59a2f748125", func := "coxswain/coxswainlaw03.NatBits", spec := "natBits", named := ["math/bits.overflowError"], apart := false, narrowed := true }
def NatBitsUptoSaid : Prop := natBitsUptoRow.holds Try.pinned (OpenSpec.upto natBitsSpec)

/-- 'coxswainlaw04.GainOf', WHERE WHAT IT READS IS OF BULK AT MOST 1048576: true; the input reads as it did. -/
def gainOfUptoRow : OpenClaim := { program := "ytclmdidgioggdaa", sum := "24b2feae1cf5e4c69b068b98187e42c62f98772eb4cdc14f9046d59a2f748125", func := "coxswain/coxswainlaw04.GainOf", spec := "gainOf", named := ["math/bits.overflowError"], apart := false, narrowed := true }
def GainOfUptoSaid : Prop := gainOfUptoRow.holds Try.pinned (OpenSpec.upto gainOfSpec)

/-- 'coxswainlaw03.NatDivides', WHERE WHAT IT READS IS OF BULK AT MOST 1048576: true; the input reads as it did. -/
def natDividesUptoRow : OpenClaim := { program := "ytclmdidgioggdaa", sum := "24b2feae1cf5e4c69b068b98187e42c62f98772eb4cdc14f9046d59a2f748125", func := "coxswain/coxswainlaw03.NatDivides", spec := "natDivides", named := ["math/bits.overflowError"], apart := false, narrowed := true }
def NatDividesUptoSaid : Prop := natDividesUptoRow.holds Try.pinned (OpenSpec.upto natDividesSpec)

/-- 'coxswainlaw04.GainSums', WHERE WHAT IT READS IS OF BULK AT MOST 1048576: true; the input reads as it did. -/
def gainSumsUptoRow : OpenClaim := { program := "ytclmdidgioggdaa", sum := "24b2feae1cf5e4c69b068b98187e42c62f98772eb4cdc14f9046d59a2f748125", func := "coxswain/coxswainlaw04.GainSums", spec := "gainSums", named := ["math/bits.overflowError"], apart := false, narrowed := true }
def GainSumsUptoSaid : Prop := gainSumsUptoRow.holds Try.pinned (OpenSpec.upto gainSumsSpec)

/-- 'coxswainlaw03.NatTexts', WHERE WHAT IT READS IS OF BULK AT MOST 1048576: true; the input reads as it did. -/
def natTextsUptoRow : OpenClaim := { program := "ytclmdidgioggdaa", sum := "24b2feae1cf5e4c69b068b98187e42c62f98772eb4cdc14f9046d59a2f748125", func := "coxswain/coxswainlaw03.NatTexts", spec := "natTexts", named := ["math/bits.overflowError"], apart := false, narrowed := true }
def NatTextsUptoSaid : Prop := natTextsUptoRow.holds Try.pinned (OpenSpec.upto natTextsSpec)

/-- 'coxswaintop.CoxswainWeights', WHERE WHAT IT READS IS OF BULK AT MOST 1048576: true; the input reads as it did. -/
def coxswainWeightsUptoRow : OpenClaim := { program := "ytclmdidgioggdaa", sum := "24b2feae1cf5e4c69b068b98187e42c62f98772eb4cdc14f9046d59a2f748125", func := "coxswain/coxswaintop.CoxswainWeights", spec := "coxswainWeights", named := ["math/bits.overflowError"], apart := false, narrowed := true }
def CoxswainWeightsUptoSaid : Prop := coxswainWeightsUptoRow.holds Try.pinned (OpenSpec.upto coxswainWeightsSpec)

/-- 'coxswainlaw03.NatOne', WHERE WHAT IT READS IS OF BULK AT MOST 1048576: true; the input reads as it did. -/
def natOneUptoRow : OpenClaim := { program := "ytclmdidgioggdaa", sum := "24b2feae1cf5e4c69b068b98187e42c62f98772eb4cdc14f9046d59a2f748125", func := "coxswain/coxswainlaw03.NatOne", spec := "natOne", named := ["math/bits.overflowError"], apart := false, narrowed := true }
def NatOneUptoSaid : Prop := natOneUptoRow.holds Try.pinned (OpenSpec.upto natOneSpec)

/-- 'coxswainlaw03.NatTwo', WHERE WHAT IT READS IS OF BULK AT MOST 1048576: true; the input reads as it did. -/
def natTwoUptoRow : OpenClaim := { program := "ytclmdidgioggdaa", sum := "24b2feae1cf5e4c69b068b98187e42c62f98772eb4cdc14f9046d59a2f748125", func := "coxswain/coxswainlaw03.NatTwo", spec := "natTwo", named := ["math/bits.overflowError"], apart := false, narrowed := true }
def NatTwoUptoSaid : Prop := natTwoUptoRow.holds Try.pinned (OpenSpec.upto natTwoSpec)

/-- 'coxswainlaw03.NatRules', WHERE WHAT IT READS IS OF BULK AT MOST 1048576: true; the input reads as it did. -/
def natRulesUptoRow : OpenClaim := { program := "ytclmdidgioggdaa", sum := "24b2feae1cf5e4c69b068b98187e42c62f98772eb4cdc14f9046d59a2f748125", func := "coxswain/coxswainlaw03.NatRules", spec := "natRules", unfollowed := true, recurses := true, named := ["math/bits.overflowError"], apart := false, narrowed := true }
def NatRulesUptoSaid : Prop := natRulesUptoRow.holds Try.pinned (OpenSpec.upto natRulesSpec)

/-- 'coxswainlaw03.NatSmall', WHERE WHAT IT READS IS OF BULK AT MOST 1048576: true; the input reads as it did. -/
def natSmallUptoRow : OpenClaim := { program := "ytclmdidgioggdaa", sum := "24b2feae1cf5e4c69b068b98187e42c62f98772eb4cdc14f9046d59a2f748125", func := "coxswain/coxswainlaw03.NatSmall", spec := "natSmall", named := ["math/bits.overflowError"], apart := false, narrowed := true }
def NatSmallUptoSaid : Prop := natSmallUptoRow.holds Try.pinned (OpenSpec.upto natSmallSpec)

end Rows
end Go.Proofs.Ytclmdidgioggdaa
