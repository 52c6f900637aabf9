/-
  No cell of these rows narrows 'for every input' (looked for: loops, veiled, ifaces, maps, wideKeys, modest, calm, conditions, laid).
  DERIVED. THE GIVEN ROWS OF THIS SEAT. 12 by the template 'for every input the law returns true; each argument reads behind the call as it read before'; 0 by the template 'total and deterministic' (their statements: YtajccobndgechaaTotals.lean).
  GIVEN WITH THE SEED: the statements are not yours to turn. If you find one false, say at which input.
  Laid BY PROGRAM, IN A SANDBOX (cutbox-rows.mjs): the forced cells as the released guide's own fill.sh prints them over the translation 78811cfb10cf3514… (all of the seat's roots in one cut). By AI agents, Wed Nov 11 2026. No macro, syntax, notation, axiom, sorry.
-/
import Derived.Test.YtajccobndgechaaChecked
import GoSem.Claim
import GoSem.ClaimJoined
import GoSem.ClaimMapViews
import Derived.JoinedTies
import Derived.KernelRfl
namespace Go.Proofs.Ytajccobndgechaa
/- THE CELL 'sum', in the pinned program and in every row, IS THE sha256 OF THE DUMP (.gsa) THAT YtajccobndgechaaProg.lean LOADS. Nothing in Lean hashes anything: it is a label: what it is worth is what the hold of that sum in a sandbox is worth. -/
noncomputable def Try.pinned : Pinned := { name := "ytajccobndgechaa", sum := "78811cfb10cf351499223640330452abbca6c56527af2525a8ddab34f3ee8d56", checked := Try.checked }
namespace Rows
def none {H : Type} : Left H := { results := [], args := [] }

/-- 'coxswainlaw12.CacheAnswers': WHATEVER THE INPUT: true; the input reads as it did. -/
def cacheAnswersSpec : ChangeSpec := { name := "cacheAnswers", fn := fun _ => fun
  | [d1, d2] => { results := [.lit (.bool true)], args := [d1, d2] }
  | _ => none }
def cacheAnswersRow : OpenClaim := { program := "ytajccobndgechaa", sum := "78811cfb10cf351499223640330452abbca6c56527af2525a8ddab34f3ee8d56", func := "coxswain/coxswainlaw12.CacheAnswers", spec := "cacheAnswers", unfollowed := true, recurses := true, apart := false }
def CacheAnswersSaid : Prop := cacheAnswersRow.holds Try.pinned (OpenSpec.ofChange cacheAnswersSpec)

/-- ITS FALSE NEIGHBOUR: 'it returns false'. Refute it at one input. -/
def cacheAnswersWrong : ChangeSpec := { name := "cacheAnswers", fn := fun _ => fun
  | [d1, d2] => { results := [.lit (.bool false)], args := [d1, d2] }
  | _ => none }
def CacheAnswersWrongFalsely : Prop := cacheAnswersRow.holds Try.pinned (OpenSpec.ofChange cacheAnswersWrong)

/-- 'coxswainlaw12.CacheSmall': WHATEVER THE INPUT: true; the input reads as it did. -/
def cacheSmallSpec : ChangeSpec := { name := "cacheSmall", fn := fun _ => fun
  | [d] => { results := [.lit (.bool true)], args := [d] }
  | _ => none }
def cacheSmallRow : OpenClaim := { program := "ytajccobndgechaa", sum := "78811cfb10cf351499223640330452abbca6c56527af2525a8ddab34f3ee8d56", func := "coxswain/coxswainlaw12.CacheSmall", spec := "cacheSmall", unfollowed := true, recurses := true, apart := false }
def CacheSmallSaid : Prop := cacheSmallRow.holds Try.pinned (OpenSpec.ofChange cacheSmallSpec)

/-- ITS FALSE NEIGHBOUR: 'it returns false'. Refute it at one input. -/
def cacheSmallWrong : ChangeSpec := { name := "cacheSmall", fn := fun _ => fun
  | [d] => { results := [.lit (.bool false)], args := [d] }
  | _ => none }
def CacheSmallWrongFalsely : Prop := cacheSmallRow.holds Try.pinned (OpenSpec.ofChange cacheSmallWrong)

/-- 'coxswainlaw06.TableQuorums': WHATEVER THE INPUT: true; the input reads as it did. -/
def tableQuorumsSpec : ChangeSpec := { name := "tableQuorums", fn := fun _ => fun
  | [d1, d2, d3] => { results := [.lit (.bool true)], args := [d1, d2, d3] }
  | _ => none }
def tableQuorumsRow : OpenClaim := { program := "ytajccobndgechaa", sum := "78811cfb10cf351499223640330452abbca6c56527af2525a8ddab34f3ee8d56", func := "coxswain/coxswainlaw06.TableQuorums", spec := "tableQuorums", apart := false }
def TableQuorumsSaid : Prop := tableQuorumsRow.holds Try.pinned (OpenSpec.ofChange tableQuorumsSpec)

/-- ITS FALSE NEIGHBOUR: 'it returns false'. Refute it at one input. -/
def tableQuorumsWrong : ChangeSpec := { name := "tableQuorums", fn := fun _ => fun
  | [d1, d2, d3] => { results := [.lit (.bool false)], args := [d1, d2, d3] }
  | _ => none }
def TableQuorumsWrongFalsely : Prop := tableQuorumsRow.holds Try.pinned (OpenSpec.ofChange tableQuorumsWrong)

/-- 'coxswainlaw06.TableMore': WHATEVER THE INPUT: true; the input reads as it did. -/
def tableMoreSpec : ChangeSpec := { name := "tableMore", fn := fun _ => fun
  | [d1, d2, d3] => { results := [.lit (.bool true)], args := [d1, d2, d3] }
  | _ => none }
def tableMoreRow : OpenClaim := { program := "ytajccobndgechaa", sum := "78811cfb10cf351499223640330452abbca6c56527af2525a8ddab34f3ee8d56", func := "coxswain/coxswainlaw06.TableMore", spec := "tableMore", apart := false }
def TableMoreSaid : Prop := tableMoreRow.holds Try.pinned (OpenSpec.ofChange tableMoreSpec)

/-- ITS FALSE NEIGHBOUR: 'it returns false'. Refute it at one input. -/
def tableMoreWrong : ChangeSpec := { name := "tableMore", fn := fun _ => fun
  | [d1, d2, d3] => { results := [.lit (.bool false)], args := [d1, d2, d3] }
  | _ => none }
def TableMoreWrongFalsely : Prop := tableMoreRow.holds Try.pinned (OpenSpec.ofChange tableMoreWrong)

/-- 'coxswainlaw12.CachePlays': WHATEVER THE INPUT: true; the input reads as it did. -/
def cachePlaysSpec : ChangeSpec := { name := "cachePlays", fn := fun _ => fun
  | [d1, d2] => { results := [.lit (.bool true)], args := [d1, d2] }
  | _ => none }
def cachePlaysRow : OpenClaim := { program := "ytajccobndgechaa", sum := "78811cfb10cf351499223640330452abbca6c56527af2525a8ddab34f3ee8d56", func := "coxswain/coxswainlaw12.CachePlays", spec := "cachePlays", unfollowed := true, recurses := true, apart := false }
def CachePlaysSaid : Prop := cachePlaysRow.holds Try.pinned (OpenSpec.ofChange cachePlaysSpec)

/-- ITS FALSE NEIGHBOUR: 'it returns false'. Refute it at one input. -/
def cachePlaysWrong : ChangeSpec := { name := "cachePlays", fn := fun _ => fun
  | [d1, d2] => { results := [.lit (.bool false)], args := [d1, d2] }
  | _ => none }
def CachePlaysWrongFalsely : Prop := cachePlaysRow.holds Try.pinned (OpenSpec.ofChange cachePlaysWrong)

/-- 'coxswainlaw01.CodecNums': WHATEVER THE INPUT: true; the input reads as it did. -/
def codecNumsSpec : ChangeSpec := { name := "codecNums", fn := fun _ => fun
  | [d1, d2] => { results := [.lit (.bool true)], args := [d1, d2] }
  | _ => none }
def codecNumsRow : OpenClaim := { program := "ytajccobndgechaa", sum := "78811cfb10cf351499223640330452abbca6c56527af2525a8ddab34f3ee8d56", func := "coxswain/coxswainlaw01.CodecNums", spec := "codecNums", inPlace := ["internal/abi.NoEscape"], apart := false }
def CodecNumsSaid : Prop := codecNumsRow.holds Try.pinned (OpenSpec.ofChange codecNumsSpec)

/-- ITS FALSE NEIGHBOUR: 'it returns false'. Refute it at one input. -/
def codecNumsWrong : ChangeSpec := { name := "codecNums", fn := fun _ => fun
  | [d1, d2] => { results := [.lit (.bool false)], args := [d1, d2] }
  | _ => none }
def CodecNumsWrongFalsely : Prop := codecNumsRow.holds Try.pinned (OpenSpec.ofChange codecNumsWrong)

/-- 'coxswainlaw01.CodecTexts': WHATEVER THE INPUT: true; the input reads as it did. -/
def codecTextsSpec : ChangeSpec := { name := "codecTexts", fn := fun _ => fun
  | [d1, d2, d3] => { results := [.lit (.bool true)], args := [d1, d2, d3] }
  | _ => none }
def codecTextsRow : OpenClaim := { program := "ytajccobndgechaa", sum := "78811cfb10cf351499223640330452abbca6c56527af2525a8ddab34f3ee8d56", func := "coxswain/coxswainlaw01.CodecTexts", spec := "codecTexts", inPlace := ["internal/abi.NoEscape"], apart := false }
def CodecTextsSaid : Prop := codecTextsRow.holds Try.pinned (OpenSpec.ofChange codecTextsSpec)

/-- ITS FALSE NEIGHBOUR: 'it returns false'. Refute it at one input. -/
def codecTextsWrong : ChangeSpec := { name := "codecTexts", fn := fun _ => fun
  | [d1, d2, d3] => { results := [.lit (.bool false)], args := [d1, d2, d3] }
  | _ => none }
def CodecTextsWrongFalsely : Prop := codecTextsRow.holds Try.pinned (OpenSpec.ofChange codecTextsWrong)

/-- 'coxswainlaw06.TableReads': WHATEVER THE INPUT: true; the input reads as it did. -/
def tableReadsSpec : ChangeSpec := { name := "tableReads", fn := fun _ => fun
  | [d] => { results := [.lit (.bool true)], args := [d] }
  | _ => none }
def tableReadsRow : OpenClaim := { program := "ytajccobndgechaa", sum := "78811cfb10cf351499223640330452abbca6c56527af2525a8ddab34f3ee8d56", func := "coxswain/coxswainlaw06.TableReads", spec := "tableReads", inPlace := ["internal/abi.NoEscape"], apart := false }
def TableReadsSaid : Prop := tableReadsRow.holds Try.pinned (OpenSpec.ofChange tableReadsSpec)

/-- ITS FALSE NEIGHBOUR: 'it returns false'. Refute it at one input. -/
def tableReadsWrong : ChangeSpec := { name := "tableReads", fn := fun _ => fun
  | [d] => { results := [.lit (.bool false)], args := [d] }
  | _ => none }
def TableReadsWrongFalsely : Prop := tableReadsRow.holds Try.pinned (OpenSpec.ofChange tableReadsWrong)

/-- 'coxswainlaw20.CommandReads': WHATEVER THE INPUT: true; the input reads as it did. -/
def commandReadsSpec : ChangeSpec := { name := "commandReads", fn := fun _ => fun
  | [d] => { results := [.lit (.bool true)], args := [d] }
  | _ => none }
def commandReadsRow : OpenClaim := { program := "ytajccobndgechaa", sum := "78811cfb10cf351499223640330452abbca6c56527af2525a8ddab34f3ee8d56", func := "coxswain/coxswainlaw20.CommandReads", spec := "commandReads", inPlace := ["internal/bytealg.Compare", "internal/abi.NoEscape"], unfollowed := true, recurses := true, apart := false }
def CommandReadsSaid : Prop := commandReadsRow.holds Try.pinned (OpenSpec.ofChange commandReadsSpec)

/-- ITS FALSE NEIGHBOUR: 'it returns false'. Refute it at one input. -/
def commandReadsWrong : ChangeSpec := { name := "commandReads", fn := fun _ => fun
  | [d] => { results := [.lit (.bool false)], args := [d] }
  | _ => none }
def CommandReadsWrongFalsely : Prop := commandReadsRow.holds Try.pinned (OpenSpec.ofChange commandReadsWrong)

/-- 'coxswainlaw20.CommandNames': WHATEVER THE INPUT: true; the input reads as it did. -/
def commandNamesSpec : ChangeSpec := { name := "commandNames", fn := fun _ => fun
  | [d] => { results := [.lit (.bool true)], args := [d] }
  | _ => none }
def commandNamesRow : OpenClaim := { program := "ytajccobndgechaa", sum := "78811cfb10cf351499223640330452abbca6c56527af2525a8ddab34f3ee8d56", func := "coxswain/coxswainlaw20.CommandNames", spec := "commandNames", inPlace := ["internal/bytealg.Compare", "internal/abi.NoEscape"], unfollowed := true, recurses := true, apart := false }
def CommandNamesSaid : Prop := commandNamesRow.holds Try.pinned (OpenSpec.ofChange commandNamesSpec)

/-- ITS FALSE NEIGHBOUR: 'it returns false'. Refute it at one input. -/
def commandNamesWrong : ChangeSpec := { name := "commandNames", fn := fun _ => fun
  | [d] => { results := [.lit (.bool false)], args := [d] }
  | _ => none }
def CommandNamesWrongFalsely : Prop := commandNamesRow.holds Try.pinned (OpenSpec.ofChange commandNamesWrong)

/-- 'coxswainlaw20.CommandUnlike': WHATEVER THE INPUT: true; the input reads as it did. -/
def commandUnlikeSpec : ChangeSpec := { name := "commandUnlike", fn := fun _ => fun
  | [d1, d2] => { results := [.lit (.bool true)], args := [d1, d2] }
  | _ => none }
def commandUnlikeRow : OpenClaim := { program := "ytajccobndgechaa", sum := "78811cfb10cf351499223640330452abbca6c56527af2525a8ddab34f3ee8d56", func := "coxswain/coxswainlaw20.CommandUnlike", spec := "commandUnlike", inPlace := ["internal/bytealg.Compare", "internal/abi.NoEscape"], unfollowed := true, recurses := true, apart := false }
def CommandUnlikeSaid : Prop := commandUnlikeRow.holds Try.pinned (OpenSpec.ofChange commandUnlikeSpec)

/-- ITS FALSE NEIGHBOUR: 'it returns false'. Refute it at one input. -/
def commandUnlikeWrong : ChangeSpec := { name := "commandUnlike", fn := fun _ => fun
  | [d1, d2] => { results := [.lit (.bool false)], args := [d1, d2] }
  | _ => none }
def CommandUnlikeWrongFalsely : Prop := commandUnlikeRow.holds Try.pinned (OpenSpec.ofChange commandUnlikeWrong)

/-- 'coxswainlaw20.CommandEpochs': WHATEVER THE INPUT: true; the input reads as it did. -/
def commandEpochsSpec : ChangeSpec := { name := "commandEpochs", fn := fun _ => fun
  | [d] => { results := [.lit (.bool true)], args := [d] }
  | _ => none }
def commandEpochsRow : OpenClaim := { program := "ytajccobndgechaa", sum := "78811cfb10cf351499223640330452abbca6c56527af2525a8ddab34f3ee8d56", func := "coxswain/coxswainlaw20.CommandEpochs", spec := "commandEpochs", inPlace := ["internal/bytealg.Compare", "internal/abi.NoEscape"], unfollowed := true, recurses := true, apart := false }
def CommandEpochsSaid : Prop := commandEpochsRow.holds Try.pinned (OpenSpec.ofChange commandEpochsSpec)

/-- ITS FALSE NEIGHBOUR: 'it returns false'. Refute it at one input. -/
def commandEpochsWrong : ChangeSpec := { name := "commandEpochs", fn := fun _ => fun
  | [d] => { results := [.lit (.bool false)], args := [d] }
  | _ => none }
def CommandEpochsWrongFalsely : Prop := commandEpochsRow.holds Try.pinned (OpenSpec.ofChange commandEpochsWrong)

/- THE SECOND FORM. 'bulk': how many values and letters a reading holds, each counted each time it is reached (what is shared counts as often as it is met; a slice's spare places count too). A statement '..UptoSaid' is the law's where the arguments, and the package variables that the reading takes, are together of bulk at most 1048576: NARROWER than '..Said'. Prove '..Said' where nothing that the law and all that it calls make is longer than what came in: it says more and counts as full. Else prove '..UptoSaid'. A law counts once. -/
mutual
def uptoBulk {H : Type} : DataW H → Nat
  | .lit (.string bytes) => bytes.length + 1
  | .lit _ => 1
  | .nil => 1
  | .ptr d => uptoBulk d + 1
  | .slice elems spare => uptoBulkAll elems + uptoBulkAll spare + 1
  | .agg parts => uptoBulkAll parts + 1
  | .iface _ d => uptoBulk d + 1
  | .map entries => uptoBulkEntries entries + 1
  | .held _ => 1
def uptoBulkAll {H : Type} : List (DataW H) → Nat
  | [] => 0
  | d :: r => uptoBulk d + uptoBulkAll r
def uptoBulkEntries {H : Type} : List (Lit × DataW H) → Nat
  | [] => 0
  | x :: r => uptoBulkEntry x + uptoBulkEntries r
def uptoBulkEntry {H : Type} : Lit × DataW H → Nat
  | (.string bytes, d) => bytes.length + uptoBulk d + 1
  | (_, d) => uptoBulk d + 1
 end
def uptoSmall : (H : Type) → List (DataW H) → Bool := fun _ ds => decide (uptoBulkAll ds ≤ 1048576)
def OpenSpec.upto (s : _root_.Go.ChangeSpec) : _root_.Go.OpenSpec := { _root_.Go.OpenSpec.ofChange s with cond := some uptoSmall }

/-- 'coxswainlaw12.CacheAnswers', WHERE WHAT IT READS IS OF BULK AT MOST 1048576: true; the input reads as it did. -/
def cacheAnswersUptoRow : OpenClaim := { program := "ytajccobndgechaa", sum := "78811cfb10cf351499223640330452abbca6c56527af2525a8ddab34f3ee8d56", func := "coxswain/coxswainlaw12.CacheAnswers", spec := "cacheAnswers", unfollowed := true, recurses := true, apart := false, narrowed := true }
def CacheAnswersUptoSaid : Prop := cacheAnswersUptoRow.holds Try.pinned (OpenSpec.upto cacheAnswersSpec)

/-- 'coxswainlaw12.CacheSmall', WHERE WHAT IT READS IS OF BULK AT MOST 1048576: true; the input reads as it did. -/
def cacheSmallUptoRow : OpenClaim := { program := "ytajccobndgechaa", sum := "78811cfb10cf351499223640330452abbca6c56527af2525a8ddab34f3ee8d56", func := "coxswain/coxswainlaw12.CacheSmall", spec := "cacheSmall", unfollowed := true, recurses := true, apart := false, narrowed := true }
def CacheSmallUptoSaid : Prop := cacheSmallUptoRow.holds Try.pinned (OpenSpec.upto cacheSmallSpec)

/-- 'coxswainlaw06.TableQuorums', WHERE WHAT IT READS IS OF BULK AT MOST 1048576: true; the input reads as it did. -/
def tableQuorumsUptoRow : OpenClaim := { program := "ytajccobndgechaa", sum := "78811cfb10cf351499223640330452abbca6c56527af2525a8ddab34f3ee8d56", func := "coxswain/coxswainlaw06.TableQuorums", spec := "tableQuorums", apart := false, narrowed := true }
def TableQuorumsUptoSaid : Prop := tableQuorumsUptoRow.holds Try.pinned (OpenSpec.upto tableQuorumsSpec)

/-- 'coxswainlaw06.TableMore', WHERE WHAT IT READS IS OF BULK AT MOST 1048576: true; the input reads as it did. -/
def tableMoreUptoRow : OpenClaim := { program := "ytajccobndgechaa", sum := "78811cfb10cf351499223640330452abbca6c56527af2525a8ddab34f3ee8d56", func := "coxswain/coxswainlaw06.TableMore", spec := "tableMore", apart := false, narrowed := true }
def TableMoreUptoSaid : Prop := tableMoreUptoRow.holds Try.pinned (OpenSpec.upto tableMoreSpec)

/-- 'coxswainlaw12.CachePlays', WHERE WHAT IT READS IS OF BULK AT MOST 1048576: true; the input reads as it did. -/
def cachePlaysUptoRow : OpenClaim := { program := "ytajccobndgechaa", sum := "78811cfb10cf351499223640330452abbca6c56527af2525a8ddab34f3ee8d56", func := "coxswain/coxswainlaw12.CachePlays", spec := "cachePlays", unfollowed := true, recurses := true, apart := false, narrowed := true }
def CachePlaysUptoSaid : Prop := cachePlaysUptoRow.holds Try.pinned (OpenSpec.upto cachePlaysSpec)

/-- 'coxswainlaw01.CodecNums', WHERE WHAT IT READS IS OF BULK AT MOST 1048576: true; the input reads as it did. -/
def codecNumsUptoRow : OpenClaim := { program := "ytajccobndgechaa", sum := "78811cfb10cf351499223640330452abbca6c56527af2525a8ddab34f3ee8d56", func := "coxswain/coxswainlaw01.CodecNums", spec := "codecNums", inPlace := ["internal/abi.NoEscape"], apart := false, narrowed := true }
def CodecNumsUptoSaid : Prop := codecNumsUptoRow.holds Try.pinned (OpenSpec.upto codecNumsSpec)

/-- 'coxswainlaw01.CodecTexts', WHERE WHAT IT READS IS OF BULK AT MOST 1048576: true; the input reads as it did. -/
def codecTextsUptoRow : OpenClaim := { program := "ytajccobndgechaa", sum := "78811cfb10cf351499223640330452abbca6c56527af2525a8ddab34f3ee8d56", func := "coxswain/coxswainlaw01.CodecTexts", spec := "codecTexts", inPlace := ["internal/abi.NoEscape"], apart := false, narrowed := true }
def CodecTextsUptoSaid : Prop := codecTextsUptoRow.holds Try.pinned (OpenSpec.upto codecTextsSpec)

/-- 'coxswainlaw06.TableReads', WHERE WHAT IT READS IS OF BULK AT MOST 1048576: true; the input reads as it did. -/
def tableReadsUptoRow : OpenClaim := { program := "ytajccobndgechaa", sum := "78811cfb10cf351499223640330452abbca6c56527af2525a8ddab34f3ee8d56", func := "coxswain/coxswainlaw06.TableReads", spec := "tableReads", inPlace := ["internal/abi.NoEscape"], apart := false, narrowed := true }
def TableReadsUptoSaid : Prop := tableReadsUptoRow.holds Try.pinned (OpenSpec.upto tableReadsSpec)

/-- 'coxswainlaw20.CommandReads', WHERE WHAT IT READS IS OF BULK AT MOST 1048576: true; the input reads as it did. -/
def commandReadsUptoRow : OpenClaim := { program := "ytajccobndgechaa", sum := "78811cfb10cf351499223640330452abbca6c56527af2525a8ddab34f3ee8d56", func := "coxswain/coxswainlaw20.CommandReads", spec := "commandReads", inPlace := ["internal/bytealg.Compare", "internal/abi.NoEscape"], unfollowed := true, recurses := true, apart := false, narrowed := true }
def CommandReadsUptoSaid : Prop := commandReadsUptoRow.holds Try.pinned (OpenSpec.upto commandReadsSpec)

/-- 'coxswainlaw20.CommandNames', WHERE WHAT IT READS IS OF BULK AT MOST 1048576: true; the input reads as it did. -/
def commandNamesUptoRow : OpenClaim := { program := "ytajccobndgechaa", sum := "78811cfb10cf351499223640330452abbca6c56527af2525a8ddab34f3ee8d56", func := "coxswain/coxswainlaw20.CommandNames", spec := "commandNames", inPlace := ["internal/bytealg.Compare", "internal/abi.NoEscape"], unfollowed := true, recurses := true, apart := false, narrowed := true }
def CommandNamesUptoSaid : Prop := commandNamesUptoRow.holds Try.pinned (OpenSpec.upto commandNamesSpec)

/-- 'coxswainlaw20.CommandUnlike', WHERE WHAT IT READS IS OF BULK AT MOST 1048576: true; the input reads as it did. -/
def commandUnlikeUptoRow : OpenClaim := { program := "ytajccobndgechaa", sum := "78811cfb10cf351499223640330452abbca6c56527af2525a8ddab34f3ee8d56", func := "coxswain/coxswainlaw20.CommandUnlike", spec := "commandUnlike", inPlace := ["internal/bytealg.Compare", "internal/abi.NoEscape"], unfollowed := true, recurses := true, apart := false, narrowed := true }
def CommandUnlikeUptoSaid : Prop := commandUnlikeUptoRow.holds Try.pinned (OpenSpec.upto commandUnlikeSpec)

/-- 'coxswainlaw20.CommandEpochs', WHERE WHAT IT READS IS OF BULK AT MOST 1048576: true; the input reads as it did. -/
def commandEpochsUptoRow : OpenClaim := { program := "ytajccobndgechaa", sum := "78811cfb10cf351499223640330452abbca6c56527af2525a8ddab34f3ee8d56", func := "coxswain/coxswainlaw20.CommandEpochs", spec := "commandEpochs", inPlace := ["internal/bytealg.Compare", "internal/abi.NoEscape"], unfollowed := true, recurses := true, apart := false, narrowed := true }
def CommandEpochsUptoSaid : Prop := commandEpochsUptoRow.holds Try.pinned (OpenSpec.upto commandEpochsSpec)

end Rows
end Go.Proofs.Ytajccobndgechaa
