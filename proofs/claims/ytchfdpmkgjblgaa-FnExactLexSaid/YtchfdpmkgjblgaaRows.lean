/-
  No cell of these rows narrows 'for every input' (looked for: loops, veiled, ifaces, maps, wideKeys, modest, calm, conditions, laid).
  DERIVED. THE GIVEN ROWS OF THIS SEAT. 6 by the template 'for every input the law returns true; each argument reads behind the call as it read before'; 0 by the template 'total and deterministic' (their statements: YtchfdpmkgjblgaaTotals.lean).
  GIVEN WITH THE SEED: the statements are not yours to turn. If you find one false, say at which input.
  Laid BY PROGRAM, IN A SANDBOX (cutbox-rows.mjs): the forced cells as the released guide's own fill.sh prints them over the translation d89be96f4de2ca26… (all of the seat's roots in one cut). By AI agents, Wed Nov 11 2026. No macro, syntax, notation, axiom, sorry.
-/
import Derived.Test.YtchfdpmkgjblgaaChecked
import GoSem.Claim
import GoSem.ClaimJoined
import GoSem.ClaimMapViews
import Derived.JoinedTies
import Derived.KernelRfl
namespace Go.Proofs.Ytchfdpmkgjblgaa
/- THE CELL 'sum', in the pinned program and in every row, IS THE sha256 OF THE DUMP (.gsa) THAT YtchfdpmkgjblgaaProg.lean LOADS. Nothing in Lean hashes anything: it is a label: what it is worth is what the hold of that sum in a sandbox is worth. -/
noncomputable def Try.pinned : Pinned := { name := "ytchfdpmkgjblgaa", sum := "d89be96f4de2ca261b116cd20124ed5e801f11f8ebabc9036e71b3a9a4c2c8ee", checked := Try.checked }
namespace Rows
def none {H : Type} : Left H := { results := [], args := [] }

/-- 'laws.FnExactConstants': WHATEVER THE INPUT: true; the input reads as it did. -/
def fnExactConstantsSpec : ChangeSpec := { name := "fnExactConstants", fn := fun _ => fun
  | [] => { results := [.lit (.bool true)], args := [] }
  | _ => none }
def fnExactConstantsRow : OpenClaim := { program := "ytchfdpmkgjblgaa", sum := "d89be96f4de2ca261b116cd20124ed5e801f11f8ebabc9036e71b3a9a4c2c8ee", func := "loop.example/s02245/laws.FnExactConstants", spec := "fnExactConstants", apart := false }
def FnExactConstantsSaid : Prop := fnExactConstantsRow.holds Try.pinned (OpenSpec.ofChange fnExactConstantsSpec)

/-- ITS FALSE NEIGHBOUR: 'it returns false'. Refute it at one input. -/
def fnExactConstantsWrong : ChangeSpec := { name := "fnExactConstants", fn := fun _ => fun
  | [] => { results := [.lit (.bool false)], args := [] }
  | _ => none }
def FnExactConstantsWrongFalsely : Prop := fnExactConstantsRow.holds Try.pinned (OpenSpec.ofChange fnExactConstantsWrong)

/-- 'laws.FnExactQuoteText': WHATEVER THE INPUT: true; the input reads as it did. -/
def fnExactQuoteTextSpec : ChangeSpec := { name := "fnExactQuoteText", fn := fun _ => fun
  | [d] => { results := [.lit (.bool true)], args := [d] }
  | _ => none }
def fnExactQuoteTextRow : OpenClaim := { program := "ytchfdpmkgjblgaa", sum := "d89be96f4de2ca261b116cd20124ed5e801f11f8ebabc9036e71b3a9a4c2c8ee", func := "loop.example/s02245/laws.FnExactQuoteText", spec := "fnExactQuoteText", apart := false }
def FnExactQuoteTextSaid : Prop := fnExactQuoteTextRow.holds Try.pinned (OpenSpec.ofChange fnExactQuoteTextSpec)

/-- ITS FALSE NEIGHBOUR: 'it returns false'. Refute it at one input. -/
def fnExactQuoteTextWrong : ChangeSpec := { name := "fnExactQuoteText", fn := fun _ => fun
  | [d] => { results := [.lit (.bool false)], args := [d] }
  | _ => none }
def FnExactQuoteTextWrongFalsely : Prop := fnExactQuoteTextRow.holds Try.pinned (OpenSpec.ofChange fnExactQuoteTextWrong)

/-- 'laws.FnExactScanInt': WHATEVER THE INPUT: true; the input reads as it did. -/
def fnExactScanIntSpec : ChangeSpec := { name := "fnExactScanInt", fn := fun _ => fun
  | [d] => { results := [.lit (.bool true)], args := [d] }
  | _ => none }
def fnExactScanIntRow : OpenClaim := { program := "ytchfdpmkgjblgaa", sum := "d89be96f4de2ca261b116cd20124ed5e801f11f8ebabc9036e71b3a9a4c2c8ee", func := "loop.example/s02245/laws.FnExactScanInt", spec := "fnExactScanInt", apart := false }
def FnExactScanIntSaid : Prop := fnExactScanIntRow.holds Try.pinned (OpenSpec.ofChange fnExactScanIntSpec)

/-- ITS FALSE NEIGHBOUR: 'it returns false'. Refute it at one input. -/
def fnExactScanIntWrong : ChangeSpec := { name := "fnExactScanInt", fn := fun _ => fun
  | [d] => { results := [.lit (.bool false)], args := [d] }
  | _ => none }
def FnExactScanIntWrongFalsely : Prop := fnExactScanIntRow.holds Try.pinned (OpenSpec.ofChange fnExactScanIntWrong)

/-- 'laws.FnExactUnquoteText': WHATEVER THE INPUT: true; the input reads as it did. -/
def fnExactUnquoteTextSpec : ChangeSpec := { name := "fnExactUnquoteText", fn := fun _ => fun
  | [d] => { results := [.lit (.bool true)], args := [d] }
  | _ => none }
def fnExactUnquoteTextRow : OpenClaim := { program := "ytchfdpmkgjblgaa", sum := "d89be96f4de2ca261b116cd20124ed5e801f11f8ebabc9036e71b3a9a4c2c8ee", func := "loop.example/s02245/laws.FnExactUnquoteText", spec := "fnExactUnquoteText", apart := false }
def FnExactUnquoteTextSaid : Prop := fnExactUnquoteTextRow.holds Try.pinned (OpenSpec.ofChange fnExactUnquoteTextSpec)

/-- ITS FALSE NEIGHBOUR: 'it returns false'. Refute it at one input. -/
def fnExactUnquoteTextWrong : ChangeSpec := { name := "fnExactUnquoteText", fn := fun _ => fun
  | [d] => { results := [.lit (.bool false)], args := [d] }
  | _ => none }
def FnExactUnquoteTextWrongFalsely : Prop := fnExactUnquoteTextRow.holds Try.pinned (OpenSpec.ofChange fnExactUnquoteTextWrong)

/-- 'laws.FnExactLex': WHATEVER THE INPUT: true; the input reads as it did. -/
def fnExactLexSpec : ChangeSpec := { name := "fnExactLex", fn := fun _ => fun
  | [d] => { results := [.lit (.bool true)], args := [d] }
  | _ => none }
def fnExactLexRow : OpenClaim := { program := "ytchfdpmkgjblgaa", sum := "d89be96f4de2ca261b116cd20124ed5e801f11f8ebabc9036e71b3a9a4c2c8ee", func := "loop.example/s02245/laws.FnExactLex", spec := "fnExactLex", inPlace := ["internal/bytealg.IndexByteString", "internal/bytealg.IndexString"], named := ["internal/bytealg.MaxLen"], apart := false }
def FnExactLexSaid : Prop := fnExactLexRow.holds Try.pinned (OpenSpec.ofChange fnExactLexSpec)

/-- ITS FALSE NEIGHBOUR: 'it returns false'. Refute it at one input. -/
def fnExactLexWrong : ChangeSpec := { name := "fnExactLex", fn := fun _ => fun
  | [d] => { results := [.lit (.bool false)], args := [d] }
  | _ => none }
def FnExactLexWrongFalsely : Prop := fnExactLexRow.holds Try.pinned (OpenSpec.ofChange fnExactLexWrong)

/-- 'laws.FnTokens': WHATEVER THE INPUT: true; the input reads as it did. -/
def fnTokensSpec : ChangeSpec := { name := "fnTokens", fn := fun _ => fun
  | [d] => { results := [.lit (.bool true)], args := [d] }
  | _ => none }
def fnTokensRow : OpenClaim := { program := "ytchfdpmkgjblgaa", sum := "d89be96f4de2ca261b116cd20124ed5e801f11f8ebabc9036e71b3a9a4c2c8ee", func := "loop.example/s02245/laws.FnTokens", spec := "fnTokens", inPlace := ["internal/bytealg.IndexByteString", "internal/bytealg.IndexString"], recurses := true, named := ["internal/bytealg.MaxLen"], apart := false }
def FnTokensSaid : Prop := fnTokensRow.holds Try.pinned (OpenSpec.ofChange fnTokensSpec)

/-- ITS FALSE NEIGHBOUR: 'it returns false'. Refute it at one input. -/
def fnTokensWrong : ChangeSpec := { name := "fnTokens", fn := fun _ => fun
  | [d] => { results := [.lit (.bool false)], args := [d] }
  | _ => none }
def FnTokensWrongFalsely : Prop := fnTokensRow.holds Try.pinned (OpenSpec.ofChange fnTokensWrong)

/- THE SECOND FORM. 'bulk': how many values and letters a reading holds, each counted each time it is reached (what is shared counts as often as it is met; a slice's spare places count too). A statement '..UptoSaid' is the law's where the arguments, and the package variables that the reading takes, are together of bulk at most 1048576: NARROWER than '..Said'. Prove '..Said' where nothing that the law and all that it calls make is longer than what came in: it says more and counts as full. Else prove '..UptoSaid'. A law counts once. -/
mutual
def uptoBulk {H : Type} : DataW H → Nat
  | .lit (.string bytes) => bytes.length + 1
  | .lit _ => 1
  | .nil => 1
  | .ptr d => uptoBulk d + 1
  | .slice elems spare => uptoBulkAll elems + uptoBulkAll spare + 1
  | .agg parts => uptoBulkAll parts + 1
  | .iface _ d => uptoBulk d + 1
  | .map entries => uptoBulkEntries entries + 1
  | .held _ => 1
def uptoBulkAll {H : Type} : List (DataW H) → Nat
  | [] => 0
  | d :: r => uptoBulk d + uptoBulkAll r
def uptoBulkEntries {H : Type} : List (Lit × DataW H) → Nat
  | [] => 0
  | x :: r => uptoBulkEntry x + uptoBulkEntries r
def uptoBulkEntry {H : Type} : Lit × DataW H → Nat
  | (.string bytes, d) => bytes.length + uptoBulk d + 1
  | (_, d) => uptoBulk d + 1
 end
def uptoSmall : (H : Type) → List (DataW H) → Bool := fun _ ds => decide (uptoBulkAll ds ≤ 1048576)
def OpenSpec.upto (s : _root_.Go.ChangeSpec) : _root_.Go.OpenSpec := { _root_.Go.OpenSpec.ofChange s with cond := some uptoSmall }

/-- 'laws.FnExactConstants', WHERE WHAT IT READS IS OF BULK AT MOST 1048576: true; the input reads as it did. -/
def fnExactConstantsUptoRow : OpenClaim := { program := "ytchfdpmkgjblgaa", sum := "d89be96f4de2ca261b116cd20124ed5e801f11f8ebabc9036e71b3a9a4c2c8ee", func := "loop.example/s02245/laws.FnExactConstants", spec := "fnExactConstants", apart := false, narrowed := true }
def FnExactConstantsUptoSaid : Prop := fnExactConstantsUptoRow.holds Try.pinned (OpenSpec.upto fnExactConstantsSpec)

/-- 'laws.FnExactQuoteText', WHERE WHAT IT READS IS OF BULK AT MOST 1048576: true; the input reads as it did. -/
def fnExactQuoteTextUptoRow : OpenClaim := { program := "ytchfdpmkgjblgaa", sum := "d89be96f4de2ca261b116cd20124ed5e801f11f8ebabc9036e71b3a9a4c2c8ee", func := "loop.example/s02245/laws.FnExactQuoteText", spec := "fnExactQuoteText", apart := false, narrowed := true }
def FnExactQuoteTextUptoSaid : Prop := fnExactQuoteTextUptoRow.holds Try.pinned (OpenSpec.upto fnExactQuoteTextSpec)

/-- 'laws.FnExactScanInt', WHERE WHAT IT READS IS OF BULK AT MOST 1048576: true; the input reads as it did. -/
def fnExactScanIntUptoRow : OpenClaim := { program := "ytchfdpmkgjblgaa", sum := "d89be96f4de2ca261b116cd20124ed5e801f11f8ebabc9036e71b3a9a4c2c8ee", func := "loop.example/s02245/laws.FnExactScanInt", spec := "fnExactScanInt", apart := false, narrowed := true }
def FnExactScanIntUptoSaid : Prop := fnExactScanIntUptoRow.holds Try.pinned (OpenSpec.upto fnExactScanIntSpec)

/-- 'laws.FnExactUnquoteText', WHERE WHAT IT READS IS OF BULK AT MOST 1048576: true; the input reads as it did. -/
def fnExactUnquoteTextUptoRow : OpenClaim := { program := "ytchfdpmkgjblgaa", sum := "d89be96f4de2ca261b116cd20124ed5e801f11f8ebabc9036e71b3a9a4c2c8ee", func := "loop.example/s02245/laws.FnExactUnquoteText", spec := "fnExactUnquoteText", apart := false, narrowed := true }
def FnExactUnquoteTextUptoSaid : Prop := fnExactUnquoteTextUptoRow.holds Try.pinned (OpenSpec.upto fnExactUnquoteTextSpec)

/-- 'laws.FnExactLex', WHERE WHAT IT READS IS OF BULK AT MOST 1048576: true; the input reads as it did. -/
def fnExactLexUptoRow : OpenClaim := { program := "ytchfdpmkgjblgaa", sum := "d89be96f4de2ca261b116cd20124ed5e801f11f8ebabc9036e71b3a9a4c2c8ee", func := "loop.example/s02245/laws.FnExactLex", spec := "fnExactLex", inPlace := ["internal/bytealg.IndexByteString", "internal/bytealg.IndexString"], named := ["internal/bytealg.MaxLen"], apart := false, narrowed := true }
def FnExactLexUptoSaid : Prop := fnExactLexUptoRow.holds Try.pinned (OpenSpec.upto fnExactLexSpec)

/-- 'laws.FnTokens', WHERE WHAT IT READS IS OF BULK AT MOST 1048576: true; the input reads as it did. -/
def fnTokensUptoRow : OpenClaim := { program := "ytchfdpmkgjblgaa", sum := "d89be96f4de2ca261b116cd20124ed5e801f11f8ebabc9036e71b3a9a4c2c8ee", func := "loop.example/s02245/laws.FnTokens", spec := "fnTokens", inPlace := ["internal/bytealg.IndexByteString", "internal/bytealg.IndexString"], recurses := true, named := ["internal/bytealg.MaxLen"], apart := false, narrowed := true }
def FnTokensUptoSaid : Prop := fnTokensUptoRow.holds Try.pinned (OpenSpec.upto fnTokensSpec)

end Rows
end Go.Proofs.Ytchfdpmkgjblgaa
