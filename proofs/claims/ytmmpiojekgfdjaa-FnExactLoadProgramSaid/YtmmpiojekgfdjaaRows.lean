/-
  No cell of these rows narrows 'for every input' (looked for: loops, veiled, ifaces, maps, wideKeys, modest, calm, conditions, laid).
  DERIVED. THE GIVEN ROWS OF THIS SEAT. 4 by the template 'for every input the law returns true; each argument reads behind the call as it read before'; 0 by the template 'total and deterministic' (their statements: YtmmpiojekgfdjaaTotals.lean).
  GIVEN WITH THE SEED: the statements are not yours to turn. If you find one false, say at which input.
  Laid BY PROGRAM, IN A SANDBOX (cutbox-rows.mjs): the forced cells as the released guide's own fill.sh prints them over the translation aeb69d72046c5329… (all of the seat's roots in one cut). By AI agents, Wed Nov 11 2026. No macro, syntax, notation, axiom, sorry.
-/
import Derived.Test.YtmmpiojekgfdjaaChecked
import GoSem.Claim
import GoSem.ClaimJoined
import GoSem.ClaimMapViews
import Derived.JoinedTies
import Derived.KernelRfl
namespace Go.Proofs.Ytmmpiojekgfdjaa
/- THE CELL 'sum', in the pinned program and in every row, IS THE sha256 OF THE DUMP (.gsa) THAT YtmmpiojekgfdjaaProg.lean LOADS. Nothing in Lean hashes anything: it is a label: what it is worth is what the hold of that sum in a sandbox is worth. -/
noncomputable def Try.pinned : Pinned := { name := "ytmmpiojekgfdjaa", sum := "aeb69d72046c53291c5eb5551abf41f2f1fb0b19e7dc2c212e8c32dd7f7363d5", checked := Try.checked }
namespace Rows
def none {H : Type} : Left H := { results := [], args := [] }

/-- 'laws.FnExactCheck': WHATEVER THE INPUT: true; the input reads as it did. -/
def fnExactCheckSpec : ChangeSpec := { name := "fnExactCheck", fn := fun _ => fun
  | [d] => { results := [.lit (.bool true)], args := [d] }
  | _ => none }
def fnExactCheckRow : OpenClaim := { program := "ytmmpiojekgfdjaa", sum := "aeb69d72046c53291c5eb5551abf41f2f1fb0b19e7dc2c212e8c32dd7f7363d5", func := "loop.example/s02245/laws.FnExactCheck", spec := "fnExactCheck", unfollowed := true, recurses := true, apart := false }
def FnExactCheckSaid : Prop := fnExactCheckRow.holds Try.pinned (OpenSpec.ofChange fnExactCheckSpec)

/-- ITS FALSE NEIGHBOUR: 'it returns false'. Refute it at one input. -/
def fnExactCheckWrong : ChangeSpec := { name := "fnExactCheck", fn := fun _ => fun
  | [d] => { results := [.lit (.bool false)], args := [d] }
  | _ => none }
def FnExactCheckWrongFalsely : Prop := fnExactCheckRow.holds Try.pinned (OpenSpec.ofChange fnExactCheckWrong)

/-- 'laws.FnExactSaveProgram': WHATEVER THE INPUT: true; the input reads as it did. -/
def fnExactSaveProgramSpec : ChangeSpec := { name := "fnExactSaveProgram", fn := fun _ => fun
  | [d] => { results := [.lit (.bool true)], args := [d] }
  | _ => none }
def fnExactSaveProgramRow : OpenClaim := { program := "ytmmpiojekgfdjaa", sum := "aeb69d72046c53291c5eb5551abf41f2f1fb0b19e7dc2c212e8c32dd7f7363d5", func := "loop.example/s02245/laws.FnExactSaveProgram", spec := "fnExactSaveProgram", unfollowed := true, recurses := true, apart := false }
def FnExactSaveProgramSaid : Prop := fnExactSaveProgramRow.holds Try.pinned (OpenSpec.ofChange fnExactSaveProgramSpec)

/-- ITS FALSE NEIGHBOUR: 'it returns false'. Refute it at one input. -/
def fnExactSaveProgramWrong : ChangeSpec := { name := "fnExactSaveProgram", fn := fun _ => fun
  | [d] => { results := [.lit (.bool false)], args := [d] }
  | _ => none }
def FnExactSaveProgramWrongFalsely : Prop := fnExactSaveProgramRow.holds Try.pinned (OpenSpec.ofChange fnExactSaveProgramWrong)

/-- 'laws.FnExactThread': WHATEVER THE INPUT: true; the input reads as it did. -/
def fnExactThreadSpec : ChangeSpec := { name := "fnExactThread", fn := fun _ => fun
  | [d] => { results := [.lit (.bool true)], args := [d] }
  | _ => none }
def fnExactThreadRow : OpenClaim := { program := "ytmmpiojekgfdjaa", sum := "aeb69d72046c53291c5eb5551abf41f2f1fb0b19e7dc2c212e8c32dd7f7363d5", func := "loop.example/s02245/laws.FnExactThread", spec := "fnExactThread", unfollowed := true, recurses := true, apart := false }
def FnExactThreadSaid : Prop := fnExactThreadRow.holds Try.pinned (OpenSpec.ofChange fnExactThreadSpec)

/-- ITS FALSE NEIGHBOUR: 'it returns false'. Refute it at one input. -/
def fnExactThreadWrong : ChangeSpec := { name := "fnExactThread", fn := fun _ => fun
  | [d] => { results := [.lit (.bool false)], args := [d] }
  | _ => none }
def FnExactThreadWrongFalsely : Prop := fnExactThreadRow.holds Try.pinned (OpenSpec.ofChange fnExactThreadWrong)

/-- 'laws.FnExactLoadProgram': WHATEVER THE INPUT: true; the input reads as it did. -/
def fnExactLoadProgramSpec : ChangeSpec := { name := "fnExactLoadProgram", fn := fun _ => fun
  | [d] => { results := [.lit (.bool true)], args := [d] }
  | _ => none }
def fnExactLoadProgramRow : OpenClaim := { program := "ytmmpiojekgfdjaa", sum := "aeb69d72046c53291c5eb5551abf41f2f1fb0b19e7dc2c212e8c32dd7f7363d5", func := "loop.example/s02245/laws.FnExactLoadProgram", spec := "fnExactLoadProgram", inPlace := ["internal/reflectlite.TypeOf"], unfollowed := true, recurses := true, apart := false }
def FnExactLoadProgramSaid : Prop := fnExactLoadProgramRow.holds Try.pinned (OpenSpec.ofChange fnExactLoadProgramSpec)

/-- ITS FALSE NEIGHBOUR: 'it returns false'. Refute it at one input. -/
def fnExactLoadProgramWrong : ChangeSpec := { name := "fnExactLoadProgram", fn := fun _ => fun
  | [d] => { results := [.lit (.bool false)], args := [d] }
  | _ => none }
def FnExactLoadProgramWrongFalsely : Prop := fnExactLoadProgramRow.holds Try.pinned (OpenSpec.ofChange fnExactLoadProgramWrong)

/- THE SECOND FORM. 'bulk': how many values and letters a reading holds, each counted each time it is reached (what is shared counts as often as it is met; a slice's spare places count too). A statement '..UptoSaid' is the law's where the arguments, and the package variables that the reading takes, are together of bulk at most 1048576: NARROWER than '..Said'. Prove '..Said' where nothing that the law and all that it calls make is longer than what came in: it says more and counts as full. Else prove '..UptoSaid'. A law counts once. -/
mutual
def uptoBulk {H : Type} : DataW H → Nat
  | .lit (.string bytes) => bytes.length + 1
  | .lit _ => 1
  | .nil => 1
  | .ptr d => uptoBulk d + 1
  | .slice elems spare => uptoBulkAll elems + uptoBulkAll spare + 1
  | .agg parts => uptoBulkAll parts + 1
  | .iface _ d => uptoBulk d + 1
  | .map entries => uptoBulkEntries entries + 1
  | .held _ => 1
def uptoBulkAll {H : Type} : List (DataW H) → Nat
  | [] => 0
  | d :: r => uptoBulk d + uptoBulkAll r
def uptoBulkEntries {H : Type} : List (Lit × DataW H) → Nat
  | [] => 0
  | x :: r => uptoBulkEntry x + uptoBulkEntries r
def uptoBulkEntry {H : Type} : Lit × DataW H → Nat
  | (.string bytes, d) => bytes.length + uptoBulk d + 1
  | (_, d) => uptoBulk d + 1
 end
def uptoSmall : (H : Type) → List (DataW H) → Bool := fun _ ds => decide (uptoBulkAll ds ≤ 1048576)
def OpenSpec.upto (s : _root_.Go.ChangeSpec) : _root_.Go.OpenSpec := { _root_.Go.OpenSpec.ofChange s with cond := some uptoSmall }

/-- 'laws.FnExactCheck', WHERE WHAT IT READS IS OF BULK AT MOST 1048576: true; the input reads as it did. -/
def fnExactCheckUptoRow : OpenClaim := { program := "ytmmpiojekgfdjaa", sum := "aeb69d72046c53291c5eb5551abf41f2f1fb0b19e7dc2c212e8c32dd7f7363d5", func := "loop.example/s02245/laws.FnExactCheck", spec := "fnExactCheck", unfollowed := true, recurses := true, apart := false, narrowed := true }
def FnExactCheckUptoSaid : Prop := fnExactCheckUptoRow.holds Try.pinned (OpenSpec.upto fnExactCheckSpec)

/-- 'laws.FnExactSaveProgram', WHERE WHAT IT READS IS OF BULK AT MOST 1048576: true; the input reads as it did. -/
def fnExactSaveProgramUptoRow : OpenClaim := { program := "ytmmpiojekgfdjaa", sum := "aeb69d72046c53291c5eb5551abf41f2f1fb0b19e7dc2c212e8c32dd7f7363d5", func := "loop.example/s02245/laws.FnExactSaveProgram", spec := "fnExactSaveProgram", unfollowed := true, recurses := true, apart := false, narrowed := true }
def FnExactSaveProgramUptoSaid : Prop := fnExactSaveProgramUptoRow.holds Try.pinned (OpenSpec.upto fnExactSaveProgramSpec)

/-- 'laws.FnExactThread', WHERE WHAT IT READS IS OF BULK AT MOST 1048576: true; the input reads as it did. -/
def fnExactThreadUptoRow : OpenClaim := { program := "ytmmpiojekgfdjaa", sum := "aeb69d72046c53291c5eb5551abf41f2f1fb0b19e7dc2c212e8c32dd7f7363d5", func := "loop.example/s02245/laws.FnExactThread", spec := "fnExactThread", unfollowed := true, recurses := true, apart := false, narrowed := true }
def FnExactThreadUptoSaid : Prop := fnExactThreadUptoRow.holds Try.pinned (OpenSpec.upto fnExactThreadSpec)

/-- 'laws.FnExactLoadProgram', WHERE WHAT IT READS IS OF BULK AT MOST 1048576: true; the input reads as it did. -/
def fnExactLoadProgramUptoRow : OpenClaim := { program := "ytmmpiojekgfdjaa", sum := "aeb69d72046c53291c5eb5551abf41f2f1fb0b19e7dc2c212e8c32dd7f7363d5", func := "loop.example/s02245/laws.FnExactLoadProgram", spec := "fnExactLoadProgram", inPlace := ["internal/reflectlite.TypeOf"], unfollowed := true, recurses := true, apart := false, narrowed := true }
def FnExactLoadProgramUptoSaid : Prop := fnExactLoadProgramUptoRow.holds Try.pinned (OpenSpec.upto fnExactLoadProgramSpec)

end Rows
end Go.Proofs.Ytmmpiojekgfdjaa
