/-
  NARROWER THAN 'FOR EVERY INPUT', by the rows' own cells (each row's printed sentence says how): SyntaxJoined: laid · SyntaxChecks: loops, laid · SyntaxParses: laid · SyntaxEnds: laid.
  DERIVED. THE GIVEN ROWS OF THIS SEAT. 4 by the template 'for every input the law returns true; each argument reads behind the call as it read before'; 0 by the template 'total and deterministic' (their statements: YtbndfgoklgdfdaaGreatDoorTotals.lean).
  GIVEN WITH THE SEED: the statements are not yours to turn. If you find one false, say at which input.
  Laid BY PROGRAM, IN A SANDBOX (cutbox-rows.mjs): the forced cells as the released guide's own fill.sh prints them over the translation 8c2d0968f05618e0… (all of the seat's roots in one cut). By AI agents, Wed Nov 11 2026. No macro, syntax, notation, axiom, sorry.
-/
import Derived.Test.YtbndfgoklgdfdaaGreatDoorChecked
import GoSem.Claim
import GoSem.ClaimJoined
import GoSem.ClaimMapViews
import Derived.JoinedTies
import Derived.KernelRfl
namespace Go.Proofs.YtbndfgoklgdfdaaGreatDoor
/- THE CELL 'sum', in the pinned program and in every row, IS THE sha256 OF THE DUMP (.gsa) THAT YtbndfgoklgdfdaaGreatDoorProg.lean LOADS. Nothing in Lean hashes anything: it is a label: what it is worth is what the hold of that sum in a sandbox is worth. -/
noncomputable def Tryz.pinned : Pinned := { name := "ytbndfgoklgdfdaagreatdoor", sum := "8c2d0968f05618e09c0b2969a2c23d06ff9e61473b2e6c0c93921833d23df958", checked := Tryz.checked }
namespace Rows
def none {H : Type} : Left H := { results := [], args := [] }

/- WHAT THE LISTED PACKAGE-LEVEL VARIABLES READ AS WHEN THE CALL BEGINS. Each datum BY PROGRAM (the guide's laid-datum.mjs) off the statement by which the dump's own 'gosem.cut.vars' lays the variable. In a bare row this is a premise. The card (YtbndfgoklgdfdaaGreatDoorCards.lean) ties it to the program's text. -/
def laid_peculium_syntax_operators {H : Type} : DataW H := .agg [.agg [.lit (.string [111, 45]), .lit (.int .i64 27), .lit (.int .i64 0)], .agg [.lit (.string [60, 61]), .lit (.int .i64 28), .lit (.int .i64 0)], .agg [.lit (.string [45, 111]), .lit (.int .i64 25), .lit (.int .i64 1)], .agg [.lit (.string [61, 62]), .lit (.int .i64 26), .lit (.int .i64 1)], .agg [.lit (.string [43]), .lit (.int .i64 24), .lit (.int .i64 2)], .agg [.lit (.string [38]), .lit (.int .i64 23), .lit (.int .i64 3)], .agg [.lit (.string [42]), .lit (.int .i64 22), .lit (.int .i64 4)]]

/-- 'peculiumlaw02.SyntaxJoined': WHATEVER THE INPUT: true; the input reads as it did. -/
def syntaxJoinedSpec : ChangeSpec := { name := "syntaxJoined", fn := fun _ => fun
  | [d1, d2] => { results := [.lit (.bool true)], args := [d1, d2] }
  | _ => none }
def syntaxJoinedRow : OpenClaim := { program := "ytbndfgoklgdfdaagreatdoor", sum := "8c2d0968f05618e09c0b2969a2c23d06ff9e61473b2e6c0c93921833d23df958", func := "peculium/peculiumlaw02.SyntaxJoined", spec := "syntaxJoined", inPlace := ["internal/bytealg.IndexByteString", "internal/abi.NoEscape"], unfollowed := true, recurses := true, named := ["peculium/syntax.operators"], apart := false, laid := [("peculium/syntax.operators", laid_peculium_syntax_operators)] }
def SyntaxJoinedSaid : Prop := syntaxJoinedRow.holds Tryz.pinned (OpenSpec.ofChange syntaxJoinedSpec)

/-- ITS FALSE NEIGHBOUR: 'it returns false'. Refute it at one input. -/
def syntaxJoinedWrong : ChangeSpec := { name := "syntaxJoined", fn := fun _ => fun
  | [d1, d2] => { results := [.lit (.bool false)], args := [d1, d2] }
  | _ => none }
def SyntaxJoinedWrongFalsely : Prop := syntaxJoinedRow.holds Tryz.pinned (OpenSpec.ofChange syntaxJoinedWrong)

/-- 'peculiumlaw02.SyntaxChecks': WHATEVER THE INPUT: true; the input reads as it did. -/
def syntaxChecksSpec : ChangeSpec := { name := "syntaxChecks", fn := fun _ => fun
  | [d1, d2] => { results := [.lit (.bool true)], args := [d1, d2] }
  | _ => none }
def syntaxChecksRow : OpenClaim := { program := "ytbndfgoklgdfdaagreatdoor", sum := "8c2d0968f05618e09c0b2969a2c23d06ff9e61473b2e6c0c93921833d23df958", func := "peculium/peculiumlaw02.SyntaxChecks", spec := "syntaxChecks", inPlace := ["internal/bytealg.IndexByteString", "internal/abi.NoEscape"], unfollowed := true, recurses := true, named := ["peculium/syntax.operators"], loops := true, apart := false, laid := [("peculium/syntax.operators", laid_peculium_syntax_operators)] }
def SyntaxChecksSaid : Prop := syntaxChecksRow.holds Tryz.pinned (OpenSpec.ofChange syntaxChecksSpec)

/-- ITS FALSE NEIGHBOUR: 'it returns false'. Refute it at one input. -/
def syntaxChecksWrong : ChangeSpec := { name := "syntaxChecks", fn := fun _ => fun
  | [d1, d2] => { results := [.lit (.bool false)], args := [d1, d2] }
  | _ => none }
def SyntaxChecksWrongFalsely : Prop := syntaxChecksRow.holds Tryz.pinned (OpenSpec.ofChange syntaxChecksWrong)

/-- 'peculiumlaw02.SyntaxParses': WHATEVER THE INPUT: true; the input reads as it did. -/
def syntaxParsesSpec : ChangeSpec := { name := "syntaxParses", fn := fun _ => fun
  | [d] => { results := [.lit (.bool true)], args := [d] }
  | _ => none }
def syntaxParsesRow : OpenClaim := { program := "ytbndfgoklgdfdaagreatdoor", sum := "8c2d0968f05618e09c0b2969a2c23d06ff9e61473b2e6c0c93921833d23df958", func := "peculium/peculiumlaw02.SyntaxParses", spec := "syntaxParses", inPlace := ["internal/bytealg.IndexByteString", "internal/abi.NoEscape"], unfollowed := true, recurses := true, named := ["peculium/syntax.operators"], apart := false, laid := [("peculium/syntax.operators", laid_peculium_syntax_operators)] }
def SyntaxParsesSaid : Prop := syntaxParsesRow.holds Tryz.pinned (OpenSpec.ofChange syntaxParsesSpec)

/-- ITS FALSE NEIGHBOUR: 'it returns false'. Refute it at one input. -/
def syntaxParsesWrong : ChangeSpec := { name := "syntaxParses", fn := fun _ => fun
  | [d] => { results := [.lit (.bool false)], args := [d] }
  | _ => none }
def SyntaxParsesWrongFalsely : Prop := syntaxParsesRow.holds Tryz.pinned (OpenSpec.ofChange syntaxParsesWrong)

/-- 'peculiumlaw02.SyntaxEnds': WHATEVER THE INPUT: true; the input reads as it did. -/
def syntaxEndsSpec : ChangeSpec := { name := "syntaxEnds", fn := fun _ => fun
  | [d1, d2] => { results := [.lit (.bool true)], args := [d1, d2] }
  | _ => none }
def syntaxEndsRow : OpenClaim := { program := "ytbndfgoklgdfdaagreatdoor", sum := "8c2d0968f05618e09c0b2969a2c23d06ff9e61473b2e6c0c93921833d23df958", func := "peculium/peculiumlaw02.SyntaxEnds", spec := "syntaxEnds", inPlace := ["internal/bytealg.IndexByteString", "internal/abi.NoEscape"], unfollowed := true, recurses := true, named := ["peculium/syntax.operators"], apart := false, laid := [("peculium/syntax.operators", laid_peculium_syntax_operators)] }
def SyntaxEndsSaid : Prop := syntaxEndsRow.holds Tryz.pinned (OpenSpec.ofChange syntaxEndsSpec)

/-- ITS FALSE NEIGHBOUR: 'it returns false'. Refute it at one input. -/
def syntaxEndsWrong : ChangeSpec := { name := "syntaxEnds", fn := fun _ => fun
  | [d1, d2] => { results := [.lit (.bool false)], args := [d1, d2] }
  | _ => none }
def SyntaxEndsWrongFalsely : Prop := syntaxEndsRow.holds Tryz.pinned (OpenSpec.ofChange syntaxEndsWrong)

/- THE SECOND FORM. 'bulk': how many values and letters a reading holds, each counted each time it is reached (what is shared counts as often as it is met; a slice's spare places count too). A statement '..UptoSaid' is the law's where the arguments, and the package variables that the reading takes, are together of bulk at most 1048576: NARROWER than '..Said'. Prove '..Said' where nothing that the law and all that it calls make is longer than what came in: it says more and counts as full. Else prove '..UptoSaid'. A law counts once. -/
mutual
def uptoBulk {H : Type} : DataW H → Nat
  | .lit (.string bytes) => bytes.length + 1
  | .lit _ => 1
  | .nil => 1
  | .ptr d => uptoBulk d + 1
  | .slice elems spare => uptoBulkAll elems + uptoBulkAll spare + 1
  | .agg parts => uptoBulkAll parts + 1
  | .iface _ d => uptoBulk d + 1
  | .map entries => uptoBulkEntries entries + 1
  | .held _ => 1
def uptoBulkAll {H : Type} : List (DataW H) → Nat
  | [] => 0
  | d :: r => uptoBulk d + uptoBulkAll r
def uptoBulkEntries {H : Type} : List (Lit × DataW H) → Nat
  | [] => 0
  | x :: r => uptoBulkEntry x + uptoBulkEntries r
def uptoBulkEntry {H : Type} : Lit × DataW H → Nat
  | (.string bytes, d) => bytes.length + uptoBulk d + 1
  | (_, d) => uptoBulk d + 1
 end
def uptoSmall : (H : Type) → List (DataW H) → Bool := fun _ ds => decide (uptoBulkAll ds ≤ 1048576)
def OpenSpec.upto (s : _root_.Go.ChangeSpec) : _root_.Go.OpenSpec := { _root_.Go.OpenSpec.ofChange s with cond := some uptoSmall }

/-- 'peculiumlaw02.SyntaxJoined', WHERE WHAT IT READS IS OF BULK AT MOST 1048576: true; the input reads as it did. -/
def syntaxJoinedUptoRow : OpenClaim := { program := "ytbndfgoklgdfdaagreatdoor", sum := "8c2d0968f05618e09c0b2969a2c23d06ff9e61473b2e6c0c93921833d23df958", func := "peculium/peculiumlaw02.SyntaxJoined", spec := "syntaxJoined", inPlace := ["internal/bytealg.IndexByteString", "internal/abi.NoEscape"], unfollowed := true, recurses := true, named := ["peculium/syntax.operators"], apart := false, laid := [("peculium/syntax.operators", laid_peculium_syntax_operators)], narrowed := true }
def SyntaxJoinedUptoSaid : Prop := syntaxJoinedUptoRow.holds Tryz.pinned (OpenSpec.upto syntaxJoinedSpec)

/-- 'peculiumlaw02.SyntaxChecks', WHERE WHAT IT READS IS OF BULK AT MOST 1048576: true; the input reads as it did. -/
def syntaxChecksUptoRow : OpenClaim := { program := "ytbndfgoklgdfdaagreatdoor", sum := "8c2d0968f05618e09c0b2969a2c23d06ff9e61473b2e6c0c93921833d23df958", func := "peculium/peculiumlaw02.SyntaxChecks", spec := "syntaxChecks", inPlace := ["internal/bytealg.IndexByteString", "internal/abi.NoEscape"], unfollowed := true, recurses := true, named := ["peculium/syntax.operators"], loops := true, apart := false, laid := [("peculium/syntax.operators", laid_peculium_syntax_operators)], narrowed := true }
def SyntaxChecksUptoSaid : Prop := syntaxChecksUptoRow.holds Tryz.pinned (OpenSpec.upto syntaxChecksSpec)

/-- 'peculiumlaw02.SyntaxParses', WHERE WHAT IT READS IS OF BULK AT MOST 1048576: true; the input reads as it did. -/
def syntaxParsesUptoRow : OpenClaim := { program := "ytbndfgoklgdfdaagreatdoor", sum := "8c2d0968f05618e09c0b2969a2c23d06ff9e61473b2e6c0c93921833d23df958", func := "peculium/peculiumlaw02.SyntaxParses", spec := "syntaxParses", inPlace := ["internal/bytealg.IndexByteString", "internal/abi.NoEscape"], unfollowed := true, recurses := true, named := ["peculium/syntax.operators"], apart := false, laid := [("peculium/syntax.operators", laid_peculium_syntax_operators)], narrowed := true }
def SyntaxParsesUptoSaid : Prop := syntaxParsesUptoRow.holds Tryz.pinned (OpenSpec.upto syntaxParsesSpec)

/-- 'peculiumlaw02.SyntaxEnds', WHERE WHAT IT READS IS OF BULK AT MOST 1048576: true; the input reads as it did. -/
def syntaxEndsUptoRow : OpenClaim := { program := "ytbndfgoklgdfdaagreatdoor", sum := "8c2d0968f05618e09c0b2969a2c23d06ff9e61473b2e6c0c93921833d23df958", func := "peculium/peculiumlaw02.SyntaxEnds", spec := "syntaxEnds", inPlace := ["internal/bytealg.IndexByteString", "internal/abi.NoEscape"], unfollowed := true, recurses := true, named := ["peculium/syntax.operators"], apart := false, laid := [("peculium/syntax.operators", laid_peculium_syntax_operators)], narrowed := true }
def SyntaxEndsUptoSaid : Prop := syntaxEndsUptoRow.holds Tryz.pinned (OpenSpec.upto syntaxEndsSpec)

end Rows
end Go.Proofs.YtbndfgoklgdfdaaGreatDoor
