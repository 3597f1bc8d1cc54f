/-
  NARROWER THAN 'FOR EVERY INPUT', by the rows' own cells (each row's printed sentence says how): FnExactDecodeStm: maps, laid.
  DERIVED. THE GIVEN ROWS OF THIS SEAT. 1 by the template 'for every input the law returns true; each argument reads behind the call as it read before'; 0 by the template 'total and deterministic' (their statements: YtbpfdjbnfkclcaaDoorTotals.lean).
  GIVEN WITH THE SEED: the statements are not yours to turn. If you find one false, say at which input.
  Laid BY PROGRAM, IN A SANDBOX (cutbox-rows.mjs): the forced cells as the released guide's own fill.sh prints them over the translation 521e6bf7c61b698d… (all of the seat's roots in one cut). By AI agents, Wed Nov 11 2026. No macro, syntax, notation, axiom, sorry.
-/
import Derived.Test.YtbpfdjbnfkclcaaDoorChecked
import GoSem.Claim
import GoSem.ClaimJoined
import GoSem.ClaimMapViews
import Derived.JoinedTies
import Derived.KernelRfl
namespace Go.Proofs.YtbpfdjbnfkclcaaDoor
/- THE CELL 'sum', in the pinned program and in every row, IS THE sha256 OF THE DUMP (.gsa) THAT YtbpfdjbnfkclcaaDoorProg.lean LOADS. Nothing in Lean hashes anything: it is a label: what it is worth is what the hold of that sum in a sandbox is worth. -/
noncomputable def Tryd.pinned : Pinned := { name := "ytbpfdjbnfkclcaadoor", sum := "521e6bf7c61b698da1c79c64c01d076235e273f502c8db303a4ae4d93c6d30b4", checked := Tryd.checked }
namespace Rows
def none {H : Type} : Left H := { results := [], args := [] }

/- WHAT THE LISTED PACKAGE-LEVEL VARIABLES READ AS WHEN THE CALL BEGINS. Each datum BY PROGRAM (the guide's laid-datum.mjs) off the statement by which the dump's own 'gosem.cut.vars' lays the variable. In a bare row this is a premise. The card (YtbpfdjbnfkclcaaDoorCards.lean) ties it to the program's text. -/
def laid_loop_example_s02884_impl_keywords {H : Type} : DataW H := .map [(.string [97, 110, 100], .lit (.bool true)), (.string [99, 114, 101, 97, 116, 101], .lit (.bool true)), (.string [100, 101, 108, 101, 116, 101], .lit (.bool true)), (.string [102, 114, 111, 109], .lit (.bool true)), (.string [105, 110, 115, 101, 114, 116], .lit (.bool true)), (.string [105, 110, 116], .lit (.bool true)), (.string [105, 110, 116, 111], .lit (.bool true)), (.string [108, 101, 110], .lit (.bool true)), (.string [110, 111, 116], .lit (.bool true)), (.string [111, 114], .lit (.bool true)), (.string [115, 101, 108, 101, 99, 116], .lit (.bool true)), (.string [115, 101, 116], .lit (.bool true)), (.string [116, 97, 98, 108, 101], .lit (.bool true)), (.string [116, 101, 120, 116], .lit (.bool true)), (.string [117, 112, 100, 97, 116, 101], .lit (.bool true)), (.string [118, 97, 108, 117, 101, 115], .lit (.bool true)), (.string [119, 104, 101, 114, 101], .lit (.bool true))]

/-- 'laws.FnExactDecodeStm': WHATEVER THE INPUT: true; the input reads as it did. -/
def fnExactDecodeStmSpec : ChangeSpec := { name := "fnExactDecodeStm", vars := ["loop.example/s02884/impl.keywords"], fn := fun _ => fun
  | [d, g1] => { results := [.lit (.bool true)], args := [d], vars := [g1] }
  | _ => none }
def fnExactDecodeStmRow : OpenClaim := { program := "ytbpfdjbnfkclcaadoor", sum := "521e6bf7c61b698da1c79c64c01d076235e273f502c8db303a4ae4d93c6d30b4", func := "loop.example/s02884/laws.FnExactDecodeStm", spec := "fnExactDecodeStm", unfollowed := true, recurses := true, named := ["loop.example/s02884/impl.keywords"], maps := true, apart := false, laid := [("loop.example/s02884/impl.keywords", laid_loop_example_s02884_impl_keywords)] }
def FnExactDecodeStmSaid : Prop := fnExactDecodeStmRow.holds Tryd.pinned (OpenSpec.ofChange fnExactDecodeStmSpec)

/-- ITS FALSE NEIGHBOUR: 'it returns false'. Refute it at one input. -/
def fnExactDecodeStmWrong : ChangeSpec := { name := "fnExactDecodeStm", vars := ["loop.example/s02884/impl.keywords"], fn := fun _ => fun
  | [d, g1] => { results := [.lit (.bool false)], args := [d], vars := [g1] }
  | _ => none }
def FnExactDecodeStmWrongFalsely : Prop := fnExactDecodeStmRow.holds Tryd.pinned (OpenSpec.ofChange fnExactDecodeStmWrong)

/- THE SECOND FORM. 'bulk': how many values and letters a reading holds, each counted each time it is reached (what is shared counts as often as it is met; a slice's spare places count too). A statement '..UptoSaid' is the law's where the arguments, and the package variables that the reading takes, are together of bulk at most 1048576: NARROWER than '..Said'. Prove '..Said' where nothing that the law and all that it calls make is longer than what came in: it says more and counts as full. Else prove '..UptoSaid'. A law counts once. -/
mutual
def uptoBulk {H : Type} : DataW H → Nat
  | .lit (.string bytes) => bytes.length + 1
  | .lit _ => 1
  | .nil => 1
  | .ptr d => uptoBulk d + 1
  | .slice elems spare => uptoBulkAll elems + uptoBulkAll spare + 1
  | .agg parts => uptoBulkAll parts + 1
  | .iface _ d => uptoBulk d + 1
  | .map entries => uptoBulkEntries entries + 1
  | .held _ => 1
def uptoBulkAll {H : Type} : List (DataW H) → Nat
  | [] => 0
  | d :: r => uptoBulk d + uptoBulkAll r
def uptoBulkEntries {H : Type} : List (Lit × DataW H) → Nat
  | [] => 0
  | x :: r => uptoBulkEntry x + uptoBulkEntries r
def uptoBulkEntry {H : Type} : Lit × DataW H → Nat
  | (.string bytes, d) => bytes.length + uptoBulk d + 1
  | (_, d) => uptoBulk d + 1
 end
def uptoSmall : (H : Type) → List (DataW H) → Bool := fun _ ds => decide (uptoBulkAll ds ≤ 1048576)
def OpenSpec.upto (s : _root_.Go.ChangeSpec) : _root_.Go.OpenSpec := { _root_.Go.OpenSpec.ofChange s with cond := some uptoSmall }

/-- 'laws.FnExactDecodeStm', WHERE WHAT IT READS IS OF BULK AT MOST 1048576: true; the input reads as it did. -/
def fnExactDecodeStmUptoRow : OpenClaim := { program := "ytbpfdjbnfkclcaadoor", sum := "521e6bf7c61b698da1c79c64c01d076235e273f502c8db303a4ae4d93c6d30b4", func := "loop.example/s02884/laws.FnExactDecodeStm", spec := "fnExactDecodeStm", unfollowed := true, recurses := true, named := ["loop.example/s02884/impl.keywords"], maps := true, apart := false, laid := [("loop.example/s02884/impl.keywords", laid_loop_example_s02884_impl_keywords)], narrowed := true }
def FnExactDecodeStmUptoSaid : Prop := fnExactDecodeStmUptoRow.holds Tryd.pinned (OpenSpec.upto fnExactDecodeStmSpec)

end Rows
end Go.Proofs.YtbpfdjbnfkclcaaDoor
