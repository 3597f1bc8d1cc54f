/-
  NARROWER THAN 'FOR EVERY INPUT', by the rows' own cells (each row's printed sentence says how): FnExactTreeRoot: laid · FnExactGrow: laid · FnExactDbOK: maps, laid · FnExactStmOK: maps, laid.
  DERIVED. THE GIVEN ROWS OF THIS SEAT. 4 by the template 'for every input the law returns true; each argument reads behind the call as it read before'; 0 by the template 'total and deterministic' (their statements: YtmchcoafkaggkaaDoorTotals.lean).
  GIVEN WITH THE SEED: the statements are not yours to turn. If you find one false, say at which input.
  Laid BY PROGRAM, IN A SANDBOX (cutbox-rows.mjs): the forced cells as the released guide's own fill.sh prints them over the translation eebdb997c80830a1… (all of the seat's roots in one cut). By AI agents, Wed Nov 11 2026. No macro, syntax, notation, axiom, sorry.
-/
import Derived.Test.YtmchcoafkaggkaaDoorChecked
import GoSem.Claim
import GoSem.ClaimJoined
import GoSem.ClaimMapViews
import Derived.JoinedTies
import Derived.KernelRfl
namespace Go.Proofs.YtmchcoafkaggkaaDoor
/- THE CELL 'sum', in the pinned program and in every row, IS THE sha256 OF THE DUMP (.gsa) THAT YtmchcoafkaggkaaDoorProg.lean LOADS. Nothing in Lean hashes anything: it is a label: what it is worth is what the hold of that sum in a sandbox is worth. -/
noncomputable def Tryd.pinned : Pinned := { name := "ytmchcoafkaggkaadoor", sum := "eebdb997c80830a142c73f170eda0a01cb0ce488e49fa6b5acf083dccb21e77e", checked := Tryd.checked }
namespace Rows
def none {H : Type} : Left H := { results := [], args := [] }

/- WHAT THE LISTED PACKAGE-LEVEL VARIABLES READ AS WHEN THE CALL BEGINS. Each datum BY PROGRAM (the guide's laid-datum.mjs) off the statement by which the dump's own 'gosem.cut.vars' lays the variable. In a bare row this is a premise. The card (YtmchcoafkaggkaaDoorCards.lean) ties it to the program's text. -/
def laid_loop_example_s02884_impl_roundWords {H : Type} : DataW H := .agg [.lit (.int .u32 1116352408), .lit (.int .u32 1899447441), .lit (.int .u32 3049323471), .lit (.int .u32 3921009573), .lit (.int .u32 961987163), .lit (.int .u32 1508970993), .lit (.int .u32 2453635748), .lit (.int .u32 2870763221), .lit (.int .u32 3624381080), .lit (.int .u32 310598401), .lit (.int .u32 607225278), .lit (.int .u32 1426881987), .lit (.int .u32 1925078388), .lit (.int .u32 2162078206), .lit (.int .u32 2614888103), .lit (.int .u32 3248222580), .lit (.int .u32 3835390401), .lit (.int .u32 4022224774), .lit (.int .u32 264347078), .lit (.int .u32 604807628), .lit (.int .u32 770255983), .lit (.int .u32 1249150122), .lit (.int .u32 1555081692), .lit (.int .u32 1996064986), .lit (.int .u32 2554220882), .lit (.int .u32 2821834349), .lit (.int .u32 2952996808), .lit (.int .u32 3210313671), .lit (.int .u32 3336571891), .lit (.int .u32 3584528711), .lit (.int .u32 113926993), .lit (.int .u32 338241895), .lit (.int .u32 666307205), .lit (.int .u32 773529912), .lit (.int .u32 1294757372), .lit (.int .u32 1396182291), .lit (.int .u32 1695183700), .lit (.int .u32 1986661051), .lit (.int .u32 2177026350), .lit (.int .u32 2456956037), .lit (.int .u32 2730485921), .lit (.int .u32 2820302411), .lit (.int .u32 3259730800), .lit (.int .u32 3345764771), .lit (.int .u32 3516065817), .lit (.int .u32 3600352804), .lit (.int .u32 4094571909), .lit (.int .u32 275423344), .lit (.int .u32 430227734), .lit (.int .u32 506948616), .lit (.int .u32 659060556), .lit (.int .u32 883997877), .lit (.int .u32 958139571), .lit (.int .u32 1322822218), .lit (.int .u32 1537002063), .lit (.int .u32 1747873779), .lit (.int .u32 1955562222), .lit (.int .u32 2024104815), .lit (.int .u32 2227730452), .lit (.int .u32 2361852424), .lit (.int .u32 2428436474), .lit (.int .u32 2756734187), .lit (.int .u32 3204031479), .lit (.int .u32 3329325298)]
def laid_loop_example_s02884_impl_keywords {H : Type} : DataW H := .map [(.string [97, 110, 100], .lit (.bool true)), (.string [99, 114, 101, 97, 116, 101], .lit (.bool true)), (.string [100, 101, 108, 101, 116, 101], .lit (.bool true)), (.string [102, 114, 111, 109], .lit (.bool true)), (.string [105, 110, 115, 101, 114, 116], .lit (.bool true)), (.string [105, 110, 116], .lit (.bool true)), (.string [105, 110, 116, 111], .lit (.bool true)), (.string [108, 101, 110], .lit (.bool true)), (.string [110, 111, 116], .lit (.bool true)), (.string [111, 114], .lit (.bool true)), (.string [115, 101, 108, 101, 99, 116], .lit (.bool true)), (.string [115, 101, 116], .lit (.bool true)), (.string [116, 97, 98, 108, 101], .lit (.bool true)), (.string [116, 101, 120, 116], .lit (.bool true)), (.string [117, 112, 100, 97, 116, 101], .lit (.bool true)), (.string [118, 97, 108, 117, 101, 115], .lit (.bool true)), (.string [119, 104, 101, 114, 101], .lit (.bool true))]

/-- 'laws.FnExactTreeRoot': WHATEVER THE INPUT: true; the input reads as it did. -/
def fnExactTreeRootSpec : ChangeSpec := { name := "fnExactTreeRoot", vars := ["loop.example/s02884/impl.roundWords"], fn := fun _ => fun
  | [d1, d2, g1] => { results := [.lit (.bool true)], args := [d1, d2], vars := [g1] }
  | _ => none }
def fnExactTreeRootRow : OpenClaim := { program := "ytmchcoafkaggkaadoor", sum := "eebdb997c80830a142c73f170eda0a01cb0ce488e49fa6b5acf083dccb21e77e", func := "loop.example/s02884/laws.FnExactTreeRoot", spec := "fnExactTreeRoot", unfollowed := true, recurses := true, named := ["loop.example/s02884/impl.roundWords"], apart := false, laid := [("loop.example/s02884/impl.roundWords", laid_loop_example_s02884_impl_roundWords)] }
def FnExactTreeRootSaid : Prop := fnExactTreeRootRow.holds Tryd.pinned (OpenSpec.ofChange fnExactTreeRootSpec)

/-- ITS FALSE NEIGHBOUR: 'it returns false'. Refute it at one input. -/
def fnExactTreeRootWrong : ChangeSpec := { name := "fnExactTreeRoot", vars := ["loop.example/s02884/impl.roundWords"], fn := fun _ => fun
  | [d1, d2, g1] => { results := [.lit (.bool false)], args := [d1, d2], vars := [g1] }
  | _ => none }
def FnExactTreeRootWrongFalsely : Prop := fnExactTreeRootRow.holds Tryd.pinned (OpenSpec.ofChange fnExactTreeRootWrong)

/-- 'laws.FnExactGrow': WHATEVER THE INPUT: true; the input reads as it did. -/
def fnExactGrowSpec : ChangeSpec := { name := "fnExactGrow", vars := ["loop.example/s02884/impl.roundWords"], fn := fun _ => fun
  | [d1, d2, d3, g1] => { results := [.lit (.bool true)], args := [d1, d2, d3], vars := [g1] }
  | _ => none }
def fnExactGrowRow : OpenClaim := { program := "ytmchcoafkaggkaadoor", sum := "eebdb997c80830a142c73f170eda0a01cb0ce488e49fa6b5acf083dccb21e77e", func := "loop.example/s02884/laws.FnExactGrow", spec := "fnExactGrow", unfollowed := true, recurses := true, named := ["loop.example/s02884/impl.roundWords"], apart := false, laid := [("loop.example/s02884/impl.roundWords", laid_loop_example_s02884_impl_roundWords)] }
def FnExactGrowSaid : Prop := fnExactGrowRow.holds Tryd.pinned (OpenSpec.ofChange fnExactGrowSpec)

/-- ITS FALSE NEIGHBOUR: 'it returns false'. Refute it at one input. -/
def fnExactGrowWrong : ChangeSpec := { name := "fnExactGrow", vars := ["loop.example/s02884/impl.roundWords"], fn := fun _ => fun
  | [d1, d2, d3, g1] => { results := [.lit (.bool false)], args := [d1, d2, d3], vars := [g1] }
  | _ => none }
def FnExactGrowWrongFalsely : Prop := fnExactGrowRow.holds Tryd.pinned (OpenSpec.ofChange fnExactGrowWrong)

/-- 'laws.FnExactDbOK': WHATEVER THE INPUT: true; the input reads as it did. -/
def fnExactDbOKSpec : ChangeSpec := { name := "fnExactDbOK", vars := ["loop.example/s02884/impl.keywords"], fn := fun _ => fun
  | [d, g1] => { results := [.lit (.bool true)], args := [d], vars := [g1] }
  | _ => none }
def fnExactDbOKRow : OpenClaim := { program := "ytmchcoafkaggkaadoor", sum := "eebdb997c80830a142c73f170eda0a01cb0ce488e49fa6b5acf083dccb21e77e", func := "loop.example/s02884/laws.FnExactDbOK", spec := "fnExactDbOK", unfollowed := true, recurses := true, named := ["loop.example/s02884/impl.keywords"], maps := true, apart := false, laid := [("loop.example/s02884/impl.keywords", laid_loop_example_s02884_impl_keywords)] }
def FnExactDbOKSaid : Prop := fnExactDbOKRow.holds Tryd.pinned (OpenSpec.ofChange fnExactDbOKSpec)

/-- ITS FALSE NEIGHBOUR: 'it returns false'. Refute it at one input. -/
def fnExactDbOKWrong : ChangeSpec := { name := "fnExactDbOK", vars := ["loop.example/s02884/impl.keywords"], fn := fun _ => fun
  | [d, g1] => { results := [.lit (.bool false)], args := [d], vars := [g1] }
  | _ => none }
def FnExactDbOKWrongFalsely : Prop := fnExactDbOKRow.holds Tryd.pinned (OpenSpec.ofChange fnExactDbOKWrong)

/-- 'laws.FnExactStmOK': WHATEVER THE INPUT: true; the input reads as it did. -/
def fnExactStmOKSpec : ChangeSpec := { name := "fnExactStmOK", vars := ["loop.example/s02884/impl.keywords"], fn := fun _ => fun
  | [d, g1] => { results := [.lit (.bool true)], args := [d], vars := [g1] }
  | _ => none }
def fnExactStmOKRow : OpenClaim := { program := "ytmchcoafkaggkaadoor", sum := "eebdb997c80830a142c73f170eda0a01cb0ce488e49fa6b5acf083dccb21e77e", func := "loop.example/s02884/laws.FnExactStmOK", spec := "fnExactStmOK", unfollowed := true, recurses := true, named := ["loop.example/s02884/impl.keywords"], maps := true, apart := false, laid := [("loop.example/s02884/impl.keywords", laid_loop_example_s02884_impl_keywords)] }
def FnExactStmOKSaid : Prop := fnExactStmOKRow.holds Tryd.pinned (OpenSpec.ofChange fnExactStmOKSpec)

/-- ITS FALSE NEIGHBOUR: 'it returns false'. Refute it at one input. -/
def fnExactStmOKWrong : ChangeSpec := { name := "fnExactStmOK", vars := ["loop.example/s02884/impl.keywords"], fn := fun _ => fun
  | [d, g1] => { results := [.lit (.bool false)], args := [d], vars := [g1] }
  | _ => none }
def FnExactStmOKWrongFalsely : Prop := fnExactStmOKRow.holds Tryd.pinned (OpenSpec.ofChange fnExactStmOKWrong)

/- THE SECOND FORM. 'bulk': how many values and letters a reading holds, each counted each time it is reached (what is shared counts as often as it is met; a slice's spare places count too). A statement '..UptoSaid' is the law's where the arguments, and the package variables that the reading takes, are together of bulk at most 1048576: NARROWER than '..Said'. Prove '..Said' where nothing that the law and all that it calls make is longer than what came in: it says more and counts as full. Else prove '..UptoSaid'. A law counts once. -/
mutual
def uptoBulk {H : Type} : DataW H → Nat
  | .lit (.string bytes) => bytes.length + 1
  | .lit _ => 1
  | .nil => 1
  | .ptr d => uptoBulk d + 1
  | .slice elems spare => uptoBulkAll elems + uptoBulkAll spare + 1
  | .agg parts => uptoBulkAll parts + 1
  | .iface _ d => uptoBulk d + 1
  | .map entries => uptoBulkEntries entries + 1
  | .held _ => 1
def uptoBulkAll {H : Type} : List (DataW H) → Nat
  | [] => 0
  | d :: r => uptoBulk d + uptoBulkAll r
def uptoBulkEntries {H : Type} : List (Lit × DataW H) → Nat
  | [] => 0
  | x :: r => uptoBulkEntry x + uptoBulkEntries r
def uptoBulkEntry {H : Type} : Lit × DataW H → Nat
  | (.string bytes, d) => bytes.length + uptoBulk d + 1
  | (_, d) => uptoBulk d + 1
 end
def uptoSmall : (H : Type) → List (DataW H) → Bool := fun _ ds => decide (uptoBulkAll ds ≤ 1048576)
def OpenSpec.upto (s : _root_.Go.ChangeSpec) : _root_.Go.OpenSpec := { _root_.Go.OpenSpec.ofChange s with cond := some uptoSmall }

/-- 'laws.FnExactTreeRoot', WHERE WHAT IT READS IS OF BULK AT MOST 1048576: true; the input reads as it did. -/
def fnExactTreeRootUptoRow : OpenClaim := { program := "ytmchcoafkaggkaadoor", sum := "eebdb997c80830a142c73f170eda0a01cb0ce488e49fa6b5acf083dccb21e77e", func := "loop.example/s02884/laws.FnExactTreeRoot", spec := "fnExactTreeRoot", unfollowed := true, recurses := true, named := ["loop.example/s02884/impl.roundWords"], apart := false, laid := [("loop.example/s02884/impl.roundWords", laid_loop_example_s02884_impl_roundWords)], narrowed := true }
def FnExactTreeRootUptoSaid : Prop := fnExactTreeRootUptoRow.holds Tryd.pinned (OpenSpec.upto fnExactTreeRootSpec)

/-- 'laws.FnExactGrow', WHERE WHAT IT READS IS OF BULK AT MOST 1048576: true; the input reads as it did. -/
def fnExactGrowUptoRow : OpenClaim := { program := "ytmchcoafkaggkaadoor", sum := "eebdb997c80830a142c73f170eda0a01cb0ce488e49fa6b5acf083dccb21e77e", func := "loop.example/s02884/laws.FnExactGrow", spec := "fnExactGrow", unfollowed := true, recurses := true, named := ["loop.example/s02884/impl.roundWords"], apart := false, laid := [("loop.example/s02884/impl.roundWords", laid_loop_example_s02884_impl_roundWords)], narrowed := true }
def FnExactGrowUptoSaid : Prop := fnExactGrowUptoRow.holds Tryd.pinned (OpenSpec.upto fnExactGrowSpec)

/-- 'laws.FnExactDbOK', WHERE WHAT IT READS IS OF BULK AT MOST 1048576: true; the input reads as it did. -/
def fnExactDbOKUptoRow : OpenClaim := { program := "ytmchcoafkaggkaadoor", sum := "eebdb997c80830a142c73f170eda0a01cb0ce488e49fa6b5acf083dccb21e77e", func := "loop.example/s02884/laws.FnExactDbOK", spec := "fnExactDbOK", unfollowed := true, recurses := true, named := ["loop.example/s02884/impl.keywords"], maps := true, apart := false, laid := [("loop.example/s02884/impl.keywords", laid_loop_example_s02884_impl_keywords)], narrowed := true }
def FnExactDbOKUptoSaid : Prop := fnExactDbOKUptoRow.holds Tryd.pinned (OpenSpec.upto fnExactDbOKSpec)

/-- 'laws.FnExactStmOK', WHERE WHAT IT READS IS OF BULK AT MOST 1048576: true; the input reads as it did. -/
def fnExactStmOKUptoRow : OpenClaim := { program := "ytmchcoafkaggkaadoor", sum := "eebdb997c80830a142c73f170eda0a01cb0ce488e49fa6b5acf083dccb21e77e", func := "loop.example/s02884/laws.FnExactStmOK", spec := "fnExactStmOK", unfollowed := true, recurses := true, named := ["loop.example/s02884/impl.keywords"], maps := true, apart := false, laid := [("loop.example/s02884/impl.keywords", laid_loop_example_s02884_impl_keywords)], narrowed := true }
def FnExactStmOKUptoSaid : Prop := fnExactStmOKUptoRow.holds Tryd.pinned (OpenSpec.upto fnExactStmOKSpec)

end Rows
end Go.Proofs.YtmchcoafkaggkaaDoor
