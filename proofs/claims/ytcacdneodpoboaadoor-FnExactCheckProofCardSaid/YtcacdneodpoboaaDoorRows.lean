/-
  NARROWER THAN 'FOR EVERY INPUT', by the rows' own cells (each row's printed sentence says how): FnExactSha256: laid · FnExactDigest: laid · FnExactLeaf: laid · FnExactNode: laid · FnExactCheckPath: laid · FnExactCheckProof: laid.
  DERIVED. THE GIVEN ROWS OF THIS SEAT. 6 by the template 'for every input the law returns true; each argument reads behind the call as it read before'; 0 by the template 'total and deterministic' (their statements: YtcacdneodpoboaaDoorTotals.lean).
  GIVEN WITH THE SEED: the statements are not yours to turn. If you find one false, say at which input.
  Laid BY PROGRAM, IN A SANDBOX (cutbox-rows.mjs): the forced cells as the released guide's own fill.sh prints them over the translation 0cc0924918ae846f… (all of the seat's roots in one cut). By AI agents, Wed Nov 11 2026. No macro, syntax, notation, axiom, sorry.
-/
import Derived.Test.YtcacdneodpoboaaDoorChecked
import GoSem.Claim
import GoSem.ClaimJoined
import GoSem.ClaimMapViews
import Derived.JoinedTies
import Derived.KernelRfl
namespace Go.Proofs.YtcacdneodpoboaaDoor
/- THE CELL 'sum', in the pinned program and in every row, IS THE sha256 OF THE DUMP (.gsa) THAT YtcacdneodpoboaaDoorProg.lean LOADS. Nothing in Lean hashes anything: it is a label: what it is worth is what the hold of that sum in a sandbox is worth. -/
noncomputable def Tryd.pinned : Pinned := { name := "ytcacdneodpoboaadoor", sum := "0cc0924918ae846fb0f5bb15f9c895f4c996e0b510b220cbfb88a9abedba46cc", checked := Tryd.checked }
namespace Rows
def none {H : Type} : Left H := { results := [], args := [] }

/- WHAT THE LISTED PACKAGE-LEVEL VARIABLES READ AS WHEN THE CALL BEGINS. Each datum BY PROGRAM (the guide's laid-datum.mjs) off the statement by which the dump's own 'gosem.cut.vars' lays the variable. In a bare row this is a premise. The card (YtcacdneodpoboaaDoorCards.lean) ties it to the program's text. -/
def laid_loop_example_s02884_impl_roundWords {H : Type} : DataW H := .agg [.lit (.int .u32 1116352408), .lit (.int .u32 1899447441), .lit (.int .u32 3049323471), .lit (.int .u32 3921009573), .lit (.int .u32 961987163), .lit (.int .u32 1508970993), .lit (.int .u32 2453635748), .lit (.int .u32 2870763221), .lit (.int .u32 3624381080), .lit (.int .u32 310598401), .lit (.int .u32 607225278), .lit (.int .u32 1426881987), .lit (.int .u32 1925078388), .lit (.int .u32 2162078206), .lit (.int .u32 2614888103), .lit (.int .u32 3248222580), .lit (.int .u32 3835390401), .lit (.int .u32 4022224774), .lit (.int .u32 264347078), .lit (.int .u32 604807628), .lit (.int .u32 770255983), .lit (.int .u32 1249150122), .lit (.int .u32 1555081692), .lit (.int .u32 1996064986), .lit (.int .u32 2554220882), .lit (.int .u32 2821834349), .lit (.int .u32 2952996808), .lit (.int .u32 3210313671), .lit (.int .u32 3336571891), .lit (.int .u32 3584528711), .lit (.int .u32 113926993), .lit (.int .u32 338241895), .lit (.int .u32 666307205), .lit (.int .u32 773529912), .lit (.int .u32 1294757372), .lit (.int .u32 1396182291), .lit (.int .u32 1695183700), .lit (.int .u32 1986661051), .lit (.int .u32 2177026350), .lit (.int .u32 2456956037), .lit (.int .u32 2730485921), .lit (.int .u32 2820302411), .lit (.int .u32 3259730800), .lit (.int .u32 3345764771), .lit (.int .u32 3516065817), .lit (.int .u32 3600352804), .lit (.int .u32 4094571909), .lit (.int .u32 275423344), .lit (.int .u32 430227734), .lit (.int .u32 506948616), .lit (.int .u32 659060556), .lit (.int .u32 883997877), .lit (.int .u32 958139571), .lit (.int .u32 1322822218), .lit (.int .u32 1537002063), .lit (.int .u32 1747873779), .lit (.int .u32 1955562222), .lit (.int .u32 2024104815), .lit (.int .u32 2227730452), .lit (.int .u32 2361852424), .lit (.int .u32 2428436474), .lit (.int .u32 2756734187), .lit (.int .u32 3204031479), .lit (.int .u32 3329325298)]

/-- 'laws.FnExactSha256': WHATEVER THE INPUT: true; the input reads as it did. -/
def fnExactSha256Spec : ChangeSpec := { name := "fnExactSha256", vars := ["loop.example/s02884/impl.roundWords"], fn := fun _ => fun
  | [d, g1] => { results := [.lit (.bool true)], args := [d], vars := [g1] }
  | _ => none }
def fnExactSha256Row : OpenClaim := { program := "ytcacdneodpoboaadoor", sum := "0cc0924918ae846fb0f5bb15f9c895f4c996e0b510b220cbfb88a9abedba46cc", func := "loop.example/s02884/laws.FnExactSha256", spec := "fnExactSha256", unfollowed := true, recurses := true, named := ["loop.example/s02884/impl.roundWords"], apart := false, laid := [("loop.example/s02884/impl.roundWords", laid_loop_example_s02884_impl_roundWords)] }
def FnExactSha256Said : Prop := fnExactSha256Row.holds Tryd.pinned (OpenSpec.ofChange fnExactSha256Spec)

/-- ITS FALSE NEIGHBOUR: 'it returns false'. Refute it at one input. -/
def fnExactSha256Wrong : ChangeSpec := { name := "fnExactSha256", vars := ["loop.example/s02884/impl.roundWords"], fn := fun _ => fun
  | [d, g1] => { results := [.lit (.bool false)], args := [d], vars := [g1] }
  | _ => none }
def FnExactSha256WrongFalsely : Prop := fnExactSha256Row.holds Tryd.pinned (OpenSpec.ofChange fnExactSha256Wrong)

/-- 'laws.FnExactDigest': WHATEVER THE INPUT: true; the input reads as it did. -/
def fnExactDigestSpec : ChangeSpec := { name := "fnExactDigest", vars := ["loop.example/s02884/impl.roundWords"], fn := fun _ => fun
  | [d1, d2, g1] => { results := [.lit (.bool true)], args := [d1, d2], vars := [g1] }
  | _ => none }
def fnExactDigestRow : OpenClaim := { program := "ytcacdneodpoboaadoor", sum := "0cc0924918ae846fb0f5bb15f9c895f4c996e0b510b220cbfb88a9abedba46cc", func := "loop.example/s02884/laws.FnExactDigest", spec := "fnExactDigest", unfollowed := true, recurses := true, named := ["loop.example/s02884/impl.roundWords"], apart := false, laid := [("loop.example/s02884/impl.roundWords", laid_loop_example_s02884_impl_roundWords)] }
def FnExactDigestSaid : Prop := fnExactDigestRow.holds Tryd.pinned (OpenSpec.ofChange fnExactDigestSpec)

/-- ITS FALSE NEIGHBOUR: 'it returns false'. Refute it at one input. -/
def fnExactDigestWrong : ChangeSpec := { name := "fnExactDigest", vars := ["loop.example/s02884/impl.roundWords"], fn := fun _ => fun
  | [d1, d2, g1] => { results := [.lit (.bool false)], args := [d1, d2], vars := [g1] }
  | _ => none }
def FnExactDigestWrongFalsely : Prop := fnExactDigestRow.holds Tryd.pinned (OpenSpec.ofChange fnExactDigestWrong)

/-- 'laws.FnExactLeaf': WHATEVER THE INPUT: true; the input reads as it did. -/
def fnExactLeafSpec : ChangeSpec := { name := "fnExactLeaf", vars := ["loop.example/s02884/impl.roundWords"], fn := fun _ => fun
  | [d1, d2, g1] => { results := [.lit (.bool true)], args := [d1, d2], vars := [g1] }
  | _ => none }
def fnExactLeafRow : OpenClaim := { program := "ytcacdneodpoboaadoor", sum := "0cc0924918ae846fb0f5bb15f9c895f4c996e0b510b220cbfb88a9abedba46cc", func := "loop.example/s02884/laws.FnExactLeaf", spec := "fnExactLeaf", unfollowed := true, recurses := true, named := ["loop.example/s02884/impl.roundWords"], apart := false, laid := [("loop.example/s02884/impl.roundWords", laid_loop_example_s02884_impl_roundWords)] }
def FnExactLeafSaid : Prop := fnExactLeafRow.holds Tryd.pinned (OpenSpec.ofChange fnExactLeafSpec)

/-- ITS FALSE NEIGHBOUR: 'it returns false'. Refute it at one input. -/
def fnExactLeafWrong : ChangeSpec := { name := "fnExactLeaf", vars := ["loop.example/s02884/impl.roundWords"], fn := fun _ => fun
  | [d1, d2, g1] => { results := [.lit (.bool false)], args := [d1, d2], vars := [g1] }
  | _ => none }
def FnExactLeafWrongFalsely : Prop := fnExactLeafRow.holds Tryd.pinned (OpenSpec.ofChange fnExactLeafWrong)

/-- 'laws.FnExactNode': WHATEVER THE INPUT: true; the input reads as it did. -/
def fnExactNodeSpec : ChangeSpec := { name := "fnExactNode", vars := ["loop.example/s02884/impl.roundWords"], fn := fun _ => fun
  | [d1, d2, d3, g1] => { results := [.lit (.bool true)], args := [d1, d2, d3], vars := [g1] }
  | _ => none }
def fnExactNodeRow : OpenClaim := { program := "ytcacdneodpoboaadoor", sum := "0cc0924918ae846fb0f5bb15f9c895f4c996e0b510b220cbfb88a9abedba46cc", func := "loop.example/s02884/laws.FnExactNode", spec := "fnExactNode", unfollowed := true, recurses := true, named := ["loop.example/s02884/impl.roundWords"], apart := false, laid := [("loop.example/s02884/impl.roundWords", laid_loop_example_s02884_impl_roundWords)] }
def FnExactNodeSaid : Prop := fnExactNodeRow.holds Tryd.pinned (OpenSpec.ofChange fnExactNodeSpec)

/-- ITS FALSE NEIGHBOUR: 'it returns false'. Refute it at one input. -/
def fnExactNodeWrong : ChangeSpec := { name := "fnExactNode", vars := ["loop.example/s02884/impl.roundWords"], fn := fun _ => fun
  | [d1, d2, d3, g1] => { results := [.lit (.bool false)], args := [d1, d2, d3], vars := [g1] }
  | _ => none }
def FnExactNodeWrongFalsely : Prop := fnExactNodeRow.holds Tryd.pinned (OpenSpec.ofChange fnExactNodeWrong)

/-- 'laws.FnExactCheckPath': WHATEVER THE INPUT: true; the input reads as it did. -/
def fnExactCheckPathSpec : ChangeSpec := { name := "fnExactCheckPath", vars := ["loop.example/s02884/impl.roundWords"], fn := fun _ => fun
  | [d1, d2, d3, d4, d5, d6, g1] => { results := [.lit (.bool true)], args := [d1, d2, d3, d4, d5, d6], vars := [g1] }
  | _ => none }
def fnExactCheckPathRow : OpenClaim := { program := "ytcacdneodpoboaadoor", sum := "0cc0924918ae846fb0f5bb15f9c895f4c996e0b510b220cbfb88a9abedba46cc", func := "loop.example/s02884/laws.FnExactCheckPath", spec := "fnExactCheckPath", unfollowed := true, recurses := true, named := ["loop.example/s02884/impl.roundWords"], apart := false, laid := [("loop.example/s02884/impl.roundWords", laid_loop_example_s02884_impl_roundWords)] }
def FnExactCheckPathSaid : Prop := fnExactCheckPathRow.holds Tryd.pinned (OpenSpec.ofChange fnExactCheckPathSpec)

/-- ITS FALSE NEIGHBOUR: 'it returns false'. Refute it at one input. -/
def fnExactCheckPathWrong : ChangeSpec := { name := "fnExactCheckPath", vars := ["loop.example/s02884/impl.roundWords"], fn := fun _ => fun
  | [d1, d2, d3, d4, d5, d6, g1] => { results := [.lit (.bool false)], args := [d1, d2, d3, d4, d5, d6], vars := [g1] }
  | _ => none }
def FnExactCheckPathWrongFalsely : Prop := fnExactCheckPathRow.holds Tryd.pinned (OpenSpec.ofChange fnExactCheckPathWrong)

/-- 'laws.FnExactCheckProof': WHATEVER THE INPUT: true; the input reads as it did. -/
def fnExactCheckProofSpec : ChangeSpec := { name := "fnExactCheckProof", vars := ["loop.example/s02884/impl.roundWords"], fn := fun _ => fun
  | [d1, d2, d3, d4, d5, d6, g1] => { results := [.lit (.bool true)], args := [d1, d2, d3, d4, d5, d6], vars := [g1] }
  | _ => none }
def fnExactCheckProofRow : OpenClaim := { program := "ytcacdneodpoboaadoor", sum := "0cc0924918ae846fb0f5bb15f9c895f4c996e0b510b220cbfb88a9abedba46cc", func := "loop.example/s02884/laws.FnExactCheckProof", spec := "fnExactCheckProof", unfollowed := true, recurses := true, named := ["loop.example/s02884/impl.roundWords"], apart := false, laid := [("loop.example/s02884/impl.roundWords", laid_loop_example_s02884_impl_roundWords)] }
def FnExactCheckProofSaid : Prop := fnExactCheckProofRow.holds Tryd.pinned (OpenSpec.ofChange fnExactCheckProofSpec)

/-- ITS FALSE NEIGHBOUR: 'it returns false'. Refute it at one input. -/
def fnExactCheckProofWrong : ChangeSpec := { name := "fnExactCheckProof", vars := ["loop.example/s02884/impl.roundWords"], fn := fun _ => fun
  | [d1, d2, d3, d4, d5, d6, g1] => { results := [.lit (.bool false)], args := [d1, d2, d3, d4, d5, d6], vars := [g1] }
  | _ => none }
def FnExactCheckProofWrongFalsely : Prop := fnExactCheckProofRow.holds Tryd.pinned (OpenSpec.ofChange fnExactCheckProofWrong)

/- THE SECOND FORM. 'bulk': how many values and letters a reading holds, each counted each time it is reached (what is shared counts as often as it is met; a slice's spare places count too). A statement '..UptoSaid' is the law's where the arguments, and the package variables that the reading takes, are together of bulk at most 1048576: NARROWER than '..Said'. Prove '..Said' where nothing that the law and all that it calls make is longer than what came in: it says more and counts as full. Else prove '..UptoSaid'. A law counts once. -/
mutual
def uptoBulk {H : Type} : DataW H → Nat
  | .lit (.string bytes) => bytes.length + 1
  | .lit _ => 1
  | .nil => 1
  | .ptr d => uptoBulk d + 1
  | .slice elems spare => uptoBulkAll elems + uptoBulkAll spare + 1
  | .agg parts => uptoBulkAll parts + 1
  | .iface _ d => uptoBulk d + 1
  | .map entries => uptoBulkEntries entries + 1
  | .held _ => 1
def uptoBulkAll {H : Type} : List (DataW H) → Nat
  | [] => 0
  | d :: r => uptoBulk d + uptoBulkAll r
def uptoBulkEntries {H : Type} : List (Lit × DataW H) → Nat
  | [] => 0
  | x :: r => uptoBulkEntry x + uptoBulkEntries r
def uptoBulkEntry {H : Type} : Lit × DataW H → Nat
  | (.string bytes, d) => bytes.length + uptoBulk d + 1
  | (_, d) => uptoBulk d + 1
 end
def uptoSmall : (H : Type) → List (DataW H) → Bool := fun _ ds => decide (uptoBulkAll ds ≤ 1048576)
def OpenSpec.upto (s : _root_.Go.ChangeSpec) : _root_.Go.OpenSpec := { _root_.Go.OpenSpec.ofChange s with cond := some uptoSmall }

/-- 'laws.FnExactSha256', WHERE WHAT IT READS IS OF BULK AT MOST 1048576: true; the input reads as it did. -/
def fnExactSha256UptoRow : OpenClaim := { program := "ytcacdneodpoboaadoor", sum := "0cc0924918ae846fb0f5bb15f9c895f4c996e0b510b220cbfb88a9abedba46cc", func := "loop.example/s02884/laws.FnExactSha256", spec := "fnExactSha256", unfollowed := true, recurses := true, named := ["loop.example/s02884/impl.roundWords"], apart := false, laid := [("loop.example/s02884/impl.roundWords", laid_loop_example_s02884_impl_roundWords)], narrowed := true }
def FnExactSha256UptoSaid : Prop := fnExactSha256UptoRow.holds Tryd.pinned (OpenSpec.upto fnExactSha256Spec)

/-- 'laws.FnExactDigest', WHERE WHAT IT READS IS OF BULK AT MOST 1048576: true; the input reads as it did. -/
def fnExactDigestUptoRow : OpenClaim := { program := "ytcacdneodpoboaadoor", sum := "0cc0924918ae846fb0f5bb15f9c895f4c996e0b510b220cbfb88a9abedba46cc", func := "loop.example/s02884/laws.FnExactDigest", spec := "fnExactDigest", unfollowed := true, recurses := true, named := ["loop.example/s02884/impl.roundWords"], apart := false, laid := [("loop.example/s02884/impl.roundWords", laid_loop_example_s02884_impl_roundWords)], narrowed := true }
def FnExactDigestUptoSaid : Prop := fnExactDigestUptoRow.holds Tryd.pinned (OpenSpec.upto fnExactDigestSpec)

/-- 'laws.FnExactLeaf', WHERE WHAT IT READS IS OF BULK AT MOST 1048576: true; the input reads as it did. -/
def fnExactLeafUptoRow : OpenClaim := { program := "ytcacdneodpoboaadoor", sum := "0cc0924918ae846fb0f5bb15f9c895f4c996e0b510b220cbfb88a9abedba46cc", func := "loop.example/s02884/laws.FnExactLeaf", spec := "fnExactLeaf", unfollowed := true, recurses := true, named := ["loop.example/s02884/impl.roundWords"], apart := false, laid := [("loop.example/s02884/impl.roundWords", laid_loop_example_s02884_impl_roundWords)], narrowed := true }
def FnExactLeafUptoSaid : Prop := fnExactLeafUptoRow.holds Tryd.pinned (OpenSpec.upto fnExactLeafSpec)

/-- 'laws.FnExactNode', WHERE WHAT IT READS IS OF BULK AT MOST 1048576: true; the input reads as it did. -/
def fnExactNodeUptoRow : OpenClaim := { program := "ytcacdneodpoboaadoor", sum := "0cc0924918ae846fb0f5bb15f9c895f4c996e0b510b220cbfb88a9abedba46cc", func := "loop.example/s02884/laws.FnExactNode", spec := "fnExactNode", unfollowed := true, recurses := true, named := ["loop.example/s02884/impl.roundWords"], apart := false, laid := [("loop.example/s02884/impl.roundWords", laid_loop_example_s02884_impl_roundWords)], narrowed := true }
def FnExactNodeUptoSaid : Prop := fnExactNodeUptoRow.holds Tryd.pinned (OpenSpec.upto fnExactNodeSpec)

/-- 'laws.FnExactCheckPath', WHERE WHAT IT READS IS OF BULK AT MOST 1048576: true; the input reads as it did. -/
def fnExactCheckPathUptoRow : OpenClaim := { program := "ytcacdneodpoboaadoor", sum := "0cc0924918ae846fb0f5bb15f9c895f4c996e0b510b220cbfb88a9abedba46cc", func := "loop.example/s02884/laws.FnExactCheckPath", spec := "fnExactCheckPath", unfollowed := true, recurses := true, named := ["loop.example/s02884/impl.roundWords"], apart := false, laid := [("loop.example/s02884/impl.roundWords", laid_loop_example_s02884_impl_roundWords)], narrowed := true }
def FnExactCheckPathUptoSaid : Prop := fnExactCheckPathUptoRow.holds Tryd.pinned (OpenSpec.upto fnExactCheckPathSpec)

/-- 'laws.FnExactCheckProof', WHERE WHAT IT READS IS OF BULK AT MOST 1048576: true; the input reads as it did. -/
def fnExactCheckProofUptoRow : OpenClaim := { program := "ytcacdneodpoboaadoor", sum := "0cc0924918ae846fb0f5bb15f9c895f4c996e0b510b220cbfb88a9abedba46cc", func := "loop.example/s02884/laws.FnExactCheckProof", spec := "fnExactCheckProof", unfollowed := true, recurses := true, named := ["loop.example/s02884/impl.roundWords"], apart := false, laid := [("loop.example/s02884/impl.roundWords", laid_loop_example_s02884_impl_roundWords)], narrowed := true }
def FnExactCheckProofUptoSaid : Prop := fnExactCheckProofUptoRow.holds Tryd.pinned (OpenSpec.upto fnExactCheckProofSpec)

end Rows
end Go.Proofs.YtcacdneodpoboaaDoor
