/- The row of the law FnExactTreeOK: out of its pure statement, to be proved apart ('FnExactTreeOK.Pure0'), the printed contract and the claim's form; made by row.py (ours). No condition. -/
import Derived.Test.YtcacdneodpoboaaRows
import Derived.Test.YtcacdneodpoboaaLx5
import Derived.Test.YtcacdneodpoboaaOpen
import Derived.WalkKit
import Derived.ProofKit
import Derived.OpenShut
import Derived.ShutString
import Derived.ChangeOld
import Derived.Below
import Derived.SizedLaws
set_option linter.unusedVariables false
set_option linter.unusedSimpArgs false
namespace Go.Proofs.Ytcacdneodpoboaa.fnExactTreeOK
open Go.ChangeShapes Go.WideShapes Go.ChangeAt Go.RowKit Go.Proofs.Ytcacdneodpoboaa Go.Proofs.Ytcacdneodpoboaa.L Go.Proofs.YtcacdneodpoboaaW.PrintWords
open Go.ChangeMaps (open_string shut_string)
/-- THE ONE PURE STATEMENT of the law: no memory, no Go. -/
def Pure0 : Prop := ∀ (a0 : Int) (a1_0 : Int) (l1_1 : List ByteArray), (Lit.int .i64 a0).wf = true → (Lit.int .i64 a1_0).wf = true → l1_1.length ≤ maxLen → (∀ y ∈ l1_1, y.size ≤ maxLen) → ∃ k, laws_FnExactTreeOK.f k a0 a1_0 l1_1 = some true
theorem own : ownKnob Try.prog.godebug = none := by kernel_rfl
theorem laidOut : laidOutB Try.prog = true := by kernel_rfl
set_option maxRecDepth 100000 in
theorem lifted (Q : Pure0) (os : Os) (started : os.Started) (H : Type) (enc : TypeId × Value → H) :
    ReturnsInHanded {} Try.checked os 6 .any (Rows.fnExactTreeOKSpec.pre6 enc Try.prog Try.f6 Rows.fnExactTreeOKRow.domain false) (Rows.fnExactTreeOKSpec.post enc Try.prog Try.f6 false true false false) := by
  refine returnsInHanded_of_change (C := Try.checked) own started (by kernel_rfl) Try.func6
    (ChangeSpec.witness6 (enc := enc) (C := Try.checked) false ⟨#[], #[.int .i64 0, .agg #[.int .i64 0, .slice none 0 0]], []⟩ 8 (by kernel_rfl) (by kernel_rfl) (by kernel_rfl) (by kernel_rfl)) ?_
  intro W base args ds gs before hval0 hW hcnd _
  have hval : ∀ (j : Nat) t v, Try.f6.params[j]? = some t → args[j]? = some v → Value.okWide Try.prog W .any base t v := hval0
  have hW' := hW
  obtain ⟨p, q, hA0, hV, rfl, hfz, hnd⟩ := hW
  have hA : DataW.TrodAll enc Try.prog W 0 (fun _ => true) true Try.f6.params.toList args.toList ds p := hA0
  rw [Try.params6] at hA hval
  obtain ⟨v0, vs0, d0, ds0, p0, q0, hargs, rfl, rfl, h0, r0⟩ := trodAll_cons hA
  obtain ⟨v1, vs1, d1, ds1, p1, q1, rfl, rfl, rfl, h1, r1⟩ := trodAll_cons r0
  obtain ⟨rfl, rfl, rfl⟩ := trodAll_nil r1
  obtain rfl : args = #[v0, v1] := by cases args; simp_all
  obtain ⟨rfl, rfl⟩ := trodVars_none hV
  obtain ⟨a0, rfl, rfl, rfl, w0⟩ := open_int Try.underlying3 (hval 0 3 v0 rfl rfl) h0
  have k1 := h1
  have lt1 : ∀ x ∈ p1, x.block < W.heap.size := by obtain ⟨m, hm⟩ := k1; exact DataW.trod_lt m _ _ _ hm
  obtain ⟨cs1, rfl, hsz1⟩ := okWide_struct Try.underlying28 (hval 1 28 v1 rfl rfl)
  obtain ⟨fuel1, hf1⟩ := h1
  obtain ⟨x1, hK1, hg1⟩ := (opens_struct Try.underlying28 (by kernel_rfl) (opensF_cons _ rfl rfl (by kernel_rfl) (opens_int Try.underlying3) (opensF_last _ rfl rfl (by kernel_rfl) (opens_slice Try.underlying26 (by kernel_rfl) (opens_string Try.underlying9))))) H enc W fuel1 cs1.toList _ (by simpa [Value.cells] using hf1)
  obtain ⟨e1_, f1_, hcs1, rfl, ⟨A1_1, c1_1, rfl, hc1_1, hr1_1⟩⟩ := hK1
  obtain rfl : cs1 = #[.int .i64 x1.1, .slice A1_1 x1.2.length c1_1] := by
    have h_ := congrArg List.toArray hcs1
    simpa using h_
  clear hcs1 hsz1
  clear hA0 hval0
  obtain ⟨k, hk⟩ := Q a0 (x1.1) (x1.2) w0 hg1.1 (len_le hr1_1) hg1.2
  refine (laws_FnExactTreeOK.calls k a0 (x1.1) A1_1 c1_1 (x1.2) true W hr1_1 hc1_1 hk).mono fun e W' he => ?_
  obtain ⟨rfl, bel0⟩ := he
  have bel : Below W.heap.size W W' := bel0
  exact ⟨_, rfl, _, _, _, [], _, [], hW', trodAll_mk1 (shut_bool Try.underlying4 _), (trodAll_cons_mk (shut_int Try.underlying3 w0) (trodAll_cons_mk (Below.trod laidOut (by kernel_rfl) (of_decide_eq_true (by kernel_rfl)) k1 bel lt1) trodAll_mk0)), rfl, bel.frame _, fun h => by cases h⟩
theorem over (Q : Pure0) : Rows.fnExactTreeOKRow.holds Try.pinned (OpenSpec.ofChange Rows.fnExactTreeOKSpec) :=
  OpenClaim.holds_of_wide 6 Try.f6 rfl rfl rfl rfl rfl rfl rfl ⟨rfl, rfl, rfl, rfl, rfl⟩ rfl rfl rfl rfl rfl (by kernel_rfl) Try.func6 (by kernel_rfl)
    (of_decide_eq_true (by kernel_rfl)) (by unfold Func.isWrapper; first | (rw [if_pos (by decide +kernel)]; kernel_rfl) | (rw [if_neg (by decide +kernel)]; exact ⟨rfl, rfl⟩))
    (fun os started H enc _ => lifted Q os started H enc)
end Go.Proofs.Ytcacdneodpoboaa.fnExactTreeOK
