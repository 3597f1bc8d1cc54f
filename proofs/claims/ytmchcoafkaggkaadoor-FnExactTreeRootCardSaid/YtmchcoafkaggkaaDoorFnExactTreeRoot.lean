/- The law FnExactTreeRoot: proved over the printed functions; then the row, and the tied card. -/
import Derived.Test.YtmchcoafkaggkaaDoorLx4
import Derived.Test.YtmchcoafkaggkaaDoorLx9
import Derived.Test.YtmchcoafkaggkaaDoorLx10
import Derived.Test.YtmchcoafkaggkaaDoorRowFnExactTreeRoot
import Derived.Test.YtmchcoafkaggkaaDoorTreeP
set_option linter.unusedVariables false
set_option linter.unusedSimpArgs false
namespace Go.Proofs.YtmchcoafkaggkaaDoor.Pure
open Go Go.RowKit Go.Proofs.YtmchcoafkaggkaaDoor Go.Proofs.YtmchcoafkaggkaaDoor.L Go.Proofs.YtmchcoafkaggkaaDoorW.PrintWords Go.Proofs.YtmchcoafkaggkaaDoorW.PrintMore Go.Proofs.YtmchcoafkaggkaaDoorW.PrintLast
/-- The peaks from i - 1 down, folded onto x. -/
def foldT (kind : Int) (l : List ByteArray) : Nat → ByteArray → ByteArray
  | 0, x => x
  | i + 1, x => foldT kind l i (nodeB kind (l.getD i ByteArray.empty) x)
theorem spec_fold (kind n : Int) (l : List ByteArray) (hl : l.length ≤ 1000000000) (hs : ∀ y ∈ l, y.size ≤ 32) : ∀ (i : Nat) (x : ByteArray), i ≤ l.length → x.size ≤ 32 →
    Ev (fun k => spec_TreeRoot.l0 k kind x ((i : Int) - 1) n l) (foldT kind l i x) := by
  intro i
  induction i with
  | zero =>
    intro x _ _
    refine Ev.step (f := fun _ => some x) (fun k => ?_) (Ev.now _)
    rw [spec_TreeRoot.l0, if_neg (by omega)]
  | succ i ih =>
    intro x hi hx
    have hil : i < l.length := by omega
    have w : wrap64 ((((i + 1 : Nat) : Int) - 1) - 1) = (i : Int) - 1 := by unfold wrap64; omega
    have e1 : (((i + 1 : Nat) : Int) - 1) = ((i : Nat) : Int) := by omega
    have e2 : l.getD i ByteArray.empty = l[i] := by simp [hil]
    refine Ev.step (f := fun k => (spec_Node.f k kind l[i] x).bind fun t => spec_TreeRoot.l0 k kind t ((i : Int) - 1) n l) (fun k => ?_) ?_
    · rw [spec_TreeRoot.l0, w, e1, if_pos (by omega), if_pos (by omega), if_pos (by omega), rdS l i hil]
    · have h1 := hs _ (List.getElem_mem hil)
      refine (spec_node kind l[i] x (by omega) (by omega)).bind ?_
      rw [foldT, e2]
      exact ih _ (by omega) (nodeB_size _ _ _)
theorem impl_fold (kind n : Int) (l : List ByteArray) (hl : l.length ≤ 1000000000) (hs : ∀ y ∈ l, y.size ≤ 32) : ∀ (i : Nat) (x : ByteArray), i ≤ l.length → x.size ≤ 32 →
    Ev (fun k => impl_TreeRoot.l0 k kind x ((i : Int) - 1) n l) (foldT kind l i x) := by
  intro i
  induction i with
  | zero =>
    intro x _ _
    refine Ev.step (f := fun _ => some x) (fun k => ?_) (Ev.now _)
    rw [impl_TreeRoot.l0, if_neg (by omega)]
  | succ i ih =>
    intro x hi hx
    have hil : i < l.length := by omega
    have w : wrap64 ((((i + 1 : Nat) : Int) - 1) - 1) = (i : Int) - 1 := by unfold wrap64; omega
    have e1 : (((i + 1 : Nat) : Int) - 1) = ((i : Nat) : Int) := by omega
    have e2 : l.getD i ByteArray.empty = l[i] := by simp [hil]
    have h1 := hs _ (List.getElem_mem hil)
    refine Ev.step (f := fun k => impl_TreeRoot.l0 k kind (nodeB kind l[i] x) ((i : Int) - 1) n l) (fun k => ?_) ?_
    · rw [impl_TreeRoot.l0, w, e1, if_pos (by omega), if_pos (by omega), if_pos (by omega), rdS l i hil, impl_node kind l[i] x (by omega) (by omega)]
      rfl
    · rw [foldT, e2]
      exact ih _ (by omega) (nodeB_size _ _ _)
/-- What TreeRoot answers. -/
def treeRoot (kind n : Int) (l : List ByteArray) : ByteArray :=
  if treeOk kind n l = true then (if l.length = 0 then dig kind (⟨#[]⟩ : ByteArray) else foldT kind l (l.length - 1) (l.getD (l.length - 1) ByteArray.empty)) else (⟨#[]⟩ : ByteArray)
theorem getD_mem32 (l : List ByteArray) (hs : ∀ y ∈ l, y.size ≤ 32) (h0 : ¬ l.length = 0) : l[l.length - 1].size ≤ 32 := hs _ (List.getElem_mem _)
theorem spec_treeRoot (kind n : Int) (l : List ByteArray) (hl : l.length ≤ 1000000000) : Ev (fun k => spec_TreeRoot.f k kind n l) (treeRoot kind n l) := by
  unfold spec_TreeRoot.f treeRoot
  refine (spec_treeOk kind n l (by omega)).bind ?_
  by_cases ht : treeOk kind n l = true
  · obtain ⟨_, _, hlen, hs⟩ := treeOk_facts ht
    simp only [if_pos ht]
    by_cases h0 : l.length = 0
    · simp only [if_pos (show (l.length : Int) = 0 by omega), if_pos h0]
      exact (spec_dig kind _ (by show (0 : Nat) ≤ _; omega)).bind (Ev.now _)
    · have w : wrap64 ((l.length : Int) - 1) = ((l.length - 1 : Nat) : Int) := by unfold wrap64; omega
      have w2 : wrap64 ((l.length : Int) - 2) = ((l.length - 1 : Nat) : Int) - 1 := by unfold wrap64; omega
      have e2 : l.getD (l.length - 1) ByteArray.empty = l[l.length - 1] := by simp [show l.length - 1 < l.length by omega]
      simp only [if_neg (show ¬ (l.length : Int) = 0 by omega), if_neg h0, w, w2, if_pos (show (0 : Int) ≤ ((l.length - 1 : Nat) : Int) by omega), if_pos (show ((l.length - 1 : Nat) : Int) < (l.length : Int) by omega), rdS l (l.length - 1) (by omega), e2]
      exact spec_fold kind n l hl hs _ _ (by omega) (getD_mem32 l hs h0)
  · simp only [if_neg ht]; exact Ev.now _
theorem impl_treeRoot (kind n : Int) (l : List ByteArray) (hl : l.length ≤ 1000000000) : Ev (fun k => impl_TreeRoot.f k kind n l) (treeRoot kind n l) := by
  unfold impl_TreeRoot.f treeRoot
  refine (impl_treeOk kind n l (by omega)).bind ?_
  by_cases ht : treeOk kind n l = true
  · obtain ⟨_, _, hlen, hs⟩ := treeOk_facts ht
    simp only [if_pos ht]
    by_cases h0 : l.length = 0
    · have w : wrap64 ((l.length : Int) - 1) = -1 := by unfold wrap64; omega
      simp only [w, if_pos (show (-1 : Int) < 0 by decide), if_pos h0, impl_dig kind (⟨#[]⟩ : ByteArray) (by show (0 : Nat) ≤ _; omega)]
      exact Ev.now _
    · have w : wrap64 ((l.length : Int) - 1) = ((l.length - 1 : Nat) : Int) := by unfold wrap64; omega
      have w2 : wrap64 (((l.length - 1 : Nat) : Int) - 1) = ((l.length - 1 : Nat) : Int) - 1 := by unfold wrap64; omega
      have e2 : l.getD (l.length - 1) ByteArray.empty = l[l.length - 1] := by simp [show l.length - 1 < l.length by omega]
      simp only [w, w2, if_neg (show ¬ ((l.length - 1 : Nat) : Int) < 0 by omega), if_neg h0, if_pos (show (0 : Int) ≤ ((l.length - 1 : Nat) : Int) by omega), if_pos (show ((l.length - 1 : Nat) : Int) < (l.length : Int) by omega), rdS l (l.length - 1) (by omega), e2]
      exact impl_fold kind n l hl hs _ _ (by omega) (getD_mem32 l hs h0)
  · simp only [if_neg ht]; exact Ev.now _
theorem fnExactTreeRoot_pure : fnExactTreeRoot.Pure0 := by
  intro kind n l _ _ hl hs
  have hl' : l.length ≤ 9223372036854775807 := by unfold maxLen at hl; omega
  have h : Ev (fun k => laws_FnExactTreeRoot.f k kind n l) true := by
    unfold laws_FnExactTreeRoot.f
    refine (szT_ev n l hl' (fun y hy => by have := hs y hy; unfold maxLen at this; omega)).bind ?_
    by_cases hc : (wtS l : Int) ≤ 1048576
    · simp only [if_pos hc, if_neg (show ¬ (1048576 - (wtS l : Int) < 0) by omega)]
      have hle : l.length ≤ 1048576 := by unfold wtS at hc; omega
      refine (toT_ev n l hle).bind ?_
      refine (spec_treeRoot kind n l (by omega)).bind ?_
      refine (toT_ev n l hle).bind ?_
      refine (impl_treeRoot kind n l (by omega)).bind ?_
      simp only [if_true]
      refine (toT_ev n l hle).bind ?_
      refine (eqT_ev n l hl').bind ?_
      simp only [if_true]
      exact Ev.now _
    · simp only [if_neg hc, if_pos (show (-1 : Int) < 0 by decide)]
      exact Ev.now _
  exact h.rounds
end Go.Proofs.YtmchcoafkaggkaaDoor.Pure
namespace Go.Proofs.YtmchcoafkaggkaaDoor
theorem fnExactTreeRoot_holds : Rows.FnExactTreeRootCardSaid := fnExactTreeRoot.card Pure.fnExactTreeRoot_pure
#print axioms fnExactTreeRoot_holds
end Go.Proofs.YtmchcoafkaggkaaDoor
