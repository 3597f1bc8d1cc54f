/- A tree's soundness (TreeOK): the reference's function and the program's tell the same plain function; conditions: bounds on lengths. -/
import Derived.Test.YtmchcoafkaggkaaDoorLx1
import Derived.Test.YtmchcoafkaggkaaDoorLx4
import Derived.Test.YtmchcoafkaggkaaDoorLx5
import Derived.Test.YtmchcoafkaggkaaDoorLx6
import Derived.Test.YtmchcoafkaggkaaDoorMerkP
import Derived.Test.YtmchcoafkaggkaaDoorHelpS
set_option linter.unusedVariables false
set_option linter.unusedSimpArgs false
namespace Go.Proofs.YtmchcoafkaggkaaDoor.Pure
open Go Go.RowKit Go.Proofs.YtmchcoafkaggkaaDoor Go.Proofs.YtmchcoafkaggkaaDoor.L Go.Proofs.YtmchcoafkaggkaaDoorW.PrintWords Go.Proofs.YtmchcoafkaggkaaDoorW.PrintMore Go.Proofs.YtmchcoafkaggkaaDoorW.PrintLast

/-- How many bits of n are 1: so many steps are enough. -/
def onesN : Nat → Nat → Nat
  | 0, _ => 0
  | d + 1, n => n % 2 + onesN d (n / 2)
theorem ones_le (d n : Nat) : onesN d n ≤ d := by
  induction d generalizing n with
  | zero => exact Nat.le_refl _
  | succ d ih => simp only [onesN]; have := ih (n / 2); omega
set_option maxRecDepth 100000 in
theorem onesCount_small : ∀ n : Nat, n < 2001 → bits_OnesCount64.f (n : Int) = some ((onesN 11 n : Nat) : Int) := by decide +kernel

/-- The width of a kind. -/
def wid (kind : Int) : Nat := if kind = 0 then 32 else if kind = 1 then 1 else 0
theorem impl_width_eq (kind : Int) : impl_width.f kind = some ((wid kind : Nat) : Int) := by
  unfold impl_width.f wid
  split
  · rfl
  · split <;> rfl

theorem widths_l0 (e : Nat) : ∀ (kind : Int) (l : List ByteArray) (i : Nat), i + e = l.length → l.length ≤ 9223372036854775807 →
    Ev (fun k => impl_widths.l0 k kind l l.length i) ((l.drop i).all (fun s => s.size == wid kind) && decide (0 < wid kind)) := by
  induction e with
  | zero =>
    intro kind l i hi hl
    have hd : l.drop i = [] := List.drop_eq_nil_of_le (by omega)
    rw [hd]
    refine Ev.step (f := fun _ => some (decide ((wid kind : Int) > 0))) (fun k => by rw [impl_widths.l0, if_neg (by omega), impl_width_eq]; rfl) ?_
    have : decide ((wid kind : Int) > 0) = decide (0 < wid kind) := by
      by_cases h : 0 < wid kind
      · rw [decide_eq_true h, decide_eq_true (by omega)]
      · rw [decide_eq_false h, decide_eq_false (by omega)]
    rw [this]
    exact Ev.now _
  | succ e ih =>
    intro kind l i hi hl
    have hil : i < l.length := by omega
    have hd : l.drop i = l[i] :: l.drop (i + 1) := List.drop_eq_getElem_cons hil
    rw [hd]
    simp only [List.all_cons]
    by_cases hc : l[i].size = wid kind
    · refine Ev.step (fun k => by rw [impl_widths.l0, if_pos (by omega), if_pos (by omega), if_pos (by omega), rdS l i hil, impl_width_eq, Option.bind_some, if_pos (by omega), wsucc i (by omega)]) ?_
      rw [show (l[i].size == wid kind) = true from beq_iff_eq.2 hc, Bool.true_and]
      exact ih kind l (i + 1) (by omega) hl
    · refine Ev.step (f := fun _ => some false) (fun k => by rw [impl_widths.l0, if_pos (by omega), if_pos (by omega), if_pos (by omega), rdS l i hil, impl_width_eq, Option.bind_some, if_neg (by omega)]) ?_
      rw [show (l[i].size == wid kind) = false from beq_eq_false_iff_ne.2 hc, Bool.false_and, Bool.false_and]
      exact Ev.now _
theorem widths_ev (kind : Int) (l : List ByteArray) (hl : l.length ≤ 9223372036854775807) :
    Ev (fun k => impl_widths.f k kind l) (l.all (fun s => s.size == wid kind) && decide (0 < wid kind)) := by
  have := widths_l0 l.length kind l 0 (by omega) hl
  exact this

/-- The document's TreeOK. -/
def treeOk (kind n : Int) (l : List ByteArray) : Bool :=
  decide (0 < wid kind) && decide (0 ≤ n ∧ n ≤ 2000) && decide (l.length = onesN 11 n.toNat) && l.all (fun s => s.size == wid kind)

theorem impl_treeOk (kind n : Int) (l : List ByteArray) (hl : l.length ≤ 9223372036854775807) : Ev (fun k => impl_TreeOK.f k kind n l) (treeOk kind n l) := by
  unfold impl_TreeOK.f treeOk
  simp only [impl_width_eq, Option.bind_some]
  by_cases hw : 0 < wid kind
  · simp only [if_pos (show (wid kind : Int) > 0 by omega), decide_eq_true hw, Bool.true_and]
    by_cases h0 : 0 ≤ n
    · simp only [if_pos (show n ≥ 0 from h0)]
      by_cases h1 : n ≤ 2000
      · simp only [if_pos h1, decide_eq_true (And.intro h0 h1), Bool.true_and]
        obtain ⟨m, rfl⟩ : ∃ m : Nat, n = m := ⟨n.toNat, by omega⟩
        have hm : IntKind.u64.wrap (m : Int) = m := by simp [IntKind.wrap, IntKind.bits, IntKind.signed]; omega
        have hc : bits_OnesCount.f (m : Int) = some ((onesN 11 m : Nat) : Int) := by unfold bits_OnesCount.f; rw [onesCount_small m (by omega)]; rfl
        simp only [hm, hc, Option.bind_some, Int.toNat_natCast]
        by_cases he : l.length = onesN 11 m
        · simp only [if_pos (show (l.length : Int) = ((onesN 11 m : Nat) : Int) by omega), decide_eq_true he, Bool.true_and]
          have := (widths_ev kind l hl).bind (f := fun _ b => some b) (Ev.now _)
          rw [decide_eq_true hw, Bool.and_true] at this
          exact this
        · simp only [if_neg (show ¬ (l.length : Int) = ((onesN 11 m : Nat) : Int) by omega), decide_eq_false he, Bool.false_and]
          exact Ev.now _
      · simp only [if_neg h1, decide_eq_false (show ¬ (0 ≤ n ∧ n ≤ 2000) from fun h => h1 h.2), Bool.false_and]
        exact Ev.now _
    · simp only [if_neg (show ¬ n ≥ 0 from h0), decide_eq_false (show ¬ (0 ≤ n ∧ n ≤ 2000) from fun h => h0 h.1), Bool.false_and]
      exact Ev.now _
  · simp only [if_neg (show ¬ (wid kind : Int) > 0 by omega), decide_eq_false hw, Bool.false_and]
    exact Ev.now _

theorem spec_ones (d : Nat) : ∀ (kind : Int) (c n : Nat) (n0 : Int) (l : List ByteArray) (r : Bool), n < 2 ^ d → d ≤ 60 → c + d ≤ 1000 →
    Ev (fun k => spec_TreeOK.l1 k kind ((c + onesN d n : Nat) : Int) l l.length 0 n0 l) r → Ev (fun k => spec_TreeOK.l0 k kind c n n0 l) r := by
  induction d with
  | zero =>
    intro kind c n n0 l r hn hd hc h
    have : n = 0 := by omega
    subst this
    rw [show c + onesN 0 0 = c from rfl] at h
    exact Ev.step (fun k => by rw [spec_TreeOK.l0, if_neg (by omega)]) h
  | succ d ih =>
    intro kind c n n0 l r hn hd hc h
    by_cases hz : n = 0
    · subst hz
      have e : ∀ d, onesN d 0 = 0 := fun d => by
        induction d with
        | zero => rfl
        | succ d ih => simp [onesN, ih]
      rw [e, Nat.add_zero] at h
      exact Ev.step (fun k => by rw [spec_TreeOK.l0, if_neg (by omega)]) h
    · have hlt : n < 9223372036854775808 := by
        have : (2 : Nat) ^ (d + 1) ≤ 2 ^ 60 := Nat.pow_le_pow_right (by decide) (by omega)
        omega
      have e1 : Int.tmod (n : Int) 2 = ((n % 2 : Nat) : Int) := (Int.ofNat_tmod n 2).symm
      have e2 : Int.tdiv (n : Int) 2 = ((n / 2 : Nat) : Int) := (Int.ofNat_tdiv n 2).symm
      have e3 : wrap64 ((c : Int) + ((n % 2 : Nat) : Int)) = ((c + n % 2 : Nat) : Int) := by unfold wrap64; omega
      have e4 : wrap64 ((n / 2 : Nat) : Int) = ((n / 2 : Nat) : Int) := by unfold wrap64; omega
      refine Ev.step (fun k => by rw [spec_TreeOK.l0, if_pos (by omega), e1, e2, e3, e4]) ?_
      refine ih kind (c + n % 2) (n / 2) n0 l r (by rw [Nat.pow_succ] at hn; omega) (by omega) (by omega) ?_
      have e5 : c + n % 2 + onesN d (n / 2) = c + onesN (d + 1) n := by simp only [onesN]; omega
      rw [e5]
      exact h

theorem spec_width_eq (kind : Int) (h : 0 < wid kind) : spec_l2Width.f kind = some ((wid kind : Nat) : Int) := by
  unfold spec_l2Width.f wid at *
  by_cases h0 : kind = 0
  · subst h0; rfl
  · by_cases h1 : kind = 1
    · subst h1; rfl
    · rw [if_neg h0, if_neg h1] at h; omega

theorem spec_l1 (e : Nat) : ∀ (kind : Int) (c : Nat) (n0 : Int) (l : List ByteArray) (i : Nat), 0 < wid kind → i + e = l.length → l.length ≤ 9223372036854775807 →
    Ev (fun k => spec_TreeOK.l1 k kind c l l.length i n0 l) ((l.drop i).all (fun s => s.size == wid kind) && decide (l.length = c)) := by
  induction e with
  | zero =>
    intro kind c n0 l i hw hi hl
    have hd : l.drop i = [] := List.drop_eq_nil_of_le (by omega)
    rw [hd]
    refine Ev.step (f := fun _ => some ((l.length : Int) == (c : Int))) (fun k => by rw [spec_TreeOK.l1, if_neg (by omega)]) ?_
    have : ((l.length : Int) == (c : Int)) = decide (l.length = c) := by
      by_cases h : l.length = c
      · rw [decide_eq_true h]; exact beq_iff_eq.2 (by omega)
      · rw [decide_eq_false h]; exact beq_eq_false_iff_ne.2 (by omega)
    rw [this]
    exact Ev.now _
  | succ e ih =>
    intro kind c n0 l i hw hi hl
    have hil : i < l.length := by omega
    have hd : l.drop i = l[i] :: l.drop (i + 1) := List.drop_eq_getElem_cons hil
    rw [hd]
    simp only [List.all_cons]
    by_cases hc : l[i].size = wid kind
    · refine Ev.step (fun k => by rw [spec_TreeOK.l1, if_pos (by omega), if_pos (by omega), if_pos (by omega), rdS l i hil, spec_width_eq kind hw, Option.bind_some, if_pos (by omega), wsucc i (by omega)]) ?_
      rw [show (l[i].size == wid kind) = true from beq_iff_eq.2 hc, Bool.true_and]
      exact ih kind c n0 l (i + 1) hw (by omega) hl
    · refine Ev.step (f := fun _ => some false) (fun k => by rw [spec_TreeOK.l1, if_pos (by omega), if_pos (by omega), if_pos (by omega), rdS l i hil, spec_width_eq kind hw, Option.bind_some, if_neg (by omega)]) ?_
      rw [show (l[i].size == wid kind) = false from beq_eq_false_iff_ne.2 hc, Bool.false_and, Bool.false_and]
      exact Ev.now _

theorem spec_kind (kind : Int) : spec_l2KindOK.f kind = some (decide (0 < wid kind)) := by
  unfold spec_l2KindOK.f wid
  by_cases h0 : kind = 0
  · subst h0; rfl
  · by_cases h1 : kind = 1
    · subst h1; rfl
    · rw [if_neg h0, if_neg h0, if_neg h1, show (kind == 1) = false from beq_eq_false_iff_ne.2 h1]; rfl

theorem spec_treeOk (kind n : Int) (l : List ByteArray) (hl : l.length ≤ 9223372036854775807) : Ev (fun k => spec_TreeOK.f k kind n l) (treeOk kind n l) := by
  have hbad : Ev (fun k => spec_TreeOK.j0 k kind true n l) false := Ev.step (f := fun _ => some false) (fun k => by rw [spec_TreeOK.j0, if_pos rfl]) (Ev.now _)
  unfold spec_TreeOK.f treeOk
  simp only [spec_kind, Option.bind_some]
  by_cases hw : 0 < wid kind
  · simp only [decide_eq_true hw, if_true, Bool.true_and]
    have hb : spec_l1Between.f n 0 2000 = some (decide (0 ≤ n ∧ n ≤ 2000)) := by
      unfold spec_l1Between.f
      by_cases h0 : 0 ≤ n
      · rw [if_pos h0]; simp [h0]
      · rw [if_neg h0]; simp [h0]
    simp only [hb, Option.bind_some]
    by_cases h : 0 ≤ n ∧ n ≤ 2000
    · obtain ⟨m, rfl⟩ : ∃ m : Nat, n = m := ⟨n.toNat, by omega⟩
      simp only [decide_eq_true h, Bool.not_true, Bool.true_and, Int.toNat_natCast]
      refine Ev.step (fun k => by rw [spec_TreeOK.j0, if_neg (by decide)]) ?_
      refine spec_ones 11 kind 0 m m l _ (by omega) (by omega) (by omega) ?_
      rw [Nat.zero_add, Bool.and_comm]
      exact spec_l1 l.length kind _ m l 0 hw (by omega) hl
    · simp only [decide_eq_false h, Bool.not_false, Bool.false_and]
      exact hbad
  · simp only [decide_eq_false hw, Bool.false_and, if_neg (show ¬ (false = true) by decide)]
    exact hbad


theorem treeOk_facts {kind n : Int} {l : List ByteArray} (h : treeOk kind n l = true) : 0 ≤ n ∧ n ≤ 2000 ∧ l.length = onesN 11 n.toNat ∧ ∀ y ∈ l, y.size ≤ 32 := by
  unfold treeOk at h
  simp only [Bool.and_eq_true, decide_eq_true_eq, List.all_eq_true, beq_iff_eq] at h
  refine ⟨h.1.1.2.1, h.1.1.2.2, h.1.2, fun y hy => ?_⟩
  have := h.2 y hy
  unfold wid at this
  split at this
  · omega
  · split at this <;> omega
theorem szT_ev (n : Int) (l : List ByteArray) (hl : l.length ≤ 9223372036854775807) (hs : ∀ y ∈ l, y.size ≤ 9223372036854775807) :
    Ev (fun k => laws_szTree.f k n l 1048576) (if (wtS l : Int) ≤ 1048576 then 1048576 - (wtS l : Int) else -1) := by
  unfold laws_szTree.f
  refine (szS_ev l 1048576 hl hs (by omega) (by omega)).bind (f := fun _ t => if t < 0 then some (-1) else some t) ?_
  by_cases hc : (wtS l : Int) ≤ 1048576
  · simp only [if_pos hc, if_neg (show ¬ (1048576 - (wtS l : Int) < 0) by omega)]; exact Ev.now _
  · simp only [if_neg hc]; exact Ev.now _
theorem toT_ev (n : Int) (l : List ByteArray) (hl : l.length ≤ 1048576) : Ev (fun k => laws_toTree.f k n l) (n, l) := by
  unfold laws_toTree.f
  exact (toS_ev l (by omega)).bind (f := fun _ t => some (n, t)) (Ev.now _)
theorem eqT_ev (n : Int) (l : List ByteArray) (hl : l.length ≤ 9223372036854775807) : Ev (fun k => laws_eqTree.f k n l n l) true := by
  unfold laws_eqTree.f
  simp only [if_true]
  exact (eqS_ev l hl).bind (f := fun _ t => if t = true then some true else some false) (Ev.now _)
end Go.Proofs.YtmchcoafkaggkaaDoor.Pure
