/- The texts that the proof of the law FnExactFsCrash rests on, part 7: printed functions with their contracts, words, plain laws; the last part ends in the statement itself. No condition but those that each theorem states. -/
import Derived.Test.YtmchcoafkaggkaaKFnExactFsCrash6
set_option linter.unusedVariables false
set_option linter.unusedSimpArgs false
section
set_option linter.unusedVariables false
set_option linter.unusedSimpArgs false
namespace Go.Proofs.Ytmchcoafkaggkaa.Pure
open Go Go.RowKit Go.Proofs.Ytmchcoafkaggkaa Go.Proofs.Ytmchcoafkaggkaa.L Go.Proofs.YtmchcoafkaggkaaW.PrintWords Go.Proofs.YtmchcoafkaggkaaW.PrintMore Go.Proofs.YtmchcoafkaggkaaW.PrintLast
theorem filesFrom_at (l : List File) (d : Nat) : ∀ i, filesFrom l d i = true → ∀ j, i ≤ j → j < i + d → fileOk l j = true := by
  induction d with
  | zero => intro i _ j h1 h2; omega
  | succ d ih =>
    intro i h j h1 h2
    rw [filesFrom, Bool.and_eq_true] at h
    by_cases e : j = i
    · subst e; exact h.1
    · exact ih (i + 1) h.2 j (by omega) (by omega)
theorem fsOk_facts {l : List File} {cap a b c : Int} (h : fsOk l cap a b c = true) : l.length ≤ 300 ∧ ∀ x ∈ l, 0 ≤ x.f2 ∧ x.f2 ≤ (x.f1.size : Int) := by
  unfold fsOk at h
  simp only [Bool.and_eq_true, decide_eq_true_eq] at h
  refine ⟨h.1.1.1.1, fun x hx => ?_⟩
  obtain ⟨i, hi, rfl⟩ := List.mem_iff_getElem.1 hx
  have := filesFrom_at l l.length 0 h.1.2 i (by omega) (by omega)
  rw [fileOk_at l i hi] at this
  simp only [Bool.and_eq_true, decide_eq_true_eq] at this
  exact this.1.2
/-- What FsCrash answers. -/
def crashed (l : List File) (cap cnt cr fa : Int) (t : List ByteArray) : List File × Int × Int × Int × Int × Bool :=
  if fsOk l cap cnt cr fa = true then (crashN l t l.length, cap, cnt, 0, 0, false) else ([], 0, 0, 0, 0, false)
theorem spec_crashed (l : List File) (cap cnt cr fa : Int) (u : Bool) (t : List ByteArray) (hl : l.length ≤ 9223372036854775807) (hsum : (sumF l : Int) ≤ 9223372036854775807) (hz : ∀ x ∈ l, x.f1.size ≤ 1048576) (ht : ∀ y ∈ t, y.size ≤ 1048576) (htl : t.length ≤ 1048576) :
    Ev (fun k => spec_FsCrash.f k l cap cnt cr fa u t) (crashed l cap cnt cr fa t) := by
  unfold spec_FsCrash.f crashed
  refine (spec_fsOk l cap cnt cr fa u hl hsum).bind ?_
  by_cases h : fsOk l cap cnt cr fa = true
  · obtain ⟨h3, hok⟩ := fsOk_facts h
    have hc : crashOk l t = true := by
      unfold crashOk
      simp only [Bool.and_eq_true, decide_eq_true_eq, List.all_eq_true]
      exact ⟨by omega, by omega, fun x hx => ⟨(hok x hx).1, (hok x hx).2, by have := hz x hx; omega⟩, fun y hy => by have := ht y hy; omega⟩
    simp only [if_pos h, if_pos hc]
    exact Ev.now _
  · simp only [if_neg h]; exact Ev.now _
theorem impl_crashed (l : List File) (cap cnt cr fa : Int) (u : Bool) (t : List ByteArray) (hl : l.length ≤ 9223372036854775807) (hsum : (sumF l : Int) ≤ 9223372036854775807) (hz : ∀ x ∈ l, x.f1.size ≤ 1048576) (ht : ∀ y ∈ t, y.size ≤ 1048576) (htl : t.length ≤ 1048576) (hnm : ∀ f ∈ l, f.f0.size ≤ 9223372036854775807) :
    Ev (fun k => impl_FsCrash.f k l cap cnt cr fa u t) (crashed l cap cnt cr fa t) := by
  unfold impl_FsCrash.f crashed
  refine (impl_fsOk l cap cnt cr fa u hl hsum hnm).bind ?_
  by_cases h : fsOk l cap cnt cr fa = true
  · obtain ⟨h3, hok⟩ := fsOk_facts h
    have hc : crashOk l t = true := by
      unfold crashOk
      simp only [Bool.and_eq_true, decide_eq_true_eq, List.all_eq_true]
      exact ⟨by omega, by omega, fun x hx => ⟨(hok x hx).1, (hok x hx).2, by have := hz x hx; omega⟩, fun y hy => by have := ht y hy; omega⟩
    simp only [if_pos h, if_pos hc]
    exact Ev.now _
  · simp only [if_neg h]; exact Ev.now _
theorem crashed_length (l : List File) (cap cnt cr fa : Int) (t : List ByteArray) : (crashed l cap cnt cr fa t).1.length ≤ l.length := by
  unfold crashed
  split
  · exact Nat.le_of_eq (crashN_length _ _ _)
  · exact Nat.zero_le _
theorem goodF {l : List LFile} (h : ∀ y ∈ l, fnExactFsCrash.good83 y) : ∀ y ∈ l, y.f0.size ≤ 9223372036854775807 ∧ y.f1.size ≤ 9223372036854775807 := fun y hy => by
  have := h y hy
  unfold fnExactFsCrash.good83 maxLen at this
  omega
theorem mem_wF (l : List LFile) (y : LFile) (h : y ∈ l) : y.f1.size ≤ wF l := by
  induction l with
  | nil => cases h
  | cons f l ih =>
    have h2 : wF (f :: l) = f.f0.size + f.f1.size + wF l := rfl
    rcases List.mem_cons.1 h with rfl | h
    · omega
    · have := ih h; omega
theorem mem_sumS (l : List ByteArray) (y : ByteArray) (h : y ∈ l) : y.size ≤ sumS l := by
  induction l with
  | nil => cases h
  | cons f l ih =>
    have h2 : sumS (f :: l) = f.size + sumS l := rfl
    rcases List.mem_cons.1 h with rfl | h
    · omega
    · have := ih h; omega
theorem fnExactFsCrash_pure : fnExactFsCrash.Pure0 := by
  intro l cap cnt cr fa u t hl hg _ _ _ _ htl hts
  have hl' : l.length ≤ 9223372036854775807 := by unfold maxLen at hl; omega
  have htl' : t.length ≤ 9223372036854775807 := by unfold maxLen at htl; omega
  have hs := goodF hg
  obtain ⟨mk, hmk⟩ := marks
  have h : Ev (fun k => laws_FnExactFsCrash.f k l cap cnt cr fa u t) true := by
    unfold laws_FnExactFsCrash.f
    refine (szFs_ev l cap cnt cr fa u 1048576 hl' hs (by omega) (by omega)).bind ?_
    by_cases hc : (wtF l : Int) ≤ 1048576
    · simp only [if_pos hc, if_neg (show ¬ (1048576 - (wtF l : Int) < 0) by omega)]
      refine (szS_ev t (1048576 - (wtF l : Int)) htl' (fun y hy => by have := hts y hy; unfold maxLen at this; omega) (by omega) (by omega)).bind ?_
      by_cases hd : (wtS t : Int) ≤ 1048576 - (wtF l : Int)
      · simp only [if_pos hd, if_neg (show ¬ (1048576 - (wtF l : Int) - (wtS t : Int) < 0) by omega)]
        have hle : l.length ≤ 1048576 := by unfold wtF at hc; omega
        have htle : t.length ≤ 1048576 := by unfold wtS at hd; omega
        have htz : ∀ y ∈ t, y.size ≤ 1048576 := fun y hy => by have := mem_sumS t y hy; unfold wtS at hd; omega
        have hsum : (sumF (l.map cvF) : Int) ≤ 9223372036854775807 := by
          have := sumF_le l
          unfold wtF at hc
          omega
        have hml : (l.map cvF).length ≤ 9223372036854775807 := by rw [List.length_map]; exact hl'
        have hmz : ∀ x ∈ l.map cvF, x.f1.size ≤ 1048576 := fun x hx => by
          obtain ⟨y, hy, rfl⟩ := List.mem_map.1 hx
          have h1 : (cvF y).f1.size = y.f1.size := rfl
          have := mem_wF l y hy
          unfold wtF at hc
          omega
        have hmn : ∀ f ∈ l.map cvF, f.f0.size ≤ 9223372036854775807 := fun f hf => by
          obtain ⟨y, hy, rfl⟩ := List.mem_map.1 hf
          exact (hs y hy).1
        have hmle : (l.map cvF).length ≤ 1048576 := by rw [List.length_map]; exact hle
        have ht := toFs_ev l cap cnt cr fa u (by omega)
        have htS := toS_ev t (by omega)
        obtain ⟨L, hL⟩ : ∃ L, l.map cvF = L := ⟨_, rfl⟩
        rw [hL] at hsum hml hmz hmn hmle ht
        have hspec := spec_crashed L cap cnt cr fa u t hml hsum hmz htz htle
        have himpl := impl_crashed L cap cnt cr fa u t hml hsum hmz htz htle hmn
        have hcl := crashed_length L cap cnt cr fa t
        obtain ⟨Z, b1, b2, b3, b4, b5, hZ⟩ : ∃ Z b1 b2 b3 b4 b5, crashed L cap cnt cr fa t = (Z, b1, b2, b3, b4, b5) := ⟨_, _, _, _, _, _, rfl⟩
        rw [hZ] at hspec himpl hcl
        simp only at hcl
        refine ht.bind ?_
        refine htS.bind ?_
        refine hspec.bind ?_
        refine ht.bind ?_
        refine htS.bind ?_
        refine himpl.bind ?_
        refine (eqFs_ev Z b1 b2 b3 b4 b5 (by omega)).bind ?_
        simp only [if_true]
        refine ht.bind ?_
        refine (eqFs_ev L cap cnt cr fa u hml).bind ?_
        simp only [if_true]
        refine htS.bind ?_
        refine (eqS_ev t htl').bind ?_
        simp only [if_true]
        refine (markFs_ev mk hmk L cap cnt cr fa u (by omega)).bind ?_
        refine (markS_ev mk hmk (1 + 3 * L.length) t (by omega)).bind ?_
        simp only [if_neg (show ¬ ((1 + 3 * L.length + t.length : Nat) : Int) < 0 by omega)]
        refine (eqFs_ev Z b1 b2 b3 b4 b5 (by omega)).bind ?_
        refine Ev.step (fun k => by rw [laws_FnExactFsCrash.j0, if_neg (by decide)]) ?_
        refine (markFs_ev mk hmk Z b1 b2 b3 b4 b5 (by omega)).bind ?_
        refine (heldFs_ev mk hmk Z.length b1 b2 b3 b4 b5 (by omega)).bind ?_
        simp only [if_neg (show ¬ ((1 + 3 * Z.length : Nat) : Int) < 0 by omega), if_true]
        refine ht.bind ?_
        refine htS.bind ?_
        refine himpl.bind ?_
        refine (eqFs_ev Z b1 b2 b3 b4 b5 (by omega)).bind ?_
        simp only [if_true]
        refine (heldFs_ev mk hmk Z.length b1 b2 b3 b4 b5 (by omega)).bind ?_
        simp only [if_neg (show ¬ ((1 + 3 * Z.length : Nat) : Int) < 0 by omega), if_true]
        exact Ev.now _
      · simp only [if_neg hd, if_pos (show (-1 : Int) < 0 by decide)]
        exact Ev.now _
    · simp only [if_neg hc, if_pos (show (-1 : Int) < 0 by decide)]
      exact Ev.now _
  exact h.rounds
end Go.Proofs.Ytmchcoafkaggkaa.Pure
namespace Go.Proofs.Ytmchcoafkaggkaa
theorem fnExactFsCrash_holds : Rows.FnExactFsCrashSaid := fnExactFsCrash.over Pure.fnExactFsCrash_pure
end Go.Proofs.Ytmchcoafkaggkaa
end
