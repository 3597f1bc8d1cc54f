/- Consistency proofs: their length and their two claims: the reference's functions and the program's tell the same plain functions; conditions: bounds on numbers and lengths. -/
import Derived.Test.YtcacdneodpoboaaDoorLx8
import Derived.Test.YtcacdneodpoboaaDoorPathP
set_option linter.unusedVariables false
set_option linter.unusedSimpArgs false
namespace Go.Proofs.YtcacdneodpoboaaDoor.Pure
open Go Go.RowKit Go.Proofs.YtcacdneodpoboaaDoor Go.Proofs.YtcacdneodpoboaaDoor.L Go.Proofs.YtcacdneodpoboaaDoorW.PrintWords Go.Proofs.YtcacdneodpoboaaDoorW.PrintMore Go.Proofs.YtcacdneodpoboaaDoorW.PrintLast

/-- How long a proof from m to n is. -/
def proofLen (m n : Nat) (b : Bool) : Nat :=
  if h : n ≤ 1 ∨ m = n then (if b then 0 else 1)
  else if m ≤ half n then 1 + proofLen m (half n) b
  else 1 + proofLen (m - half n) (n - half n) false
termination_by n
decreasing_by
  · exact half_lt n (by omega)
  · have := half_pos n; omega
theorem proofLen_same (m n : Nat) (b : Bool) (h : m = n) : proofLen m n b = if b then 0 else 1 := by rw [proofLen, dif_pos (Or.inr h)]
theorem proofLen_left (m n : Nat) (b : Bool) (h1 : 1 ≤ m) (h : m < n) (hm : m ≤ half n) : proofLen m n b = 1 + proofLen m (half n) b := by
  rw [proofLen, dif_neg (by omega), if_pos hm]
theorem proofLen_right (m n : Nat) (b : Bool) (h1 : 1 ≤ m) (h : m < n) (hm : ¬ m ≤ half n) : proofLen m n b = 1 + proofLen (m - half n) (n - half n) false := by
  rw [proofLen, dif_neg (by omega), if_neg hm]
theorem proofLen_le (x : Nat) : ∀ m n b, 1 ≤ m → m ≤ n → n ≤ 2 ^ x → proofLen m n b ≤ x + 1 := by
  induction x with
  | zero =>
    intro m n b h1 h2 h
    have : n ≤ 1 := by simpa using h
    rw [proofLen_same m n b (by omega)]
    split <;> omega
  | succ x ih =>
    intro m n b h1 h2 h
    by_cases he : m = n
    · rw [proofLen_same m n b he]
      split <;> omega
    · have hl := half_le n x h (by omega)
      have hg := half_ge n
      by_cases hm : m ≤ half n
      · rw [proofLen_left m n b h1 (by omega) hm]
        have := ih m (half n) b h1 hm hl
        omega
      · rw [proofLen_right m n b h1 (by omega) hm]
        have := ih (m - half n) (n - half n) false (by omega) (by omega) (by omega)
        omega
theorem proofLen_ev (n : Nat) : ∀ (m : Nat) (b : Bool), 1 ≤ m → m ≤ n → n ≤ 2147483648 → Ev (fun k => spec_l3ProofLen.f k (m : Int) (n : Int) b) ((proofLen m n b : Nat) : Int) := by
  induction n using Nat.strongRecOn with
  | _ n ih =>
    intro m b h1 h2 hn
    by_cases he : m = n
    · rw [proofLen_same m n b he]
      cases b with
      | true =>
        refine Ev.step (f := fun _ => some 0) (fun k => ?_) (Ev.now _)
        rw [spec_l3ProofLen.f, if_pos (by omega), if_pos rfl]
      | false =>
        refine Ev.step (f := fun _ => some 1) (fun k => ?_) (Ev.now _)
        rw [spec_l3ProofLen.f, if_pos (by omega), if_neg (by decide)]
    · have hlt := half_lt n (by omega)
      have hp := half_pos n
      have g : ∀ k, spec_l3ProofLen.f (k + 1) (m : Int) (n : Int) b = (spec_l2Split.f k (n : Int)).bind fun v => if (m : Int) ≤ v then (spec_l3ProofLen.f k m v b).bind fun u => some (wrap64 (1 + u)) else (spec_l3ProofLen.f k (wrap64 (m - v)) (wrap64 (n - v)) false).bind fun u => some (wrap64 (1 + u)) := fun k => by
        rw [spec_l3ProofLen.f, if_neg (by omega)]
      refine Ev.step g ((split_ev n (by omega)).bind ?_)
      by_cases hm : m ≤ half n
      · have hb := proofLen_le 31 m (half n) b h1 hm (by omega)
        rw [proofLen_left m n b h1 (by omega) hm]
        simp only [if_pos (show (m : Int) ≤ ((half n : Nat) : Int) by omega)]
        refine (ih (half n) hlt m b h1 hm (by omega)).bind ?_
        have w : wrap64 (1 + ((proofLen m (half n) b : Nat) : Int)) = ((1 + proofLen m (half n) b : Nat) : Int) := by unfold wrap64; omega
        rw [w]
        exact Ev.now _
      · have hb := proofLen_le 31 (m - half n) (n - half n) false (by omega) (by omega) (by omega)
        rw [proofLen_right m n b h1 (by omega) hm]
        have w1 : wrap64 ((m : Int) - ((half n : Nat) : Int)) = ((m - half n : Nat) : Int) := by unfold wrap64; omega
        have w2 : wrap64 ((n : Int) - ((half n : Nat) : Int)) = ((n - half n : Nat) : Int) := by unfold wrap64; omega
        simp only [if_neg (show ¬ (m : Int) ≤ ((half n : Nat) : Int) by omega), w1, w2]
        refine (ih (n - half n) (by omega) (m - half n) false (by omega) (by omega) (by omega)).bind ?_
        have w : wrap64 (1 + ((proofLen (m - half n) (n - half n) false : Nat) : Int)) = ((1 + proofLen (m - half n) (n - half n) false : Nat) : Int) := by unfold wrap64; omega
        rw [w]
        exact Ev.now _
/-- The two claims of a proof. -/
def claims2 (kind : Int) (old : ByteArray) (m n : Nat) (l : List ByteArray) (b : Bool) : ByteArray × ByteArray :=
  if h : n ≤ 1 ∨ m = n then (if b then (old, old) else (l.getD 0 ByteArray.empty, l.getD 0 ByteArray.empty))
  else if m ≤ half n then ((claims2 kind old m (half n) (initB l) b).1, nodeB kind (claims2 kind old m (half n) (initB l) b).2 (lastB l))
  else (nodeB kind (lastB l) (claims2 kind old (m - half n) (n - half n) (initB l) false).1, nodeB kind (lastB l) (claims2 kind old (m - half n) (n - half n) (initB l) false).2)
termination_by n
decreasing_by
  all_goals first
  | exact half_lt n (by omega)
  | (have := half_pos n; omega)
theorem claims2_same (kind : Int) (old : ByteArray) (m n : Nat) (l : List ByteArray) (b : Bool) (h : m = n) : claims2 kind old m n l b = if b then (old, old) else (l.getD 0 ByteArray.empty, l.getD 0 ByteArray.empty) := by rw [claims2, dif_pos (Or.inr h)]
theorem claims2_left (kind : Int) (old : ByteArray) (m n : Nat) (l : List ByteArray) (b : Bool) (h1 : 1 ≤ m) (h : m < n) (hm : m ≤ half n) :
    claims2 kind old m n l b = ((claims2 kind old m (half n) (initB l) b).1, nodeB kind (claims2 kind old m (half n) (initB l) b).2 (lastB l)) := by
  rw [claims2, dif_neg (by omega), if_pos hm]
theorem claims2_right (kind : Int) (old : ByteArray) (m n : Nat) (l : List ByteArray) (b : Bool) (h1 : 1 ≤ m) (h : m < n) (hm : ¬ m ≤ half n) :
    claims2 kind old m n l b = (nodeB kind (lastB l) (claims2 kind old (m - half n) (n - half n) (initB l) false).1, nodeB kind (lastB l) (claims2 kind old (m - half n) (n - half n) (initB l) false).2) := by
  rw [claims2, dif_neg (by omega), if_neg hm]
theorem getD_mem_or (l : List ByteArray) (hs : ∀ y ∈ l, y.size ≤ 1000000000) : (l.getD 0 ByteArray.empty).size ≤ 1000000000 := by
  cases l with
  | nil => exact Nat.zero_le _
  | cons x l => exact hs x (List.mem_cons_self ..)
theorem claims2_size (kind : Int) (old : ByteArray) (ho : old.size ≤ 1000000000) (n : Nat) : ∀ (m : Nat) (l : List ByteArray) (b : Bool), 1 ≤ m → m ≤ n → (∀ y ∈ l, y.size ≤ 1000000000) →
    (claims2 kind old m n l b).1.size ≤ 1000000000 ∧ (claims2 kind old m n l b).2.size ≤ 1000000000 := by
  induction n using Nat.strongRecOn with
  | _ n ih =>
    intro m l b h1 h2 hs
    by_cases he : m = n
    · rw [claims2_same _ _ _ _ _ _ he]
      have := getD_mem_or l hs
      cases b <;> simp only [if_true, Bool.false_eq_true, if_false] <;> exact ⟨by omega, by omega⟩
    · have hlt := half_lt n (by omega)
      have hp := half_pos n
      by_cases hm : m ≤ half n
      · rw [claims2_left _ _ _ _ _ _ h1 (by omega) hm]
        have hh := ih (half n) hlt m (initB l) b h1 hm (fun y hy => hs y (initB_mem l y hy))
        have hz := nodeB_size kind (claims2 kind old m (half n) (initB l) b).2 (lastB l)
        exact ⟨hh.1, by show (nodeB _ _ _).size ≤ _; omega⟩
      · rw [claims2_right _ _ _ _ _ _ h1 (by omega) hm]
        have hz := nodeB_size kind (lastB l) (claims2 kind old (m - half n) (n - half n) (initB l) false).1
        have hy := nodeB_size kind (lastB l) (claims2 kind old (m - half n) (n - half n) (initB l) false).2
        exact ⟨by show (nodeB _ _ _).size ≤ _; omega, by show (nodeB _ _ _).size ≤ _; omega⟩
theorem spec_claims (kind : Int) (old : ByteArray) (ho : old.size ≤ 1000000000) (n : Nat) : ∀ (m : Nat) (l : List ByteArray) (b : Bool), 1 ≤ m → m ≤ n → n ≤ 2147483648 → l.length = proofLen m n b → (∀ y ∈ l, y.size ≤ 1000000000) →
    Ev (fun k => spec_l3Claims.f k kind (m : Int) old (n : Int) l b) (claims2 kind old m n l b) := by
  induction n using Nat.strongRecOn with
  | _ n ih =>
    intro m l b h1 h2 hn hlen hs
    by_cases he : m = n
    · rw [claims2_same _ _ _ _ _ _ he]
      rw [proofLen_same m n b he] at hlen
      cases b with
      | true =>
        refine Ev.step (f := fun _ => some (old, old)) (fun k => ?_) (Ev.now _)
        rw [spec_l3Claims.f, if_pos (by omega), if_pos rfl]
      | false =>
        have hl1 : l.length = 1 := hlen
        refine Ev.step (f := fun _ => some (l.getD 0 ByteArray.empty, l.getD 0 ByteArray.empty)) (fun k => ?_) (Ev.now _)
        rw [spec_l3Claims.f, if_pos (by omega), if_neg (by decide), if_pos (by omega)]
        rfl
    · have hlt := half_lt n (by omega)
      have hp := half_pos n
      have hle := proofLen_le 31 m n b h1 h2 (by omega)
      have hpos : 0 < l.length := by
        rw [hlen]
        by_cases hm : m ≤ half n
        · rw [proofLen_left m n b h1 (by omega) hm]; omega
        · rw [proofLen_right m n b h1 (by omega) hm]; omega
      have w : wrap64 ((l.length : Int) - 1) = ((l.length - 1 : Nat) : Int) := by unfold wrap64; omega
      have hla : rdOf ByteArray.empty l ((l.length - 1 : Nat) : Int) = lastB l := by simp [rdOf, lastB]
      have hin : l.take ((l.length - 1 : Nat) : Int).toNat = initB l := by simp [initB]
      have hlast := hs _ (lastB_mem l hpos)
      have g : ∀ k, spec_l3Claims.f (k + 1) kind (m : Int) old (n : Int) l b = (spec_l2Split.f k (n : Int)).bind fun v => if (m : Int) ≤ v then (spec_l3Claims.f k kind m old v (initB l) b).bind fun c => (spec_Node.f k kind c.2 (lastB l)).bind fun t => some (c.1, t) else (spec_l3Claims.f k kind (wrap64 (m - v)) old (wrap64 (n - v)) (initB l) false).bind fun c => (spec_Node.f k kind (lastB l) c.1).bind fun t => (spec_Node.f k kind (lastB l) c.2).bind fun u => some (t, u) := fun k => by
        rw [spec_l3Claims.f, if_neg (by omega), w]
        simp only [if_pos (show (0 : Int) ≤ ((l.length - 1 : Nat) : Int) by omega), if_pos (show ((l.length - 1 : Nat) : Int) < (l.length : Int) by omega), if_pos (show ((l.length - 1 : Nat) : Int) ≤ (l.length : Int) by omega), hla, hin]
      refine Ev.step g ((split_ev n (by omega)).bind ?_)
      by_cases hm : m ≤ half n
      · have hlen' : (initB l).length = proofLen m (half n) b := by rw [initB_len, hlen, proofLen_left m n b h1 (by omega) hm]; omega
        have hi := fun y hy => hs y (initB_mem l y hy)
        have hz := claims2_size kind old ho (half n) m (initB l) b h1 hm hi
        simp only [if_pos (show (m : Int) ≤ ((half n : Nat) : Int) by omega)]
        refine (ih (half n) hlt m (initB l) b h1 hm (by omega) hlen' hi).bind ?_
        refine (spec_node kind _ (lastB l) (by omega) (by omega)).bind ?_
        rw [claims2_left _ _ _ _ _ _ h1 (by omega) hm]
        exact Ev.now _
      · have hlen' : (initB l).length = proofLen (m - half n) (n - half n) false := by rw [initB_len, hlen, proofLen_right m n b h1 (by omega) hm]; omega
        have hi := fun y hy => hs y (initB_mem l y hy)
        have hz := claims2_size kind old ho (n - half n) (m - half n) (initB l) false (by omega) (by omega) hi
        have w1 : wrap64 ((m : Int) - ((half n : Nat) : Int)) = ((m - half n : Nat) : Int) := by unfold wrap64; omega
        have w2 : wrap64 ((n : Int) - ((half n : Nat) : Int)) = ((n - half n : Nat) : Int) := by unfold wrap64; omega
        simp only [if_neg (show ¬ (m : Int) ≤ ((half n : Nat) : Int) by omega), w1, w2]
        refine (ih (n - half n) (by omega) (m - half n) (initB l) false (by omega) (by omega) (by omega) hlen' hi).bind ?_
        refine (spec_node kind (lastB l) _ (by omega) (by omega)).bind ?_
        refine (spec_node kind (lastB l) _ (by omega) (by omega)).bind ?_
        rw [claims2_right _ _ _ _ _ _ h1 (by omega) hm]
        exact Ev.now _
theorem impl_claims_ev (kind : Int) (old : ByteArray) (ho : old.size ≤ 1000000000) (n : Nat) : ∀ (m : Nat) (l : List ByteArray) (b : Bool), 1 ≤ m → m ≤ n → n ≤ 2147483648 → l.length ≤ 1000000000 → (∀ y ∈ l, y.size ≤ 1000000000) →
    ∃ c d, c.size ≤ 1000000000 ∧ d.size ≤ 1000000000 ∧ Ev (fun k => impl_claims.f k kind (m : Int) old (n : Int) l b) (c, d, decide (l.length = proofLen m n b)) ∧ (l.length = proofLen m n b → (c, d) = claims2 kind old m n l b) := by
  induction n using Nat.strongRecOn with
  | _ n ih =>
    intro m l b h1 h2 hn hll hs
    by_cases he : m = n
    · rw [claims2_same _ _ _ _ _ _ he, proofLen_same _ _ _ he]
      cases b with
      | true =>
        refine ⟨old, old, ho, ho, ?_, fun _ => rfl⟩
        refine Ev.step (f := fun k => impl_claims.j0 k kind (m : Int) old (n : Int) l true true) (fun k => by rw [impl_claims.f, if_pos (by omega)]) ?_
        refine Ev.step (f := fun k => some (old, old, decide (l.length = if true = true then 0 else 1))) (fun k => ?_) (Ev.now _)
        rw [impl_claims.j0, if_pos rfl, if_pos rfl]
        congr 3
        by_cases hz : l.length = 0
        · simp [hz]
        · simp [hz]
      | false =>
        have hg := getD_mem_or l hs
        by_cases hl1 : l.length = 1
        · refine ⟨l.getD 0 ByteArray.empty, l.getD 0 ByteArray.empty, hg, hg, ?_, fun _ => rfl⟩
          refine Ev.step (f := fun k => impl_claims.j0 k kind (m : Int) old (n : Int) l false false) (fun k => by rw [impl_claims.f, if_pos (by omega)]) ?_
          rw [if_neg (by decide), decide_eq_true hl1]
          refine Ev.step (f := fun k => some (l.getD 0 ByteArray.empty, l.getD 0 ByteArray.empty, true)) (fun k => ?_) (Ev.now _)
          rw [impl_claims.j0, if_neg (by decide), if_pos (by omega), if_pos (by omega), if_pos (by omega)]
          rfl
        · refine ⟨⟨#[]⟩, ⟨#[]⟩, Nat.zero_le _, Nat.zero_le _, ?_, fun h => absurd h (by rw [if_neg (by decide)]; exact hl1)⟩
          refine Ev.step (f := fun k => impl_claims.j0 k kind (m : Int) old (n : Int) l false false) (fun k => by rw [impl_claims.f, if_pos (by omega)]) ?_
          rw [if_neg (by decide), decide_eq_false hl1]
          refine Ev.step (f := fun k => some ((⟨#[]⟩ : ByteArray), (⟨#[]⟩ : ByteArray), false)) (fun k => ?_) (Ev.now _)
          rw [impl_claims.j0, if_neg (by decide), if_pos (by omega), if_neg (by omega)]
    · have hlt := half_lt n (by omega)
      have hp := half_pos n
      have hne : 0 < proofLen m n b := by
        by_cases hm : m ≤ half n
        · rw [proofLen_left m n b h1 (by omega) hm]; omega
        · rw [proofLen_right m n b h1 (by omega) hm]; omega
      have g0 : ∀ k, impl_claims.f (k + 1) kind (m : Int) old (n : Int) l b = impl_claims.j0 k kind (m : Int) old (n : Int) l b false := fun k => by rw [impl_claims.f, if_neg (by omega)]
      by_cases hz : l.length = 0
      · refine ⟨⟨#[]⟩, ⟨#[]⟩, Nat.zero_le _, Nat.zero_le _, ?_, fun h => by omega⟩
        rw [decide_eq_false (by omega)]
        refine Ev.step g0 ?_
        refine Ev.step (f := fun k => some ((⟨#[]⟩ : ByteArray), (⟨#[]⟩ : ByteArray), false)) (fun k => ?_) (Ev.now _)
        rw [impl_claims.j0, if_neg (by decide), if_neg (by omega), if_pos (by omega)]
      · have hpos : 0 < l.length := by omega
        have w : wrap64 ((l.length : Int) - 1) = ((l.length - 1 : Nat) : Int) := by unfold wrap64; omega
        have hla : rdOf ByteArray.empty l ((l.length - 1 : Nat) : Int) = lastB l := by simp [rdOf, lastB]
        have hin : l.take ((l.length - 1 : Nat) : Int).toNat = initB l := by simp [initB]
        have hlast := hs _ (lastB_mem l hpos)
        have hi := fun y hy => hs y (initB_mem l y hy)
        have g : ∀ k, impl_claims.j0 (k + 1) kind (m : Int) old (n : Int) l b false = (impl_below.f k (n : Int)).bind fun v => if (m : Int) ≤ v then (impl_claims.f k kind m old v (initB l) b).bind fun c => (impl_Node.f kind c.2.1 (lastB l)).bind fun t => some (c.1, t, c.2.2) else (impl_claims.f k kind (wrap64 (m - v)) old (wrap64 (n - v)) (initB l) false).bind fun c => (impl_Node.f kind (lastB l) c.1).bind fun t => (impl_Node.f kind (lastB l) c.2.1).bind fun u => some (t, u, c.2.2) := fun k => by
          rw [impl_claims.j0, if_neg (by decide), if_neg (by omega), if_neg (by omega), w]
          simp only [if_pos (show (0 : Int) ≤ ((l.length - 1 : Nat) : Int) by omega), if_pos (show ((l.length - 1 : Nat) : Int) < (l.length : Int) by omega), if_pos (show ((l.length - 1 : Nat) : Int) ≤ (l.length : Int) by omega), hla, hin]
        by_cases hm : m ≤ half n
        · obtain ⟨c, d, hcs, hds, hev, hcl⟩ := ih (half n) hlt m (initB l) b h1 hm (by omega) (by rw [initB_len]; omega) hi
          have hzn := nodeB_size kind d (lastB l)
          refine ⟨c, nodeB kind d (lastB l), hcs, by omega, ?_, fun h => ?_⟩
          · refine Ev.step g0 (Ev.step g ((below_ev n (by omega)).bind ?_))
            simp only [if_pos (show (m : Int) ≤ ((half n : Nat) : Int) by omega)]
            refine hev.bind ?_
            simp only [impl_node kind d (lastB l) (by omega) (by omega), Option.bind_some]
            have : decide ((initB l).length = proofLen m (half n) b) = decide (l.length = proofLen m n b) := by
              rw [initB_len, proofLen_left m n b h1 (by omega) hm]
              exact decide_eq_decide.2 (by omega)
            rw [this]
            exact Ev.now _
          · have hlen' : (initB l).length = proofLen m (half n) b := by rw [initB_len, h, proofLen_left m n b h1 (by omega) hm]; omega
            rw [claims2_left _ _ _ _ _ _ h1 (by omega) hm, ← hcl hlen']
        · obtain ⟨c, d, hcs, hds, hev, hcl⟩ := ih (n - half n) (by omega) (m - half n) (initB l) false (by omega) (by omega) (by omega) (by rw [initB_len]; omega) hi
          have w1 : wrap64 ((m : Int) - ((half n : Nat) : Int)) = ((m - half n : Nat) : Int) := by unfold wrap64; omega
          have w2 : wrap64 ((n : Int) - ((half n : Nat) : Int)) = ((n - half n : Nat) : Int) := by unfold wrap64; omega
          have hz1 := nodeB_size kind (lastB l) c
          have hz2 := nodeB_size kind (lastB l) d
          refine ⟨nodeB kind (lastB l) c, nodeB kind (lastB l) d, by omega, by omega, ?_, fun h => ?_⟩
          · refine Ev.step g0 (Ev.step g ((below_ev n (by omega)).bind ?_))
            simp only [if_neg (show ¬ (m : Int) ≤ ((half n : Nat) : Int) by omega), w1, w2]
            refine hev.bind ?_
            simp only [impl_node kind (lastB l) c (by omega) (by omega), impl_node kind (lastB l) d (by omega) (by omega), Option.bind_some]
            have : decide ((initB l).length = proofLen (m - half n) (n - half n) false) = decide (l.length = proofLen m n b) := by
              rw [initB_len, proofLen_right m n b h1 (by omega) hm]
              exact decide_eq_decide.2 (by omega)
            rw [this]
            exact Ev.now _
          · have hlen' : (initB l).length = proofLen (m - half n) (n - half n) false := by rw [initB_len, h, proofLen_right m n b h1 (by omega) hm]; omega
            rw [claims2_right _ _ _ _ _ _ h1 (by omega) hm, ← hcl hlen']
end Go.Proofs.YtcacdneodpoboaaDoor.Pure
