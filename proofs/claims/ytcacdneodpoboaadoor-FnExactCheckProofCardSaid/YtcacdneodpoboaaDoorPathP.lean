/- Paths and proofs: widths, the split of a size, the length of a path, the claim of a path: the reference's functions and the program's tell the same plain functions; conditions: bounds on numbers and lengths. -/
import Derived.Test.YtcacdneodpoboaaDoorLx6
import Derived.Test.YtcacdneodpoboaaDoorLx7
import Derived.Test.YtcacdneodpoboaaDoorMerkP
import Derived.Test.YtcacdneodpoboaaDoorHelpS
set_option linter.unusedVariables false
set_option linter.unusedSimpArgs false
namespace Go.Proofs.YtcacdneodpoboaaDoor.Pure
open Go Go.RowKit Go.Proofs.YtcacdneodpoboaaDoor Go.Proofs.YtcacdneodpoboaaDoor.L Go.Proofs.YtcacdneodpoboaaDoorW.PrintWords Go.Proofs.YtcacdneodpoboaaDoorW.PrintMore Go.Proofs.YtcacdneodpoboaaDoorW.PrintLast

theorem wf64 {n : Int} (h : (Lit.int .i64 n).wf = true) : -9223372036854775808 ≤ n ∧ n ≤ 9223372036854775807 := by
  simp [Lit.wf] at h
  have e : IntKind.i64.min = -9223372036854775808 := by decide
  rw [e] at h
  exact h
theorem between_b (x lo hi : Int) : spec_l1Between.f x lo hi = some (decide (lo ≤ x ∧ x ≤ hi)) := by
  unfold spec_l1Between.f
  by_cases h0 : lo ≤ x
  · rw [if_pos h0]; simp [h0]
  · rw [if_neg h0]; simp [h0]
/-- The width of a kind's digests. -/
def wdt (kind : Int) : Int := if kind = 1 then 1 else 32
def kOK (kind : Int) : Bool := decide (kind = 0) || decide (kind = 1)
def allW (kind : Int) (l : List ByteArray) : Bool := l.all fun x => decide ((x.size : Int) = wdt kind)
def widOK (kind : Int) (l : List ByteArray) : Bool := kOK kind && allW kind l
theorem spec_wdt (kind : Int) : spec_l2Width.f kind = some (wdt kind) := by
  unfold spec_l2Width.f wdt
  split <;> rfl
theorem spec_kOK (kind : Int) : spec_l2KindOK.f kind = some (kOK kind) := by
  unfold spec_l2KindOK.f kOK
  by_cases h0 : kind = 0
  · simp [h0]
  · simp only [if_neg h0, decide_eq_false h0, Bool.false_or]
    by_cases h1 : kind = 1
    · simp [h1]
    · simp [h1]
theorem spec_wid_l0 (kind : Int) (l : List ByteArray) (hl : l.length ≤ 9223372036854775806) (d : Nat) : ∀ i : Nat, i + d = l.length →
    Ev (fun k => spec_l3WidthsOK.l0 k kind l (l.length : Int) (i : Int)) (kOK kind && allW kind (l.drop i)) := by
  induction d with
  | zero =>
    intro i hi
    have hd : l.drop i = [] := List.drop_eq_nil_of_le (by omega)
    rw [hd]
    refine Ev.step (f := fun _ => some (kOK kind && allW kind [])) (fun k => ?_) (Ev.now _)
    rw [spec_l3WidthsOK.l0, if_neg (by omega), spec_kOK]
    simp [allW]
  | succ d ih =>
    intro i hi
    have hil : i < l.length := by omega
    have hd : l.drop i = l[i] :: l.drop (i + 1) := List.drop_eq_getElem_cons hil
    by_cases hc : (l[i].size : Int) = wdt kind
    · refine Ev.step (f := fun k => spec_l3WidthsOK.l0 k kind l (l.length : Int) ((i + 1 : Nat) : Int)) (fun k => ?_) ?_
      · rw [spec_l3WidthsOK.l0, if_pos (by omega), if_pos (by omega), if_pos (by omega), spec_wdt]
        simp only [Option.bind_some]
        rw [rdS l i hil, if_pos hc, wsucc i (by omega)]
      · rw [hd, allW, List.all_cons, decide_eq_true hc, Bool.true_and]
        exact ih (i + 1) (by omega)
    · refine Ev.step (f := fun _ => some false) (fun k => ?_) ?_
      · rw [spec_l3WidthsOK.l0, if_pos (by omega), if_pos (by omega), if_pos (by omega), spec_wdt]
        simp only [Option.bind_some]
        rw [rdS l i hil, if_neg hc]
      · rw [hd, allW, List.all_cons, decide_eq_false hc, Bool.false_and, Bool.and_false]
        exact Ev.now _
theorem spec_wid (kind : Int) (l : List ByteArray) (hl : l.length ≤ 9223372036854775806) : Ev (fun k => spec_l3WidthsOK.f k kind l) (widOK kind l) :=
  Ev.congr (fun k => rfl) (spec_wid_l0 kind l hl l.length 0 (by omega))
def wdi (kind : Int) : Int := if kind = 0 then 32 else if kind = 1 then 1 else 0
theorem impl_wdi (kind : Int) : impl_width.f kind = some (wdi kind) := by
  unfold impl_width.f wdi
  split
  · rfl
  · split <;> rfl
theorem wdi_pos (kind : Int) : decide (wdi kind > 0) = kOK kind := by
  unfold wdi kOK
  by_cases h0 : kind = 0
  · simp [h0]
  · by_cases h1 : kind = 1
    · simp [h1]
    · simp [h0, h1]
theorem wdi_wdt (kind : Int) (h : kOK kind = true) : wdi kind = wdt kind := by
  unfold wdi wdt
  unfold kOK at h
  by_cases h0 : kind = 0
  · simp [h0]
  · by_cases h1 : kind = 1
    · simp [h1]
    · simp [h0, h1] at h
theorem impl_wid_l0 (kind : Int) (l : List ByteArray) (hl : l.length ≤ 9223372036854775806) (d : Nat) : ∀ i : Nat, i + d = l.length →
    Ev (fun k => impl_widths.l0 k kind l (l.length : Int) (i : Int)) (kOK kind && allW kind (l.drop i)) := by
  induction d with
  | zero =>
    intro i hi
    have hd : l.drop i = [] := List.drop_eq_nil_of_le (by omega)
    rw [hd]
    refine Ev.step (f := fun _ => some (kOK kind && allW kind [])) (fun k => ?_) (Ev.now _)
    rw [impl_widths.l0, if_neg (by omega), impl_wdi]
    simp only [Option.bind_some, wdi_pos]
    simp [allW]
  | succ d ih =>
    intro i hi
    have hil : i < l.length := by omega
    have hd : l.drop i = l[i] :: l.drop (i + 1) := List.drop_eq_getElem_cons hil
    by_cases hc : (l[i].size : Int) = wdi kind
    · refine Ev.step (f := fun k => impl_widths.l0 k kind l (l.length : Int) ((i + 1 : Nat) : Int)) (fun k => ?_) ?_
      · rw [impl_widths.l0, if_pos (by omega), if_pos (by omega), if_pos (by omega), impl_wdi]
        simp only [Option.bind_some]
        rw [rdS l i hil, if_pos hc, wsucc i (by omega)]
      · have h := ih (i + 1) (by omega)
        have e : (kOK kind && allW kind (l.drop i)) = (kOK kind && allW kind (l.drop (i + 1))) := by
          cases hk : kOK kind with
          | false => rfl
          | true => rw [hd, allW, List.all_cons, ← wdi_wdt kind hk, decide_eq_true hc, Bool.true_and, wdi_wdt kind hk]; rfl
        rw [e]
        exact h
    · refine Ev.step (f := fun _ => some false) (fun k => ?_) ?_
      · rw [impl_widths.l0, if_pos (by omega), if_pos (by omega), if_pos (by omega), impl_wdi]
        simp only [Option.bind_some]
        rw [rdS l i hil, if_neg hc]
      · have e : (kOK kind && allW kind (l.drop i)) = false := by
          cases hk : kOK kind with
          | false => rfl
          | true => rw [hd, allW, List.all_cons, ← wdi_wdt kind hk, decide_eq_false hc]; rfl
        rw [e]
        exact Ev.now _
theorem impl_wid (kind : Int) (l : List ByteArray) (hl : l.length ≤ 9223372036854775806) : Ev (fun k => impl_widths.f k kind l) (widOK kind l) :=
  Ev.congr (fun k => rfl) (impl_wid_l0 kind l hl l.length 0 (by omega))
/-- x doubled while the double is below n. -/
def dbl (n : Nat) : Nat → Nat → Nat
  | 0, x => x
  | f + 1, x => if 2 * x < n then dbl n f (2 * x) else x
def half (n : Nat) : Nat := dbl n n 1
theorem dbl_pow (n : Nat) (f : Nat) : ∀ x, ∃ j, dbl n f x = 2 ^ j * x := by
  induction f with
  | zero => intro x; exact ⟨0, by simp [dbl]⟩
  | succ f ih =>
    intro x
    rw [dbl]
    split
    · obtain ⟨j, hj⟩ := ih (2 * x)
      exact ⟨j + 1, by rw [hj, Nat.pow_succ]; simp [Nat.mul_assoc]⟩
    · exact ⟨0, by simp⟩
theorem dbl_lt (n : Nat) (f : Nat) : ∀ x, x < n → dbl n f x < n := by
  induction f with
  | zero => intro x h; exact h
  | succ f ih =>
    intro x h
    rw [dbl]
    split
    · exact ih _ (by assumption)
    · exact h
theorem dbl_ge (n : Nat) (f : Nat) : ∀ x, 1 ≤ x → n ≤ x + f → n ≤ 2 * dbl n f x := by
  induction f with
  | zero => intro x h1 h; rw [dbl]; omega
  | succ f ih =>
    intro x h1 h
    rw [dbl]
    split
    · exact ih _ (by omega) (by omega)
    · omega
theorem dbl_pos (n : Nat) (f : Nat) : ∀ x, 1 ≤ x → 1 ≤ dbl n f x := by
  induction f with
  | zero => intro x h; exact h
  | succ f ih =>
    intro x h
    rw [dbl]
    split
    · exact ih _ (by omega)
    · exact h
theorem half_lt (n : Nat) (h : 2 ≤ n) : half n < n := dbl_lt n n 1 (by omega)
theorem half_pos (n : Nat) : 1 ≤ half n := dbl_pos n n 1 (Nat.le_refl _)
theorem half_ge (n : Nat) : n ≤ 2 * half n := dbl_ge n n 1 (Nat.le_refl _) (by omega)
theorem half_pow (n : Nat) : ∃ j, half n = 2 ^ j := by
  obtain ⟨j, hj⟩ := dbl_pow n n 1
  exact ⟨j, by rw [half, hj, Nat.mul_one]⟩
theorem half_le (n m : Nat) (h : n ≤ 2 ^ (m + 1)) (h2 : 2 ≤ n) : half n ≤ 2 ^ m := by
  obtain ⟨j, hj⟩ := half_pow n
  have hlt := half_lt n h2
  rw [hj] at hlt ⊢
  have : j < m + 1 := (Nat.pow_lt_pow_iff_right (by decide : 1 < 2)).1 (by omega)
  exact Nat.pow_le_pow_right (by decide) (by omega)
theorem split_l0 (n : Nat) (hn : n ≤ 4000000000) (f : Nat) : ∀ x : Nat, 1 ≤ x → x < 8000000000 → n ≤ x + f → Ev (fun k => spec_l2Split.l0 k (n : Int) (x : Int)) ((dbl n f x : Nat) : Int) := by
  induction f with
  | zero =>
    intro x h1 hx h
    have w : wrap64 (2 * (x : Int)) = ((2 * x : Nat) : Int) := by unfold wrap64; omega
    refine Ev.step (f := fun _ => some (x : Int)) (fun k => ?_) (Ev.now _)
    rw [spec_l2Split.l0, w, if_neg (by omega)]
  | succ f ih =>
    intro x h1 hx h
    have w : wrap64 (2 * (x : Int)) = ((2 * x : Nat) : Int) := by unfold wrap64; omega
    rw [dbl]
    by_cases hc : 2 * x < n
    · rw [if_pos hc]
      refine Ev.step (f := fun k => spec_l2Split.l0 k (n : Int) ((2 * x : Nat) : Int)) (fun k => ?_) (ih (2 * x) (by omega) (by omega) (by omega))
      rw [spec_l2Split.l0, w, if_pos (by omega)]
    · rw [if_neg hc]
      refine Ev.step (f := fun _ => some (x : Int)) (fun k => ?_) (Ev.now _)
      rw [spec_l2Split.l0, w, if_neg (by omega)]
theorem split_ev (n : Nat) (hn : n ≤ 4000000000) : Ev (fun k => spec_l2Split.f k (n : Int)) ((half n : Nat) : Int) :=
  Ev.congr (fun k => rfl) (split_l0 n hn n 1 (by omega) (by omega) (by omega))
theorem below_l0 (n : Nat) (hn : n ≤ 4000000000) (f : Nat) : ∀ x : Nat, 1 ≤ x → x < 8000000000 → n ≤ x + f → Ev (fun k => impl_below.l0 k (n : Int) (x : Int)) ((dbl n f x : Nat) : Int) := by
  induction f with
  | zero =>
    intro x h1 hx h
    have w : wrap64 (2 * (x : Int)) = ((2 * x : Nat) : Int) := by unfold wrap64; omega
    refine Ev.step (f := fun _ => some (x : Int)) (fun k => ?_) (Ev.now _)
    rw [impl_below.l0, w, if_neg (by omega)]
  | succ f ih =>
    intro x h1 hx h
    have w : wrap64 (2 * (x : Int)) = ((2 * x : Nat) : Int) := by unfold wrap64; omega
    have w2 : wrap64 ((x : Int) * 2) = ((2 * x : Nat) : Int) := by unfold wrap64; omega
    rw [dbl]
    by_cases hc : 2 * x < n
    · rw [if_pos hc]
      refine Ev.step (f := fun k => impl_below.l0 k (n : Int) ((2 * x : Nat) : Int)) (fun k => ?_) (ih (2 * x) (by omega) (by omega) (by omega))
      rw [impl_below.l0, w, if_pos (by omega), w2]
    · rw [if_neg hc]
      refine Ev.step (f := fun _ => some (x : Int)) (fun k => ?_) (Ev.now _)
      rw [impl_below.l0, w, if_neg (by omega)]
theorem below_ev (n : Nat) (hn : n ≤ 4000000000) : Ev (fun k => impl_below.f k (n : Int)) ((half n : Nat) : Int) :=
  Ev.congr (fun k => rfl) (below_l0 n hn n 1 (by omega) (by omega) (by omega))
/-- How long a path of i among n is. -/
def pathLen (i n : Nat) : Nat :=
  if h : n ≤ 1 then 0 else if i < half n then 1 + pathLen i (half n) else 1 + pathLen (i - half n) (n - half n)
termination_by n
decreasing_by
  · exact half_lt n (by omega)
  · have := half_pos n; omega
theorem pathLen_one (i n : Nat) (h : n ≤ 1) : pathLen i n = 0 := by rw [pathLen, dif_pos h]
theorem pathLen_left (i n : Nat) (h : 2 ≤ n) (hi : i < half n) : pathLen i n = 1 + pathLen i (half n) := by rw [pathLen, dif_neg (by omega), if_pos hi]
theorem pathLen_right (i n : Nat) (h : 2 ≤ n) (hi : ¬ i < half n) : pathLen i n = 1 + pathLen (i - half n) (n - half n) := by rw [pathLen, dif_neg (by omega), if_neg hi]
theorem pathLen_le (m : Nat) : ∀ i n, n ≤ 2 ^ m → pathLen i n ≤ m := by
  induction m with
  | zero => intro i n h; rw [pathLen_one i n (by simpa using h)]; omega
  | succ m ih =>
    intro i n h
    by_cases h1 : n ≤ 1
    · rw [pathLen_one i n h1]; omega
    · have hl := half_le n m h (by omega)
      have hg := half_ge n
      by_cases hi : i < half n
      · rw [pathLen_left i n (by omega) hi]
        have := ih i (half n) hl
        omega
      · rw [pathLen_right i n (by omega) hi]
        have := ih (i - half n) (n - half n) (by omega)
        omega
theorem pathLen_ev (n : Nat) : ∀ i : Nat, i < n → n ≤ 2147483648 → Ev (fun k => spec_l3PathLen.f k (i : Int) (n : Int)) ((pathLen i n : Nat) : Int) := by
  induction n using Nat.strongRecOn with
  | _ n ih =>
    intro i hi hn
    by_cases h1 : n ≤ 1
    · obtain rfl : n = 1 := by omega
      rw [pathLen_one i 1 (by omega)]
      refine Ev.step (f := fun _ => some 0) (fun k => ?_) (Ev.now _)
      rw [spec_l3PathLen.f, if_pos (by omega)]
    · have hlt := half_lt n (by omega)
      have hp := half_pos n
      have hle := pathLen_le 31
      by_cases hc : i < half n
      · have hr := ih (half n) hlt i hc (by omega)
        have hb := hle i (half n) (by omega)
        rw [pathLen_left i n (by omega) hc]
        refine Ev.step (f := fun k => (spec_l2Split.f k (n : Int)).bind fun v => if (i : Int) < v then (spec_l3PathLen.f k i v).bind fun u => some (wrap64 (1 + u)) else (spec_l3PathLen.f k (wrap64 (i - v)) (wrap64 (n - v))).bind fun u => some (wrap64 (1 + u))) (fun k => ?_) ?_
        · rw [spec_l3PathLen.f, if_neg (by omega)]
        · refine (split_ev n (by omega)).bind ?_
          simp only [if_pos (show (i : Int) < ((half n : Nat) : Int) by omega)]
          refine hr.bind ?_
          have w : wrap64 (1 + ((pathLen i (half n) : Nat) : Int)) = ((1 + pathLen i (half n) : Nat) : Int) := by unfold wrap64; omega
          rw [w]
          exact Ev.now _
      · have hr := ih (n - half n) (by omega) (i - half n) (by omega) (by omega)
        have hb := hle (i - half n) (n - half n) (by omega)
        rw [pathLen_right i n (by omega) hc]
        refine Ev.step (f := fun k => (spec_l2Split.f k (n : Int)).bind fun v => if (i : Int) < v then (spec_l3PathLen.f k i v).bind fun u => some (wrap64 (1 + u)) else (spec_l3PathLen.f k (wrap64 (i - v)) (wrap64 (n - v))).bind fun u => some (wrap64 (1 + u))) (fun k => ?_) ?_
        · rw [spec_l3PathLen.f, if_neg (by omega)]
        · refine (split_ev n (by omega)).bind ?_
          have w1 : wrap64 ((i : Int) - ((half n : Nat) : Int)) = ((i - half n : Nat) : Int) := by unfold wrap64; omega
          have w2 : wrap64 ((n : Int) - ((half n : Nat) : Int)) = ((n - half n : Nat) : Int) := by unfold wrap64; omega
          simp only [if_neg (show ¬ (i : Int) < ((half n : Nat) : Int) by omega), w1, w2]
          refine hr.bind ?_
          have w : wrap64 (1 + ((pathLen (i - half n) (n - half n) : Nat) : Int)) = ((1 + pathLen (i - half n) (n - half n) : Nat) : Int) := by unfold wrap64; omega
          rw [w]
          exact Ev.now _
/-- The last of a list, and what is ahead of it. -/
def lastB (l : List ByteArray) : ByteArray := l.getD (l.length - 1) ByteArray.empty
def initB (l : List ByteArray) : List ByteArray := l.take (l.length - 1)
theorem lastB_at (l : List ByteArray) (h : 0 < l.length) : rdOf ByteArray.empty l (wrap64 ((l.length : Int) - 1)) = lastB l ∨ 9223372036854775807 < l.length := by
  by_cases hc : l.length ≤ 9223372036854775807
  · have w : wrap64 ((l.length : Int) - 1) = ((l.length - 1 : Nat) : Int) := by unfold wrap64; omega
    rw [w]
    left
    simp [rdOf, lastB]
  · right; omega
theorem lastB_mem (l : List ByteArray) (h : 0 < l.length) : lastB l ∈ l := by
  have : lastB l = l[l.length - 1] := by simp [lastB, List.getD, show l.length - 1 < l.length by omega]
  rw [this]
  exact List.getElem_mem _
/-- The claim of a path. -/
def claimB (kind : Int) (e : ByteArray) (i n : Nat) (l : List ByteArray) : ByteArray :=
  if h : n ≤ 1 then leafB kind e
  else if i < half n then nodeB kind (claimB kind e i (half n) (initB l)) (lastB l)
  else nodeB kind (lastB l) (claimB kind e (i - half n) (n - half n) (initB l))
termination_by n
decreasing_by
  · exact half_lt n (by omega)
  · have := half_pos n; omega
theorem claimB_size (kind : Int) (e : ByteArray) (i n : Nat) (l : List ByteArray) : (claimB kind e i n l).size ≤ 32 := by
  rw [claimB]
  split
  · exact leafB_size _ _
  · split <;> exact nodeB_size _ _ _
theorem initB_len (l : List ByteArray) : (initB l).length = l.length - 1 := by simp [initB]
theorem initB_mem (l : List ByteArray) (y : ByteArray) (h : y ∈ initB l) : y ∈ l := List.mem_of_mem_take h
theorem spec_claim (kind : Int) (e : ByteArray) (he : e.size ≤ 1000000000) (n : Nat) : ∀ (i : Nat) (l : List ByteArray), i < n → n ≤ 2147483648 → l.length = pathLen i n → (∀ y ∈ l, y.size ≤ 1000000000) →
    Ev (fun k => spec_l3Claim.f k kind e (i : Int) (n : Int) l) (claimB kind e i n l) := by
  induction n using Nat.strongRecOn with
  | _ n ih =>
    intro i l hi hn hlen hs
    by_cases h1 : n ≤ 1
    · obtain rfl : n = 1 := by omega
      rw [claimB, dif_pos (by omega)]
      refine Ev.step (f := fun k => (spec_Leaf.f k kind e).bind fun t => some t) (fun k => ?_) ((spec_leaf kind e (by omega)).bind (Ev.now _))
      rw [spec_l3Claim.f, if_pos (by omega)]
    · have hlt := half_lt n (by omega)
      have hp := half_pos n
      have hle := pathLen_le 31 i n (by omega)
      have hpos : 0 < l.length := by
        rw [hlen]
        by_cases hc : i < half n
        · rw [pathLen_left i n (by omega) hc]; omega
        · rw [pathLen_right i n (by omega) hc]; omega
      have w : wrap64 ((l.length : Int) - 1) = ((l.length - 1 : Nat) : Int) := by unfold wrap64; omega
      have hla : rdOf ByteArray.empty l ((l.length - 1 : Nat) : Int) = lastB l := by simp [rdOf, lastB]
      have hin : l.take ((l.length - 1 : Nat) : Int).toNat = initB l := by simp [initB]
      have hlast := hs _ (lastB_mem l hpos)
      have g : ∀ k, spec_l3Claim.f (k + 1) kind e (i : Int) (n : Int) l = (spec_l2Split.f k (n : Int)).bind fun v => if (i : Int) < v then (spec_l3Claim.f k kind e i v (initB l)).bind fun c => (spec_Node.f k kind c (lastB l)).bind fun t => some t else (spec_l3Claim.f k kind e (wrap64 (i - v)) (wrap64 (n - v)) (initB l)).bind fun c => (spec_Node.f k kind (lastB l) c).bind fun t => some t := fun k => by
        rw [spec_l3Claim.f, if_neg (by omega), w]
        simp only [if_pos (show (0 : Int) ≤ ((l.length - 1 : Nat) : Int) by omega), if_pos (show ((l.length - 1 : Nat) : Int) < (l.length : Int) by omega), if_pos (show ((l.length - 1 : Nat) : Int) ≤ (l.length : Int) by omega), hla, hin]
      refine Ev.step g ?_
      refine (split_ev n (by omega)).bind ?_
      by_cases hc : i < half n
      · have hlen' : (initB l).length = pathLen i (half n) := by rw [initB_len, hlen, pathLen_left i n (by omega) hc]; omega
        have hr := ih (half n) hlt i (initB l) hc (by omega) hlen' (fun y hy => hs y (initB_mem l y hy))
        simp only [if_pos (show (i : Int) < ((half n : Nat) : Int) by omega)]
        refine hr.bind ?_
        have hsz := claimB_size kind e i (half n) (initB l)
        refine (spec_node kind _ (lastB l) (by omega) (by omega)).bind ?_
        rw [show claimB kind e i n l = nodeB kind (claimB kind e i (half n) (initB l)) (lastB l) by rw [claimB, dif_neg (by omega), if_pos hc]]
        exact Ev.now _
      · have hlen' : (initB l).length = pathLen (i - half n) (n - half n) := by rw [initB_len, hlen, pathLen_right i n (by omega) hc]; omega
        have hr := ih (n - half n) (by omega) (i - half n) (initB l) (by omega) (by omega) hlen' (fun y hy => hs y (initB_mem l y hy))
        have w1 : wrap64 ((i : Int) - ((half n : Nat) : Int)) = ((i - half n : Nat) : Int) := by unfold wrap64; omega
        have w2 : wrap64 ((n : Int) - ((half n : Nat) : Int)) = ((n - half n : Nat) : Int) := by unfold wrap64; omega
        simp only [if_neg (show ¬ (i : Int) < ((half n : Nat) : Int) by omega), w1, w2]
        refine hr.bind ?_
        have hsz := claimB_size kind e (i - half n) (n - half n) (initB l)
        refine (spec_node kind (lastB l) _ (by omega) (by omega)).bind ?_
        rw [show claimB kind e i n l = nodeB kind (lastB l) (claimB kind e (i - half n) (n - half n) (initB l)) by rw [claimB, dif_neg (by omega), if_neg hc]]
        exact Ev.now _
theorem impl_claim_ev (kind : Int) (e : ByteArray) (he : e.size ≤ 1000000000) (n : Nat) : ∀ (i : Nat) (l : List ByteArray), i < n → n ≤ 2147483648 → l.length ≤ 1000000000 → (∀ y ∈ l, y.size ≤ 1000000000) →
    ∃ c, c.size ≤ 32 ∧ Ev (fun k => impl_claim.f k kind e (i : Int) (n : Int) l) (c, decide (l.length = pathLen i n)) ∧ (l.length = pathLen i n → c = claimB kind e i n l) := by
  induction n using Nat.strongRecOn with
  | _ n ih =>
    intro i l hi hn hll hs
    by_cases h1 : n ≤ 1
    · obtain rfl : n = 1 := by omega
      refine ⟨leafB kind e, leafB_size _ _, ?_, fun _ => by rw [claimB, dif_pos (by omega)]⟩
      refine Ev.step (f := fun k => (some (leafB kind e, decide (l.length = pathLen i 1)))) (fun k => ?_) (Ev.now _)
      rw [impl_claim.f, if_pos (by omega), impl_leaf kind e (by omega), pathLen_one i 1 (by omega)]
      simp only [Option.bind_some]
      congr 2
      by_cases hz : l.length = 0
      · simp [hz]
      · simp [hz]
    · have hlt := half_lt n (by omega)
      have hp := half_pos n
      have hne : 0 < pathLen i n := by
        by_cases hc : i < half n
        · rw [pathLen_left i n (by omega) hc]; omega
        · rw [pathLen_right i n (by omega) hc]; omega
      by_cases hz : l.length = 0
      · refine ⟨⟨#[]⟩, Nat.zero_le _, ?_, fun h => by omega⟩
        rw [decide_eq_false (by omega)]
        refine Ev.step (f := fun k => (some ((⟨#[]⟩ : ByteArray), false))) (fun k => ?_) (Ev.now _)
        rw [impl_claim.f, if_neg (by omega), if_pos (by omega)]
      · have hpos : 0 < l.length := by omega
        have w : wrap64 ((l.length : Int) - 1) = ((l.length - 1 : Nat) : Int) := by unfold wrap64; omega
        have hla : rdOf ByteArray.empty l ((l.length - 1 : Nat) : Int) = lastB l := by simp [rdOf, lastB]
        have hin : l.take ((l.length - 1 : Nat) : Int).toNat = initB l := by simp [initB]
        have hlast := hs _ (lastB_mem l hpos)
        have g : ∀ k, impl_claim.f (k + 1) kind e (i : Int) (n : Int) l = (impl_below.f k (n : Int)).bind fun v => if (i : Int) < v then (impl_claim.f k kind e i v (initB l)).bind fun c => (impl_Node.f kind c.1 (lastB l)).bind fun t => some (t, c.2) else (impl_claim.f k kind e (wrap64 (i - v)) (wrap64 (n - v)) (initB l)).bind fun c => (impl_Node.f kind (lastB l) c.1).bind fun t => some (t, c.2) := fun k => by
          rw [impl_claim.f, if_neg (by omega), if_neg (by omega), w]
          simp only [if_pos (show (0 : Int) ≤ ((l.length - 1 : Nat) : Int) by omega), if_pos (show ((l.length - 1 : Nat) : Int) < (l.length : Int) by omega), if_pos (show ((l.length - 1 : Nat) : Int) ≤ (l.length : Int) by omega), hla, hin]
        by_cases hc : i < half n
        · obtain ⟨c, hcs, hev, hcl⟩ := ih (half n) hlt i (initB l) hc (by omega) (by rw [initB_len]; omega) (fun y hy => hs y (initB_mem l y hy))
          refine ⟨nodeB kind c (lastB l), nodeB_size _ _ _, ?_, fun h => ?_⟩
          · refine Ev.step g ?_
            refine (below_ev n (by omega)).bind ?_
            simp only [if_pos (show (i : Int) < ((half n : Nat) : Int) by omega)]
            refine hev.bind ?_
            simp only [impl_node kind c (lastB l) (by omega) (by omega), Option.bind_some]
            have : decide ((initB l).length = pathLen i (half n)) = decide (l.length = pathLen i n) := by
              rw [initB_len, pathLen_left i n (by omega) hc]
              exact decide_eq_decide.2 (by omega)
            rw [this]
            exact Ev.now _
          · have hlen' : (initB l).length = pathLen i (half n) := by rw [initB_len, h, pathLen_left i n (by omega) hc]; omega
            rw [hcl hlen']
            rw [show claimB kind e i n l = nodeB kind (claimB kind e i (half n) (initB l)) (lastB l) by rw [claimB, dif_neg (by omega), if_pos hc]]
        · obtain ⟨c, hcs, hev, hcl⟩ := ih (n - half n) (by omega) (i - half n) (initB l) (by omega) (by omega) (by rw [initB_len]; omega) (fun y hy => hs y (initB_mem l y hy))
          have w1 : wrap64 ((i : Int) - ((half n : Nat) : Int)) = ((i - half n : Nat) : Int) := by unfold wrap64; omega
          have w2 : wrap64 ((n : Int) - ((half n : Nat) : Int)) = ((n - half n : Nat) : Int) := by unfold wrap64; omega
          refine ⟨nodeB kind (lastB l) c, nodeB_size _ _ _, ?_, fun h => ?_⟩
          · refine Ev.step g ?_
            refine (below_ev n (by omega)).bind ?_
            simp only [if_neg (show ¬ (i : Int) < ((half n : Nat) : Int) by omega), w1, w2]
            refine hev.bind ?_
            simp only [impl_node kind (lastB l) c (by omega) (by omega), Option.bind_some]
            have : decide ((initB l).length = pathLen (i - half n) (n - half n)) = decide (l.length = pathLen i n) := by
              rw [initB_len, pathLen_right i n (by omega) hc]
              exact decide_eq_decide.2 (by omega)
            rw [this]
            exact Ev.now _
          · have hlen' : (initB l).length = pathLen (i - half n) (n - half n) := by rw [initB_len, h, pathLen_right i n (by omega) hc]; omega
            rw [hcl hlen']
            rw [show claimB kind e i n l = nodeB kind (lastB l) (claimB kind e (i - half n) (n - half n) (initB l)) by rw [claimB, dif_neg (by omega), if_neg hc]]
theorem mem_wt (l : List ByteArray) (y : ByteArray) (h : y ∈ l) : y.size ≤ sumS l := by
  induction l with
  | nil => cases h
  | cons x l ih =>
    have e : sumS (x :: l) = x.size + sumS l := rfl
    rw [e]
    cases h with
    | head => omega
    | tail _ h => have := ih h; omega
end Go.Proofs.YtcacdneodpoboaaDoor.Pure
