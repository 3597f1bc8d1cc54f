/- The texts that the proof of the law FnExactPrintSql rests on, part 6: printed functions with their contracts, words, plain laws; the last part ends in the statement itself. No condition but those that each theorem states. -/
import Derived.Test.YtbpfdjbnfkclcaaGreatDoorKFnExactPrintSql5
set_option linter.unusedVariables false
set_option linter.unusedSimpArgs false
section
set_option linter.unusedVariables false
set_option linter.unusedSimpArgs false
namespace Go.Proofs.YtbpfdjbnfkclcaaGreatDoor.Pure
open Go Go.RowKit Go.Proofs.YtbpfdjbnfkclcaaGreatDoor Go.Proofs.YtbpfdjbnfkclcaaGreatDoor.L Go.Proofs.YtbpfdjbnfkclcaaGreatDoorW.PrintWords Go.Proofs.YtbpfdjbnfkclcaaGreatDoorW.PrintMore Go.Proofs.YtbpfdjbnfkclcaaGreatDoorW.PrintLast
/-- A sign's text. -/
def sgT (n : Int) : ByteArray := (⟨#[32]⟩ : ByteArray) ++ ⟨(signL n).toArray⟩ ++ ⟨#[32]⟩
def isOp (n : Int) : Prop := (4 ≤ n ∧ n ≤ 10) ∨ n = 12
theorem op_cases {n : Int} (h : isOp n) : n = 4 ∨ n = 5 ∨ n = 6 ∨ n = 7 ∨ n = 8 ∨ n = 9 ∨ n = 10 ∨ n = 12 := by unfold isOp at h; omega
theorem impl_sg (n : Int) (h : isOp n) : impl_signT n = some (sgT n) := by
  unfold impl_signT
  rw [if_pos ⟨by rcases op_cases h with rfl | rfl | rfl | rfl | rfl | rfl | rfl | rfl <;> decide, h⟩]
  rfl
theorem spec_sg (n : Int) (h : isOp n) : spec_l4Sign.f n = some (sgT n) := by
  rcases op_cases h with rfl | rfl | rfl | rfl | rfl | rfl | rfl | rfl <;> decide
theorem sgT_size (n : Int) : (sgT n).size ≤ 5 := by
  unfold sgT
  rw [ByteArray.size_append, ByteArray.size_append, one_size, ba_size]
  have : (signL n).length ≤ 3 := by
    unfold signL
    repeat' split
    all_goals simp
  omega
def inIs (l : List Itm) : Prop := ∀ y ∈ l, -9223372036854775808 ≤ y.f1 ∧ y.f1 ≤ 9223372036854775807
abbrev sz (s : List ByteArray) : Nat := Gen.sumW ByteArray.size s
theorem sz_app (s t : List ByteArray) : sz (s ++ t) = sz s + sz t := by simp [sz, Gen.sumW]
theorem sz_one (u : ByteArray) : sz [u] = u.size := by simp [sz, Gen.sumW]
theorem last_one {s : List ByteArray} (h : 1 ≤ s.length) : ∃ t a, s = t ++ [a] := by
  have hn : s ≠ [] := fun e => by subst e; simp at h
  exact ⟨s.dropLast, s.getLast hn, (List.dropLast_concat_getLast hn).symm⟩
theorem getD_last (t : List ByteArray) (a d : ByteArray) : (t ++ [a]).getD ((t ++ [a]).length - 1) d = a := by simp [List.getD]
theorem take_last (t : List ByteArray) (a : ByteArray) : (t ++ [a]).take ((t ++ [a]).length - 1) = t := by simp
/-- What the families of texts come to. -/
structure Fam (dec : Nat → Int → Option ByteArray) (quo : Nat → ByteArray → Option ByteArray) (sg : Nat → Int → Option ByteArray) : Prop where
  dec : ∀ n, inI n → Ev (fun k => dec k n) (decT n)
  quo : ∀ v, v.size ≤ 1000 → Ev (fun k => quo k v) (quoT v)
  sg : ∀ n, isOp n → Ev (fun k => sg k n) (sgT n)
theorem push_ev {α : Type} {F : Nat → List ByteArray → Option α} {s : List ByteArray} {u : ByteArray} {r : α} (h1 : s.length ≤ 1000000) (h2 : u.size ≤ 1000000) (h : Ev (fun k => F k (s ++ [u])) r) : Ev (fun k => pushS (F k) s u) r := by
  refine Ev.congr (fun k => ?_) h
  unfold pushS
  rw [if_pos ⟨h1, h2⟩]
theorem stack_any : ∀ (l : List Itm) (s : List ByteArray), expRun l (s.length : Int) = true → inIs l → s.length + l.length ≤ 1000 → sz s + 500 * l.length ≤ 100000 →
    ∃ u : ByteArray, u.size ≤ sz s + 500 * l.length ∧ ∀ dec quo sg, Fam dec quo sg → Ev (fun k => stackGo (dec k) (quo k) (sg k) l s) [u]
  | [], s, h, _, _, hz => by
    rw [expRun, beq_iff_eq] at h
    obtain ⟨t, a, rfl⟩ := last_one (s := s) (by omega)
    have ht : t = [] := List.eq_nil_of_length_eq_zero (by rw [List.length_append] at h; simp only [List.length_singleton] at h; omega)
    subst ht
    refine ⟨a, by rw [sz_app, sz_one]; omega, fun dec quo sg F => ?_⟩
    exact Ev.now _
  | y :: l, s, h, hi, hn, hz => by
    rw [expRun, Bool.and_eq_true] at h
    obtain ⟨hok, h⟩ := h
    have hop := itmOk_op hok
    have hsm := itm_small hok
    have hiy := hi y List.mem_cons_self
    have hil : inIs l := fun z hz => hi z (List.mem_cons_of_mem _ hz)
    rw [List.length_cons] at hn hz
    rw [Nat.mul_add] at hz
    by_cases ca : (s.length : Int) < arity y.f0
    · rw [if_pos ca] at h; cases h
    rw [if_neg ca] at h
    have done : ∀ (t : List ByteArray) (v : ByteArray), (t.length : Int) + 1 = (s.length : Int) + (1 - arity y.f0) → v.size ≤ 1000000 → sz t + v.size ≤ sz s + 500 → t.length ≤ s.length →
        ∃ u : ByteArray, u.size ≤ sz s + 500 * (l.length + 1) ∧ ∀ dec quo sg, Fam dec quo sg → Ev (fun k => pushS (stackGo (dec k) (quo k) (sg k) l) t v) [u] := by
      intro t v e hv hs ht
      have e2 : (((t ++ [v]).length : Nat) : Int) = (s.length : Int) + (1 - arity y.f0) := by rw [List.length_append]; simp only [List.length_singleton]; omega
      rw [← e2] at h
      obtain ⟨u, hu, hk⟩ := stack_any l (t ++ [v]) h hil (by rw [List.length_append]; simp only [List.length_singleton]; omega) (by rw [sz_app, sz_one]; omega)
      rw [sz_app, sz_one] at hu
      exact ⟨u, by omega, fun dec quo sg F => push_ev (by omega) hv (hk dec quo sg F)⟩
    rw [List.length_cons]
    by_cases c1 : y.f0 = 1
    · have har : arity y.f0 = 0 := by rw [c1]; rfl
      have hin : inI y.f1 := by
        unfold itmOk at hok
        rw [if_pos c1, Bool.and_eq_true] at hok
        have := hok.1
        unfold numOk at this
        have := bne_iff_ne.mp this
        unfold inI
        omega
      have hd := decT_size y.f1 hin
      obtain ⟨u, hu, hk⟩ := done s (decT y.f1) (by omega) (by omega) (by omega) (by omega)
      refine ⟨u, hu, fun dec quo sg F => ?_⟩
      refine Ev.congr (f := fun k => (dec k y.f1).bind fun v => pushS (stackGo (dec k) (quo k) (sg k) l) s v) (fun k => by rw [stackGo, if_pos c1]) ?_
      exact (F.dec y.f1 hin).bind (hk dec quo sg F)
    by_cases c2 : y.f0 = 2
    · have har : arity y.f0 = 0 := by rw [c2]; rfl
      have hd := quoT_size y.f2
      obtain ⟨u, hu, hk⟩ := done s (quoT y.f2) (by omega) (by omega) (by omega) (by omega)
      refine ⟨u, hu, fun dec quo sg F => ?_⟩
      refine Ev.congr (f := fun k => (quo k y.f2).bind fun v => pushS (stackGo (dec k) (quo k) (sg k) l) s v) (fun k => by rw [stackGo, if_neg c1, if_pos c2]) ?_
      exact (F.quo y.f2 (by omega)).bind (hk dec quo sg F)
    by_cases c3 : y.f0 = 3
    · have har : arity y.f0 = 0 := by rw [c3]; rfl
      obtain ⟨u, hu, hk⟩ := done s y.f2 (by omega) (by omega) (by omega) (by omega)
      refine ⟨u, hu, fun dec quo sg F => ?_⟩
      exact Ev.congr (fun k => by rw [stackGo, if_neg c1, if_neg c2, if_pos c3]) (hk dec quo sg F)
    by_cases c11 : y.f0 = 11
    · have har : arity y.f0 = 1 := by rw [c11]; rfl
      obtain ⟨t, a, rfl⟩ := last_one (s := s) (by omega)
      have h5 : (⟨#[40, 110, 111, 116, 32]⟩ : ByteArray).size = 5 := rfl
      have h6 : (⟨#[41]⟩ : ByteArray).size = 1 := rfl
      have hts : (t ++ [a]).length = t.length + 1 := by simp
      rw [hts] at done hn
      have hss : sz (t ++ [a]) = sz t + a.size := by rw [sz_app, sz_one]
      rw [hss] at done hz ⊢
      obtain ⟨u, hu, hk⟩ := done t ((⟨#[40, 110, 111, 116, 32]⟩ : ByteArray) ++ a ++ ⟨#[41]⟩) (by omega) (by rw [ByteArray.size_append, ByteArray.size_append, h5, h6]; omega) (by rw [ByteArray.size_append, ByteArray.size_append, h5, h6]; omega) (by omega)
      refine ⟨u, hu, fun dec quo sg F => ?_⟩
      refine Ev.congr (fun k => ?_) (hk dec quo sg F)
      rw [stackGo, if_neg c1, if_neg c2, if_neg c3, if_pos c11, getD_last, take_last, if_pos ⟨by omega, by omega⟩]
    by_cases c13 : y.f0 = 13
    · have har : arity y.f0 = 1 := by rw [c13]; rfl
      obtain ⟨t, a, rfl⟩ := last_one (s := s) (by omega)
      have h5 : (⟨#[108, 101, 110, 40]⟩ : ByteArray).size = 4 := rfl
      have h6 : (⟨#[41]⟩ : ByteArray).size = 1 := rfl
      have hts : (t ++ [a]).length = t.length + 1 := by simp
      rw [hts] at done hn
      have hss : sz (t ++ [a]) = sz t + a.size := by rw [sz_app, sz_one]
      rw [hss] at done hz ⊢
      obtain ⟨u, hu, hk⟩ := done t ((⟨#[108, 101, 110, 40]⟩ : ByteArray) ++ a ++ ⟨#[41]⟩) (by omega) (by rw [ByteArray.size_append, ByteArray.size_append, h5, h6]; omega) (by rw [ByteArray.size_append, ByteArray.size_append, h5, h6]; omega) (by omega)
      refine ⟨u, hu, fun dec quo sg F => ?_⟩
      refine Ev.congr (fun k => ?_) (hk dec quo sg F)
      rw [stackGo, if_neg c1, if_neg c2, if_neg c3, if_neg c11, if_pos c13, getD_last, take_last, if_pos ⟨by omega, by omega⟩]
    · have hio : isOp y.f0 := by unfold isOp; omega
      have har : arity y.f0 = 2 := by unfold arity; rw [if_neg (by omega), if_neg c11, if_neg c13]
      obtain ⟨t', b, rfl⟩ := last_one (s := s) (by omega)
      have hts' : (t' ++ [b]).length = t'.length + 1 := by simp
      obtain ⟨t, a, rfl⟩ := last_one (s := t') (by omega)
      have hts : (t ++ [a]).length = t.length + 1 := by simp
      rw [hts', hts] at done hn
      have hss : sz (t ++ [a] ++ [b]) = sz t + a.size + b.size := by rw [sz_app, sz_app, sz_one, sz_one]
      rw [hss] at done hz ⊢
      have h5 : (⟨#[40]⟩ : ByteArray).size = 1 := rfl
      have h6 : (⟨#[41]⟩ : ByteArray).size = 1 := rfl
      have hg := sgT_size y.f0
      obtain ⟨u, hu, hk⟩ := done t ((⟨#[40]⟩ : ByteArray) ++ a ++ sgT y.f0 ++ b ++ ⟨#[41]⟩) (by omega) (by rw [ByteArray.size_append, ByteArray.size_append, ByteArray.size_append, ByteArray.size_append, h5, h6]; omega) (by rw [ByteArray.size_append, ByteArray.size_append, ByteArray.size_append, ByteArray.size_append, h5, h6]; omega) (by omega)
      have g1 : (t ++ [a] ++ [b]).getD ((t ++ [a] ++ [b]).length - 2) ⟨#[]⟩ = a := by simp [List.getD]
      have g2 : (t ++ [a] ++ [b]).take ((t ++ [a] ++ [b]).length - 2) = t := by simp
      refine ⟨u, hu, fun dec quo sg F => ?_⟩
      refine Ev.congr (f := fun k => (sg k y.f0).bind fun g => if g.size ≤ 1000000 then pushS (stackGo (dec k) (quo k) (sg k) l) t ((⟨#[40]⟩ : ByteArray) ++ a ++ g ++ b ++ ⟨#[41]⟩) else none) (fun k => ?_) ?_
      · rw [stackGo, if_neg c1, if_neg c2, if_neg c3, if_neg c11, if_neg c13, getD_last, g1, g2, if_pos ⟨by omega, by omega, by omega⟩]
      · refine (F.sg y.f0 hio).bind ?_
        exact Ev.pos (by omega) (hk dec quo sg F)
/-- An expression's text. -/
def expT (l : List Itm) : ByteArray := ((stackGo (fun n => some (decT n)) (fun v => some (quoT v)) (fun n => some (sgT n)) l []).getD []).getD 0 ⟨#[]⟩
theorem exp_any (l : List Itm) (h : expOk l = true) (hi : inIs l) : (expT l).size ≤ 50000 ∧ ∀ dec quo sg, Fam dec quo sg → Ev (fun k => stackGo (dec k) (quo k) (sg k) l []) [expT l] := by
  unfold expOk at h
  rw [Bool.and_eq_true, decide_eq_true_eq] at h
  have e0 : sz [] = 0 := rfl
  obtain ⟨u, hu, hk⟩ := stack_any l [] h.2 hi (by simp; omega) (by rw [e0]; omega)
  obtain ⟨k, hk1⟩ := (hk (fun _ n => some (decT n)) (fun _ v => some (quoT v)) (fun _ n => some (sgT n)) ⟨fun n _ => Ev.now _, fun v _ => Ev.now _, fun n _ => Ev.now _⟩).rounds
  have e : expT l = u := by unfold expT; rw [hk1]; rfl
  rw [e]
  exact ⟨by omega, hk⟩
theorem spec_fam : Fam (fun k n => spec_l4Dec.f k n) (fun k v => spec_l4Quote.f k v) (fun _ n => spec_l4Sign.f n) :=
  ⟨spec_dec, spec_quo, fun n h => Ev.congr (fun k => spec_sg n h) (Ev.now _)⟩
theorem impl_fam : Fam (fun _ n => strconv_Itoa_48.f n) (fun _ v => impl_quote.f v) (fun _ n => impl_signT n) :=
  ⟨fun n h => Ev.congr (fun k => impl_dec n h) (Ev.now _), fun v h => Ev.congr (fun k => impl_quo v h) (Ev.now _), fun n h => Ev.congr (fun k => impl_sg n h) (Ev.now _)⟩
theorem exp_len {l : List Itm} (h : expOk l = true) : l.length ≤ 1000000 := by have := (exp_small h).1; omega
theorem spec_et (l : List Itm) (h : expOk l = true) (hi : inIs l) : Ev (fun k => spec_l4ExpText.f k l) (expT l) := by
  unfold spec_l4ExpText.f
  refine Ev.pos (exp_len h) ?_
  refine ((exp_any l h hi).2 _ _ _ spec_fam).bind ?_
  exact Ev.now _
theorem impl_et (l : List Itm) (h : expOk l = true) (hi : inIs l) : Ev (fun k => impl_expText.f l) (expT l) := by
  unfold impl_expText.f
  refine Ev.pos (exp_len h) ?_
  refine ((exp_any l h hi).2 _ _ _ impl_fam).bind ?_
  exact Ev.now _
/-- A condition's text. -/
def whT (l : List Itm) : ByteArray := if l.length = 0 then ⟨#[]⟩ else (⟨#[32, 119, 104, 101, 114, 101, 32]⟩ : ByteArray) ++ expT l
theorem wh_exp {l : List Itm} (h : whOk l = true) (hn : ¬ l.length = 0) : expOk l = true := by
  unfold whOk at h
  rw [Bool.or_eq_true, decide_eq_true_eq] at h
  exact h.resolve_left hn
theorem whT_size {l : List Itm} (h : whOk l = true) (hi : inIs l) : (whT l).size ≤ 50010 := by
  unfold whT
  split
  · show 0 ≤ _; omega
  · rename_i hn
    have := (exp_any l (wh_exp h hn) hi).1
    rw [ByteArray.size_append, show (⟨#[32, 119, 104, 101, 114, 101, 32]⟩ : ByteArray).size = 7 from rfl]
    omega
theorem spec_wt (l : List Itm) (h : whOk l = true) (hi : inIs l) : Ev (fun k => spec_l4WhereText.f k l) (whT l) := by
  unfold spec_l4WhereText.f whT
  by_cases hn : l.length = 0
  · simp only [if_pos (show (l.length : Int) = 0 by omega), if_pos hn]
    exact Ev.now _
  · simp only [if_neg (show ¬ (l.length : Int) = 0 by omega), if_neg hn]
    refine (spec_et l (wh_exp h hn) hi).bind ?_
    have := (exp_any l (wh_exp h hn) hi).1
    exact Ev.pos (by omega) (Ev.now _)
/-- A value's text. -/
def valT (y : Val) : ByteArray := if y.f0 = 1 then decT y.f1 else quoT y.f2
def valIn (y : Val) : Prop := valOk y.f0 y.f1 y.f2 = true ∧ -9223372036854775808 ≤ y.f1 ∧ y.f1 ≤ 9223372036854775807
theorem val_num {y : Val} (h : valIn y) (c : y.f0 = 1) : inI y.f1 := by
  obtain ⟨h, h1, h2⟩ := h
  unfold valOk at h
  rw [if_pos c, Bool.and_eq_true] at h
  have := h.1
  unfold numOk at this
  have := bne_iff_ne.mp this
  unfold inI
  omega
theorem val_str {y : Val} (h : valIn y) (c : ¬ y.f0 = 1) : y.f2.size ≤ 200 := by
  have h := h.1
  unfold valOk at h
  rw [if_neg c] at h
  by_cases c2 : y.f0 = 2
  · rw [if_pos c2, Bool.and_eq_true] at h
    have := h.2
    unfold textOk at this
    rw [Bool.and_eq_true, decide_eq_true_eq] at this
    exact this.1
  · rw [if_neg c2] at h; cases h
theorem valT_size {y : Val} (h : valIn y) : (valT y).size ≤ 500 := by
  unfold valT
  split
  · have := decT_size _ (val_num h (by assumption)); omega
  · have := quoT_size y.f2; have := val_str h (by assumption); omega
theorem spec_vt (y : Val) (h : valIn y) : Ev (fun k => spec_l4Show.f k y.f0 y.f1 y.f2) (valT y) := by
  unfold spec_l4Show.f valT
  by_cases c : y.f0 = 1
  · simp only [if_pos c]
    exact (spec_dec _ (val_num h c)).bind (Ev.now _)
  · simp only [if_neg c]
    exact (spec_quo _ (by have := val_str h c; omega)).bind (Ev.now _)
theorem impl_vt (y : Val) (h : valIn y) : impl_valueText.f y.f0 y.f1 y.f2 = some (valT y) := by
  unfold impl_valueText.f valT
  by_cases c : y.f0 = 1
  · simp only [if_pos c, impl_dec _ (val_num h c), Option.bind_some]
  · simp only [if_neg c, impl_quo _ (show y.f2.size ≤ 1000 by have := val_str h c; omega), Option.bind_some]
/-- A column's text. -/
def colT (y : Col) : ByteArray := y.f0 ++ typeWord y.f1
/-- A loop that makes a list of texts. -/
theorem mapE {α : Type} (L : Nat → List ByteArray → Nat → Option ByteArray) (el : Nat → α → Option ByteArray) (tx : α → ByteArray) (fin : List ByteArray → ByteArray) (l : List α)
    (hL : ∀ k ps i (h : i < l.length), ps.length = i → L (k + 1) ps i = (el k l[i]).bind fun t => L k (ps ++ [t]) (i + 1))
    (hel : ∀ x ∈ l, Ev (fun k => el k x) (tx x)) (hfin : Ev (fun k => L k (l.map tx) l.length) (fin (l.map tx))) (d : Nat) :
    ∀ i ps, i + d = l.length → ps = (l.take i).map tx → Ev (fun k => L k ps i) (fin (l.map tx)) := by
  induction d with
  | zero =>
    intro i ps hi hp
    obtain rfl : i = l.length := by omega
    rw [hp, List.take_length]
    exact hfin
  | succ d ih =>
    intro i ps hi hp
    have hil : i < l.length := by omega
    refine Ev.step (fun k => hL k ps i hil (by rw [hp, List.length_map, List.length_take]; omega)) ?_
    refine (hel l[i] (List.getElem_mem hil)).bind ?_
    exact ih (i + 1) _ (by omega) (by rw [hp, List.take_succ_eq_append_getElem hil, List.map_append]; rfl)
end Go.Proofs.YtbpfdjbnfkclcaaGreatDoor.Pure
end
section
set_option linter.unusedVariables false
set_option linter.unusedSimpArgs false
namespace Go.Proofs.YtbpfdjbnfkclcaaGreatDoor.Pure
open Go Go.RowKit Go.Proofs.YtbpfdjbnfkclcaaGreatDoor Go.Proofs.YtbpfdjbnfkclcaaGreatDoor.L Go.Proofs.YtbpfdjbnfkclcaaGreatDoorW.PrintWords Go.Proofs.YtbpfdjbnfkclcaaGreatDoorW.PrintMore Go.Proofs.YtbpfdjbnfkclcaaGreatDoorW.PrintLast
theorem lit_size (a : Array UInt8) : (⟨a⟩ : ByteArray).size = a.size := rfl
/-- A statement's text. -/
def sqlT (kind : Int) (table : ByteArray) (cols : List Col) (vals : List Val) (col : ByteArray) (exp wh : List Itm) (outs : List (List Itm)) : ByteArray :=
  if kind = 1 then (fun ps => (((((⟨#[99, 114, 101, 97, 116, 101, 32, 116, 97, 98, 108, 101, 32]⟩ : ByteArray) ++ table) ++ (⟨#[32, 40]⟩ : ByteArray)) ++ joinT ps) ++ (⟨#[41]⟩ : ByteArray))) (cols.map colT)
  else if kind = 2 then (fun ps => (((((⟨#[105, 110, 115, 101, 114, 116, 32, 105, 110, 116, 111, 32]⟩ : ByteArray) ++ table) ++ (⟨#[32, 118, 97, 108, 117, 101, 115, 32, 40]⟩ : ByteArray)) ++ joinT ps) ++ (⟨#[41]⟩ : ByteArray))) (vals.map valT)
  else if kind = 3 then (((((((⟨#[117, 112, 100, 97, 116, 101, 32]⟩ : ByteArray) ++ table) ++ (⟨#[32, 115, 101, 116, 32]⟩ : ByteArray)) ++ col) ++ (⟨#[32, 61, 32]⟩ : ByteArray)) ++ expT exp) ++ whT wh)
  else if kind = 4 then (((⟨#[100, 101, 108, 101, 116, 101, 32, 102, 114, 111, 109, 32]⟩ : ByteArray) ++ table) ++ whT wh)
  else (fun ps => (((((⟨#[115, 101, 108, 101, 99, 116, 32]⟩ : ByteArray) ++ joinT ps) ++ (⟨#[32, 102, 114, 111, 109, 32]⟩ : ByteArray)) ++ table) ++ whT wh)) (outs.map expT)
def sqlStm (kind : Int) (table : ByteArray) (cols : List Col) (vals : List Val) (col : ByteArray) (exp wh : List Itm) (outs : List (List Itm)) : ByteArray :=
  if stmOk kind table cols vals col exp wh outs = true then sqlT kind table cols vals col exp wh outs else ⟨#[]⟩
theorem stm_parts {kind : Int} {table : ByteArray} {cols : List Col} {vals : List Val} {col : ByteArray} {exp wh : List Itm} {outs : List (List Itm)} (h : stmOk kind table cols vals col exp wh outs = true) :
    table.size ≤ 30 ∧ (kind = 1 → (1 ≤ cols.length ∧ cols.length ≤ 20) ∧ (∀ y ∈ cols, colOk y = true) ∧ wh.length = 0) ∧ (kind = 2 → (1 ≤ vals.length ∧ vals.length ≤ 20) ∧ (∀ y ∈ vals, valOk y.f0 y.f1 y.f2 = true) ∧ wh.length = 0) ∧
      (kind = 3 → nameKw col = true ∧ expOk exp = true ∧ whOk wh = true) ∧ (kind = 4 → whOk wh = true) ∧ (¬ kind = 1 → ¬ kind = 2 → ¬ kind = 3 → ¬ kind = 4 → (1 ≤ outs.length ∧ outs.length ≤ 20) ∧ (∀ y ∈ outs, expOk y = true) ∧ whOk wh = true) := by
  unfold stmOk at h
  rw [Bool.and_eq_true] at h
  obtain ⟨hn, h⟩ := h
  refine ⟨name_small hn, fun k => ?_, fun k => ?_, fun k => ?_, fun k => ?_, fun k1 k2 k3 k4 => ?_⟩
  · subst k
    simp only [if_true, Bool.and_eq_true, decide_eq_true_eq, List.all_eq_true] at h
    exact ⟨h.2.2.2.2.2.1, h.2.2.2.2.2.2, h.2.2.2.2.1⟩
  · subst k
    simp only [show ¬ (2 : Int) = 1 by decide, if_false, if_true, Bool.and_eq_true, decide_eq_true_eq, List.all_eq_true] at h
    exact ⟨h.2.2.2.2.2.1, h.2.2.2.2.2.2, h.2.2.2.2.1⟩
  · subst k
    simp only [show ¬ (3 : Int) = 1 by decide, show ¬ (3 : Int) = 2 by decide, if_false, if_true, Bool.and_eq_true, decide_eq_true_eq] at h
    exact ⟨h.2.2.2.1, h.2.2.2.2.1, h.2.2.2.2.2⟩
  · subst k
    simp only [show ¬ (4 : Int) = 1 by decide, show ¬ (4 : Int) = 2 by decide, show ¬ (4 : Int) = 3 by decide, if_false, if_true, Bool.and_eq_true, decide_eq_true_eq] at h
    exact h.2.2.2.2.2
  · rw [if_neg k1, if_neg k2, if_neg k3, if_neg k4] at h
    by_cases k5 : kind = 5
    · simp only [if_pos k5, Bool.and_eq_true, decide_eq_true_eq, List.all_eq_true] at h
      exact ⟨h.2.2.2.2.1, h.2.2.2.2.2.1, h.2.2.2.2.2.2⟩
    · rw [if_neg k5] at h; cases h
theorem col_two {y : Col} (h : colOk y = true) : y.f0.size ≤ 30 ∧ (y.f1 = 1 ∨ y.f1 = 2) := by
  unfold colOk at h
  rw [Bool.and_eq_true, Bool.or_eq_true, decide_eq_true_eq, decide_eq_true_eq] at h
  exact ⟨name_small h.1, h.2⟩
theorem colT_size {y : Col} (h : colOk y = true) : (colT y).size ≤ 40 := by
  unfold colT
  rw [ByteArray.size_append]
  have := (col_two h).1
  have := typeWord_size y.f1
  omega
theorem all_map {α : Type} {l : List α} {tx : α → ByteArray} {B : Nat} (h : ∀ y ∈ l, (tx y).size ≤ B) : ∀ x ∈ l.map tx, x.size ≤ B := fun x hx => by
  obtain ⟨y, hy, rfl⟩ := List.mem_map.1 hx
  exact h y hy
theorem spec_sql0 (kind : Int) (table : ByteArray) (cols : List Col) (vals : List Val) (col : ByteArray) (exp wh : List Itm) (outs : List (List Itm)) (ht : table.size ≤ 30) (hn : 1 ≤ cols.length ∧ cols.length ≤ 20) (hc : ∀ y ∈ cols, colOk y = true) :
    Ev (fun k => spec_PrintSql.l0 k [] cols (cols.length : Int) 0 kind table cols vals col exp wh outs) ((fun ps => (((((⟨#[99, 114, 101, 97, 116, 101, 32, 116, 97, 98, 108, 101, 32]⟩ : ByteArray) ++ table) ++ (⟨#[32, 40]⟩ : ByteArray)) ++ joinT ps) ++ (⟨#[41]⟩ : ByteArray))) (cols.map colT)) := by
  have hm := all_map (tx := colT) (B := 40) (fun y hy => colT_size (hc y hy))
  have hl : (cols.map colT).length = cols.length := List.length_map ..
  have hj := joinT_size 40 (cols.map colT) hm (by omega)
  rw [hl] at hj
  have hz : (joinT (cols.map colT)).size ≤ 1100000 := by have : cols.length * (40 + 2) ≤ 20 * (40 + 2) := Nat.mul_le_mul_right _ (by omega); omega
  have := mapE (fun k ps i => spec_PrintSql.l0 k ps cols (cols.length : Int) (i : Int) kind table cols vals col exp wh outs) (fun k y => some (colT y)) colT (fun ps => (((((⟨#[99, 114, 101, 97, 116, 101, 32, 116, 97, 98, 108, 101, 32]⟩ : ByteArray) ++ table) ++ (⟨#[32, 40]⟩ : ByteArray)) ++ joinT ps) ++ (⟨#[41]⟩ : ByteArray))) cols
    (fun k ps i h hp => by
      obtain ⟨hcz, hct⟩ := col_two (hc _ (List.getElem_mem h))
      have hw := typeWord_size cols[i].f1
      have ht : rdOf ByteArray.empty ([(⟨#[]⟩ : ByteArray), (⟨#[32, 105, 110, 116]⟩ : ByteArray), (⟨#[32, 116, 101, 120, 116]⟩ : ByteArray)] : List ByteArray) cols[i].f1 = typeWord cols[i].f1 := by rcases hct with e | e <;> rw [e] <;> rfl
      rw [spec_PrintSql.l0, if_pos (by omega), if_pos (by omega), if_pos (by omega), Option.bind_some, rdCol cols i h, ht, if_pos (by omega), if_pos (by show _ < ((3 : Nat) : Int); omega), if_pos (by omega), if_pos (by omega), wsucc i (by omega)]
      rfl
      ) (fun y hy => Ev.now _) (by
      refine Ev.step (f := fun k => (spec_l4Commas.f k (cols.map colT)).bind fun t => if (((⟨#[99, 114, 101, 97, 116, 101, 32, 116, 97, 98, 108, 101, 32]⟩ : ByteArray) ++ table) ++ (⟨#[32, 40]⟩ : ByteArray)).size + t.size ≤ 9223372036854775807 then (if ((((⟨#[99, 114, 101, 97, 116, 101, 32, 116, 97, 98, 108, 101, 32]⟩ : ByteArray) ++ table) ++ (⟨#[32, 40]⟩ : ByteArray)) ++ t).size + 1 ≤ 9223372036854775807 then some (((((⟨#[99, 114, 101, 97, 116, 101, 32, 116, 97, 98, 108, 101, 32]⟩ : ByteArray) ++ table) ++ (⟨#[32, 40]⟩ : ByteArray)) ++ t) ++ (⟨#[41]⟩ : ByteArray)) else none) else none) (fun k => by rw [spec_PrintSql.l0, if_neg (by omega), if_pos (by omega), if_pos (by (try simp only [ByteArray.size_append, lit_size, List.size_toArray, List.length_cons, List.length_nil]); omega)]) ?_
      refine (spec_commas (cols.map colT) (fun x hx => by have := hm x hx; omega) (by omega) (by omega)).bind ?_
      refine Ev.pos (by (try simp only [ByteArray.size_append, lit_size, List.size_toArray, List.length_cons, List.length_nil]); omega) ?_
      refine Ev.pos (by (try simp only [ByteArray.size_append, lit_size, List.size_toArray, List.length_cons, List.length_nil]); omega) ?_
      exact Ev.now _) cols.length 0 [] (by omega) rfl
  exact this
theorem spec_sql1 (kind : Int) (table : ByteArray) (cols : List Col) (vals : List Val) (col : ByteArray) (exp wh : List Itm) (outs : List (List Itm)) (ht : table.size ≤ 30) (hn : 1 ≤ vals.length ∧ vals.length ≤ 20) (hc : ∀ y ∈ vals, valIn y) :
    Ev (fun k => spec_PrintSql.l1 k [] vals (vals.length : Int) 0 kind table cols vals col exp wh outs) ((fun ps => (((((⟨#[105, 110, 115, 101, 114, 116, 32, 105, 110, 116, 111, 32]⟩ : ByteArray) ++ table) ++ (⟨#[32, 118, 97, 108, 117, 101, 115, 32, 40]⟩ : ByteArray)) ++ joinT ps) ++ (⟨#[41]⟩ : ByteArray))) (vals.map valT)) := by
  have hm := all_map (tx := valT) (B := 500) (fun y hy => valT_size (hc y hy))
  have hl : (vals.map valT).length = vals.length := List.length_map ..
  have hj := joinT_size 500 (vals.map valT) hm (by omega)
  rw [hl] at hj
  have hz : (joinT (vals.map valT)).size ≤ 1100000 := by have : vals.length * (500 + 2) ≤ 20 * (500 + 2) := Nat.mul_le_mul_right _ (by omega); omega
  have := mapE (fun k ps i => spec_PrintSql.l1 k ps vals (vals.length : Int) (i : Int) kind table cols vals col exp wh outs) (fun k y => spec_l4Show.f k y.f0 y.f1 y.f2) valT (fun ps => (((((⟨#[105, 110, 115, 101, 114, 116, 32, 105, 110, 116, 111, 32]⟩ : ByteArray) ++ table) ++ (⟨#[32, 118, 97, 108, 117, 101, 115, 32, 40]⟩ : ByteArray)) ++ joinT ps) ++ (⟨#[41]⟩ : ByteArray))) vals
    (fun k ps i h hp => by
      have hp2 : ps.length < 8796093022208 := by omega
      rw [spec_PrintSql.l1, if_pos (by omega), if_pos (by omega), if_pos (by omega), rdVal vals i h, wsucc i (by omega)]
      simp only [if_pos hp2]
      ) (fun y hy => spec_vt y (hc y hy)) (by
      refine Ev.step (f := fun k => (spec_l4Commas.f k (vals.map valT)).bind fun t => if (((⟨#[105, 110, 115, 101, 114, 116, 32, 105, 110, 116, 111, 32]⟩ : ByteArray) ++ table) ++ (⟨#[32, 118, 97, 108, 117, 101, 115, 32, 40]⟩ : ByteArray)).size + t.size ≤ 9223372036854775807 then (if ((((⟨#[105, 110, 115, 101, 114, 116, 32, 105, 110, 116, 111, 32]⟩ : ByteArray) ++ table) ++ (⟨#[32, 118, 97, 108, 117, 101, 115, 32, 40]⟩ : ByteArray)) ++ t).size + 1 ≤ 9223372036854775807 then some (((((⟨#[105, 110, 115, 101, 114, 116, 32, 105, 110, 116, 111, 32]⟩ : ByteArray) ++ table) ++ (⟨#[32, 118, 97, 108, 117, 101, 115, 32, 40]⟩ : ByteArray)) ++ t) ++ (⟨#[41]⟩ : ByteArray)) else none) else none) (fun k => by rw [spec_PrintSql.l1, if_neg (by omega), if_pos (by omega), if_pos (by (try simp only [ByteArray.size_append, lit_size, List.size_toArray, List.length_cons, List.length_nil]); omega)]) ?_
      refine (spec_commas (vals.map valT) (fun x hx => by have := hm x hx; omega) (by omega) (by omega)).bind ?_
      refine Ev.pos (by (try simp only [ByteArray.size_append, lit_size, List.size_toArray, List.length_cons, List.length_nil]); omega) ?_
      refine Ev.pos (by (try simp only [ByteArray.size_append, lit_size, List.size_toArray, List.length_cons, List.length_nil]); omega) ?_
      exact Ev.now _) vals.length 0 [] (by omega) rfl
  exact this
theorem spec_sql2 (kind : Int) (table : ByteArray) (cols : List Col) (vals : List Val) (col : ByteArray) (exp wh : List Itm) (outs : List (List Itm)) (ht : table.size ≤ 30) (hn : 1 ≤ outs.length ∧ outs.length ≤ 20) (hc : ∀ y ∈ outs, expOk y = true) (hi : ∀ y ∈ outs, inIs y) (hwo : whOk wh = true) (hwi : inIs wh) :
    Ev (fun k => spec_PrintSql.l2 k [] outs (outs.length : Int) 0 kind table cols vals col exp wh outs) ((fun ps => (((((⟨#[115, 101, 108, 101, 99, 116, 32]⟩ : ByteArray) ++ joinT ps) ++ (⟨#[32, 102, 114, 111, 109, 32]⟩ : ByteArray)) ++ table) ++ whT wh)) (outs.map expT)) := by
  have hm := all_map (tx := expT) (B := 50000) (fun y hy => (exp_any y (hc y hy) (hi y hy)).1)
  have hl : (outs.map expT).length = outs.length := List.length_map ..
  have hj := joinT_size 50000 (outs.map expT) hm (by omega)
  rw [hl] at hj
  have hw := whT_size hwo hwi
  have hz : (joinT (outs.map expT)).size ≤ 1100000 := by have : outs.length * (50000 + 2) ≤ 20 * (50000 + 2) := Nat.mul_le_mul_right _ (by omega); omega
  have := mapE (fun k ps i => spec_PrintSql.l2 k ps outs (outs.length : Int) (i : Int) kind table cols vals col exp wh outs) (fun k y => spec_l4ExpText.f k y) expT (fun ps => (((((⟨#[115, 101, 108, 101, 99, 116, 32]⟩ : ByteArray) ++ joinT ps) ++ (⟨#[32, 102, 114, 111, 109, 32]⟩ : ByteArray)) ++ table) ++ whT wh)) outs
    (fun k ps i h hp => by
      have hp2 : ps.length < 8796093022208 := by omega
      rw [spec_PrintSql.l2, if_pos (by omega), if_pos (by omega), if_pos (by omega), rdII outs i h, wsucc i (by omega)]
      simp only [if_pos hp2]
      ) (fun y hy => spec_et y (hc y hy) (hi y hy)) (by
      refine Ev.step (f := fun k => (spec_l4Commas.f k (outs.map expT)).bind fun t => if 7 + t.size ≤ 9223372036854775807 then (if ((⟨#[115, 101, 108, 101, 99, 116, 32]⟩ : ByteArray) ++ t).size + 6 ≤ 9223372036854775807 then (if (((⟨#[115, 101, 108, 101, 99, 116, 32]⟩ : ByteArray) ++ t) ++ (⟨#[32, 102, 114, 111, 109, 32]⟩ : ByteArray)).size + table.size ≤ 9223372036854775807 then (spec_l4WhereText.f k wh).bind fun u => if ((((⟨#[115, 101, 108, 101, 99, 116, 32]⟩ : ByteArray) ++ t) ++ (⟨#[32, 102, 114, 111, 109, 32]⟩ : ByteArray)) ++ table).size + u.size ≤ 9223372036854775807 then some (((((⟨#[115, 101, 108, 101, 99, 116, 32]⟩ : ByteArray) ++ t) ++ (⟨#[32, 102, 114, 111, 109, 32]⟩ : ByteArray)) ++ table) ++ u) else none else none) else none) else none) (fun k => by rw [spec_PrintSql.l2, if_neg (by omega)]) ?_
      refine (spec_commas (outs.map expT) (fun x hx => by have := hm x hx; omega) (by omega) (by omega)).bind ?_
      refine Ev.pos (by (try simp only [ByteArray.size_append, lit_size, List.size_toArray, List.length_cons, List.length_nil]); omega) ?_
      refine Ev.pos (by (try simp only [ByteArray.size_append, lit_size, List.size_toArray, List.length_cons, List.length_nil]); omega) ?_
      refine Ev.pos (by (try simp only [ByteArray.size_append, lit_size, List.size_toArray, List.length_cons, List.length_nil]); omega) ?_
      refine (spec_wt wh hwo hwi).bind ?_
      refine Ev.pos (by (try simp only [ByteArray.size_append, lit_size, List.size_toArray, List.length_cons, List.length_nil]); omega) ?_
      exact Ev.now _) outs.length 0 [] (by omega) rfl
  exact this
theorem impl_sql0 (kind : Int) (table : ByteArray) (cols : List Col) (vals : List Val) (col : ByteArray) (exp wh : List Itm) (outs : List (List Itm)) (ht : table.size ≤ 30) (hn : 1 ≤ cols.length ∧ cols.length ≤ 20) (hc : ∀ y ∈ cols, colOk y = true) :
    Ev (fun k => impl_PrintSql.l0 k [] cols (cols.length : Int) 0 kind table cols vals col exp wh outs) ((fun ps => (((((⟨#[99, 114, 101, 97, 116, 101, 32, 116, 97, 98, 108, 101, 32]⟩ : ByteArray) ++ table) ++ (⟨#[32, 40]⟩ : ByteArray)) ++ joinT ps) ++ (⟨#[41]⟩ : ByteArray))) (cols.map colT)) := by
  have hm := all_map (tx := colT) (B := 40) (fun y hy => colT_size (hc y hy))
  have hl : (cols.map colT).length = cols.length := List.length_map ..
  have hj := joinT_size 40 (cols.map colT) hm (by omega)
  rw [hl] at hj
  have hz : (joinT (cols.map colT)).size ≤ 1100000 := by have : cols.length * (40 + 2) ≤ 20 * (40 + 2) := Nat.mul_le_mul_right _ (by omega); omega
  have := mapE (fun k ps i => impl_PrintSql.l0 k ps cols (cols.length : Int) (i : Int) kind table cols vals col exp wh outs) (fun k y => some (colT y)) colT (fun ps => (((((⟨#[99, 114, 101, 97, 116, 101, 32, 116, 97, 98, 108, 101, 32]⟩ : ByteArray) ++ table) ++ (⟨#[32, 40]⟩ : ByteArray)) ++ joinT ps) ++ (⟨#[41]⟩ : ByteArray))) cols
    (fun k ps i h hp => by
      obtain ⟨hcz, hct⟩ := col_two (hc _ (List.getElem_mem h))
      have hw := typeWord_size cols[i].f1
      rw [impl_PrintSql.l0, if_pos (by omega), if_pos (by omega), if_pos (by omega), rdCol cols i h, if_pos (by omega), if_pos (by omega), wsucc i (by omega)]
      rfl
      ) (fun y hy => Ev.now _) (by
      refine Ev.step (f := fun k => (strings_Join.f (cols.map colT) (⟨#[44, 32]⟩ : ByteArray)).bind fun t => if (((⟨#[99, 114, 101, 97, 116, 101, 32, 116, 97, 98, 108, 101, 32]⟩ : ByteArray) ++ table) ++ (⟨#[32, 40]⟩ : ByteArray)).size + t.size ≤ 9223372036854775807 then (if ((((⟨#[99, 114, 101, 97, 116, 101, 32, 116, 97, 98, 108, 101, 32]⟩ : ByteArray) ++ table) ++ (⟨#[32, 40]⟩ : ByteArray)) ++ t).size + 1 ≤ 9223372036854775807 then some (((((⟨#[99, 114, 101, 97, 116, 101, 32, 116, 97, 98, 108, 101, 32]⟩ : ByteArray) ++ table) ++ (⟨#[32, 40]⟩ : ByteArray)) ++ t) ++ (⟨#[41]⟩ : ByteArray)) else none) else none) (fun k => by rw [impl_PrintSql.l0, if_neg (by omega), if_pos (by omega), if_pos (by (try simp only [ByteArray.size_append, lit_size, List.size_toArray, List.length_cons, List.length_nil]); omega)]) ?_
      simp only [impl_join (cols.map colT) (fun x hx => by have := hm x hx; omega) (by omega) (by omega), Option.bind_some]
      refine Ev.pos (by (try simp only [ByteArray.size_append, lit_size, List.size_toArray, List.length_cons, List.length_nil]); omega) ?_
      refine Ev.pos (by (try simp only [ByteArray.size_append, lit_size, List.size_toArray, List.length_cons, List.length_nil]); omega) ?_
      exact Ev.now _) cols.length 0 [] (by omega) rfl
  exact this
theorem impl_sql1 (kind : Int) (table : ByteArray) (cols : List Col) (vals : List Val) (col : ByteArray) (exp wh : List Itm) (outs : List (List Itm)) (ht : table.size ≤ 30) (hn : 1 ≤ vals.length ∧ vals.length ≤ 20) (hc : ∀ y ∈ vals, valIn y) :
    Ev (fun k => impl_PrintSql.l1 k [] vals (vals.length : Int) 0 kind table cols vals col exp wh outs) ((fun ps => (((((⟨#[105, 110, 115, 101, 114, 116, 32, 105, 110, 116, 111, 32]⟩ : ByteArray) ++ table) ++ (⟨#[32, 118, 97, 108, 117, 101, 115, 32, 40]⟩ : ByteArray)) ++ joinT ps) ++ (⟨#[41]⟩ : ByteArray))) (vals.map valT)) := by
  have hm := all_map (tx := valT) (B := 500) (fun y hy => valT_size (hc y hy))
  have hl : (vals.map valT).length = vals.length := List.length_map ..
  have hj := joinT_size 500 (vals.map valT) hm (by omega)
  rw [hl] at hj
  have hz : (joinT (vals.map valT)).size ≤ 1100000 := by have : vals.length * (500 + 2) ≤ 20 * (500 + 2) := Nat.mul_le_mul_right _ (by omega); omega
  have := mapE (fun k ps i => impl_PrintSql.l1 k ps vals (vals.length : Int) (i : Int) kind table cols vals col exp wh outs) (fun k y => impl_valueText.f y.f0 y.f1 y.f2) valT (fun ps => (((((⟨#[105, 110, 115, 101, 114, 116, 32, 105, 110, 116, 111, 32]⟩ : ByteArray) ++ table) ++ (⟨#[32, 118, 97, 108, 117, 101, 115, 32, 40]⟩ : ByteArray)) ++ joinT ps) ++ (⟨#[41]⟩ : ByteArray))) vals
    (fun k ps i h hp => by
      have hp2 : ps.length < 8796093022208 := by omega
      rw [impl_PrintSql.l1, if_pos (by omega), if_pos (by omega), if_pos (by omega), rdVal vals i h, wsucc i (by omega)]
      simp only [if_pos hp2]
      ) (fun y hy => Ev.congr (fun k => impl_vt y (hc y hy)) (Ev.now _)) (by
      refine Ev.step (f := fun k => (strings_Join.f (vals.map valT) (⟨#[44, 32]⟩ : ByteArray)).bind fun t => if (((⟨#[105, 110, 115, 101, 114, 116, 32, 105, 110, 116, 111, 32]⟩ : ByteArray) ++ table) ++ (⟨#[32, 118, 97, 108, 117, 101, 115, 32, 40]⟩ : ByteArray)).size + t.size ≤ 9223372036854775807 then (if ((((⟨#[105, 110, 115, 101, 114, 116, 32, 105, 110, 116, 111, 32]⟩ : ByteArray) ++ table) ++ (⟨#[32, 118, 97, 108, 117, 101, 115, 32, 40]⟩ : ByteArray)) ++ t).size + 1 ≤ 9223372036854775807 then some (((((⟨#[105, 110, 115, 101, 114, 116, 32, 105, 110, 116, 111, 32]⟩ : ByteArray) ++ table) ++ (⟨#[32, 118, 97, 108, 117, 101, 115, 32, 40]⟩ : ByteArray)) ++ t) ++ (⟨#[41]⟩ : ByteArray)) else none) else none) (fun k => by rw [impl_PrintSql.l1, if_neg (by omega), if_pos (by omega), if_pos (by (try simp only [ByteArray.size_append, lit_size, List.size_toArray, List.length_cons, List.length_nil]); omega)]) ?_
      simp only [impl_join (vals.map valT) (fun x hx => by have := hm x hx; omega) (by omega) (by omega), Option.bind_some]
      refine Ev.pos (by (try simp only [ByteArray.size_append, lit_size, List.size_toArray, List.length_cons, List.length_nil]); omega) ?_
      refine Ev.pos (by (try simp only [ByteArray.size_append, lit_size, List.size_toArray, List.length_cons, List.length_nil]); omega) ?_
      exact Ev.now _) vals.length 0 [] (by omega) rfl
  exact this
theorem impl_sql2 (kind : Int) (table : ByteArray) (cols : List Col) (vals : List Val) (col : ByteArray) (exp wh : List Itm) (outs : List (List Itm)) (ht : table.size ≤ 30) (hn : 1 ≤ outs.length ∧ outs.length ≤ 20) (hc : ∀ y ∈ outs, expOk y = true) (hi : ∀ y ∈ outs, inIs y) (hwo : whOk wh = true) (hwi : inIs wh) (w4 : ByteArray) (h4 : w4 = whT wh) :
    Ev (fun k => impl_PrintSql.l2 k [] w4 outs (outs.length : Int) 0 kind table cols vals col exp wh outs) ((fun ps => (((((⟨#[115, 101, 108, 101, 99, 116, 32]⟩ : ByteArray) ++ joinT ps) ++ (⟨#[32, 102, 114, 111, 109, 32]⟩ : ByteArray)) ++ table) ++ whT wh)) (outs.map expT)) := by
  have hm := all_map (tx := expT) (B := 50000) (fun y hy => (exp_any y (hc y hy) (hi y hy)).1)
  have hl : (outs.map expT).length = outs.length := List.length_map ..
  have hj := joinT_size 50000 (outs.map expT) hm (by omega)
  rw [hl] at hj
  have hw := whT_size hwo hwi
  subst h4
  generalize hW : whT wh = w4
  rw [hW] at hw
  have hz : (joinT (outs.map expT)).size ≤ 1100000 := by have : outs.length * (50000 + 2) ≤ 20 * (50000 + 2) := Nat.mul_le_mul_right _ (by omega); omega
  have := mapE (fun k ps i => impl_PrintSql.l2 k ps w4 outs (outs.length : Int) (i : Int) kind table cols vals col exp wh outs) (fun k y => impl_expText.f y) expT (fun ps => (((((⟨#[115, 101, 108, 101, 99, 116, 32]⟩ : ByteArray) ++ joinT ps) ++ (⟨#[32, 102, 114, 111, 109, 32]⟩ : ByteArray)) ++ table) ++ w4)) outs
    (fun k ps i h hp => by
      have hp2 : ps.length < 8796093022208 := by omega
      rw [impl_PrintSql.l2, if_pos (by omega), if_pos (by omega), if_pos (by omega), rdII outs i h, wsucc i (by omega)]
      simp only [if_pos hp2]
      ) (fun y hy => impl_et y (hc y hy) (hi y hy)) (by
      refine Ev.step (f := fun k => (strings_Join.f (outs.map expT) (⟨#[44, 32]⟩ : ByteArray)).bind fun t => if 7 + t.size ≤ 9223372036854775807 then (if ((⟨#[115, 101, 108, 101, 99, 116, 32]⟩ : ByteArray) ++ t).size + 6 ≤ 9223372036854775807 then (if (((⟨#[115, 101, 108, 101, 99, 116, 32]⟩ : ByteArray) ++ t) ++ (⟨#[32, 102, 114, 111, 109, 32]⟩ : ByteArray)).size + table.size ≤ 9223372036854775807 then (if ((((⟨#[115, 101, 108, 101, 99, 116, 32]⟩ : ByteArray) ++ t) ++ (⟨#[32, 102, 114, 111, 109, 32]⟩ : ByteArray)) ++ table).size + w4.size ≤ 9223372036854775807 then some (((((⟨#[115, 101, 108, 101, 99, 116, 32]⟩ : ByteArray) ++ t) ++ (⟨#[32, 102, 114, 111, 109, 32]⟩ : ByteArray)) ++ table) ++ w4) else none) else none) else none) else none) (fun k => by rw [impl_PrintSql.l2, if_neg (by omega)]) ?_
      simp only [impl_join (outs.map expT) (fun x hx => by have := hm x hx; omega) (by omega) (by omega), Option.bind_some]
      refine Ev.pos (by (try simp only [ByteArray.size_append, lit_size, List.size_toArray, List.length_cons, List.length_nil]); omega) ?_
      refine Ev.pos (by (try simp only [ByteArray.size_append, lit_size, List.size_toArray, List.length_cons, List.length_nil]); omega) ?_
      refine Ev.pos (by (try simp only [ByteArray.size_append, lit_size, List.size_toArray, List.length_cons, List.length_nil]); omega) ?_
      refine Ev.pos (by (try simp only [ByteArray.size_append, lit_size, List.size_toArray, List.length_cons, List.length_nil]); omega) ?_
      exact Ev.now _) outs.length 0 [] (by omega) rfl
  exact this
theorem spec_sql (kind : Int) (table : ByteArray) (cols : List Col) (vals : List Val) (col : ByteArray) (exp wh : List Itm) (outs : List (List Itm)) (hv : ∀ y ∈ vals, -9223372036854775808 ≤ y.f1 ∧ y.f1 ≤ 9223372036854775807) (he : inIs exp) (hw : inIs wh) (ho : ∀ y ∈ outs, inIs y)
    (hok : Ev (fun k => spec_StmOK.f k kind table cols vals col exp wh outs) (stmOk kind table cols vals col exp wh outs)) :
    Ev (fun k => spec_PrintSql.f k kind table cols vals col exp wh outs) (sqlStm kind table cols vals col exp wh outs) := by
  unfold spec_PrintSql.f sqlStm
  refine hok.bind ?_
  cases hb : stmOk kind table cols vals col exp wh outs with
  | false => simp only [if_neg ff]; exact Ev.now _
  | true =>
    obtain ⟨ht, h1, h2, h3, h4, h5⟩ := stm_parts hb
    simp only [if_true, Option.bind_some]
    unfold sqlT
    by_cases k1 : kind = 1
    · simp only [if_pos k1]
      obtain ⟨g1, g2, g3⟩ := h1 k1
      exact spec_sql0 kind table cols vals col exp wh outs ht g1 g2
    simp only [if_neg k1]
    by_cases k2 : kind = 2
    · simp only [if_pos k2]
      obtain ⟨g1, g2, g3⟩ := h2 k2
      exact spec_sql1 kind table cols vals col exp wh outs ht g1 (fun y hy => ⟨g2 y hy, hv y hy⟩)
    simp only [if_neg k2]
    by_cases k3 : kind = 3
    · simp only [if_pos k3]
      obtain ⟨g1, g2, g3⟩ := h3 k3
      have c1 := name_small g1
      have c2 := (exp_any exp g2 he).1
      have c3 := whT_size g3 hw
      refine Ev.pos (by omega) ?_
      refine Ev.pos (by (try simp only [ByteArray.size_append, lit_size, List.size_toArray, List.length_cons, List.length_nil]); omega) ?_
      refine Ev.pos (by (try simp only [ByteArray.size_append, lit_size, List.size_toArray, List.length_cons, List.length_nil]); omega) ?_
      refine Ev.pos (by (try simp only [ByteArray.size_append, lit_size, List.size_toArray, List.length_cons, List.length_nil]); omega) ?_
      refine (spec_et exp g2 he).bind ?_
      refine Ev.pos (by (try simp only [ByteArray.size_append, lit_size, List.size_toArray, List.length_cons, List.length_nil]); omega) ?_
      refine (spec_wt wh g3 hw).bind ?_
      refine Ev.pos (by (try simp only [ByteArray.size_append, lit_size, List.size_toArray, List.length_cons, List.length_nil]); omega) ?_
      exact Ev.now _
    simp only [if_neg k3]
    by_cases k4 : kind = 4
    · simp only [if_pos k4]
      have g3 := h4 k4
      have c3 := whT_size g3 hw
      refine Ev.pos (by omega) ?_
      refine (spec_wt wh g3 hw).bind ?_
      refine Ev.pos (by (try simp only [ByteArray.size_append, lit_size, List.size_toArray, List.length_cons, List.length_nil]); omega) ?_
      exact Ev.now _
    simp only [if_neg k4]
    obtain ⟨g1, g2, g3⟩ := h5 k1 k2 k3 k4
    exact spec_sql2 kind table cols vals col exp wh outs ht g1 g2 ho g3 hw
theorem impl_sqlJ (kind : Int) (table : ByteArray) (cols : List Col) (vals : List Val) (col : ByteArray) (exp wh : List Itm) (outs : List (List Itm)) (hv : ∀ y ∈ vals, -9223372036854775808 ≤ y.f1 ∧ y.f1 ≤ 9223372036854775807) (he : inIs exp) (hw : inIs wh) (ho : ∀ y ∈ outs, inIs y)
    (hb : stmOk kind table cols vals col exp wh outs = true) : Ev (fun k => impl_PrintSql.j0 k [] (whT wh) kind table cols vals col exp wh outs) (sqlT kind table cols vals col exp wh outs) := by
  obtain ⟨ht, h1, h2, h3, h4, h5⟩ := stm_parts hb
  unfold sqlT
  by_cases k1 : kind = 1
  · rw [if_pos k1]
    obtain ⟨g1, g2, g3⟩ := h1 k1
    exact Ev.step (fun k => by rw [impl_PrintSql.j0, if_pos k1]) (impl_sql0 kind table cols vals col exp wh outs ht g1 g2)
  rw [if_neg k1]
  by_cases k2 : kind = 2
  · rw [if_pos k2]
    obtain ⟨g1, g2, g3⟩ := h2 k2
    exact Ev.step (fun k => by rw [impl_PrintSql.j0, if_neg k1, if_pos k2]) (impl_sql1 kind table cols vals col exp wh outs ht g1 (fun y hy => ⟨g2 y hy, hv y hy⟩))
  rw [if_neg k2]
  by_cases k3 : kind = 3
  · rw [if_pos k3]
    obtain ⟨g1, g2, g3⟩ := h3 k3
    have c1 := name_small g1
    have c2 := (exp_any exp g2 he).1
    have c3 := whT_size g3 hw
    refine Ev.step (f := fun k => (impl_expText.f exp).bind fun t => if (((((⟨#[117, 112, 100, 97, 116, 101, 32]⟩ : ByteArray) ++ table) ++ (⟨#[32, 115, 101, 116, 32]⟩ : ByteArray)) ++ col) ++ (⟨#[32, 61, 32]⟩ : ByteArray)).size + t.size ≤ 9223372036854775807 then (if ((((((⟨#[117, 112, 100, 97, 116, 101, 32]⟩ : ByteArray) ++ table) ++ (⟨#[32, 115, 101, 116, 32]⟩ : ByteArray)) ++ col) ++ (⟨#[32, 61, 32]⟩ : ByteArray)) ++ t).size + (whT wh).size ≤ 9223372036854775807 then some (((((((⟨#[117, 112, 100, 97, 116, 101, 32]⟩ : ByteArray) ++ table) ++ (⟨#[32, 115, 101, 116, 32]⟩ : ByteArray)) ++ col) ++ (⟨#[32, 61, 32]⟩ : ByteArray)) ++ t) ++ whT wh) else none) else none) (fun k => by
      rw [impl_PrintSql.j0, if_neg k1, if_neg k2, if_pos k3, if_pos (by omega), if_pos (by (try simp only [ByteArray.size_append, lit_size, List.size_toArray, List.length_cons, List.length_nil]); omega), if_pos (by (try simp only [ByteArray.size_append, lit_size, List.size_toArray, List.length_cons, List.length_nil]); omega), if_pos (by (try simp only [ByteArray.size_append, lit_size, List.size_toArray, List.length_cons, List.length_nil]); omega)]) ?_
    refine (impl_et exp g2 he).bind ?_
    refine Ev.pos (by (try simp only [ByteArray.size_append, lit_size, List.size_toArray, List.length_cons, List.length_nil]); omega) ?_
    refine Ev.pos (by (try simp only [ByteArray.size_append, lit_size, List.size_toArray, List.length_cons, List.length_nil]); omega) ?_
    exact Ev.now _
  rw [if_neg k3]
  by_cases k4 : kind = 4
  · rw [if_pos k4]
    have c3 := whT_size (h4 k4) hw
    refine Ev.step (f := fun k => some (((⟨#[100, 101, 108, 101, 116, 101, 32, 102, 114, 111, 109, 32]⟩ : ByteArray) ++ table) ++ whT wh)) (fun k => by
      rw [impl_PrintSql.j0, if_neg k1, if_neg k2, if_neg k3, if_pos k4, if_pos (by omega), if_pos (by (try simp only [ByteArray.size_append, lit_size, List.size_toArray, List.length_cons, List.length_nil]); omega)]) (Ev.now _)
  rw [if_neg k4]
  obtain ⟨g1, g2, g3⟩ := h5 k1 k2 k3 k4
  exact Ev.step (fun k => by rw [impl_PrintSql.j0, if_neg k1, if_neg k2, if_neg k3, if_neg k4]) (impl_sql2 kind table cols vals col exp wh outs ht g1 g2 ho g3 hw (whT wh) rfl)
theorem stm_wh {kind : Int} {table : ByteArray} {cols : List Col} {vals : List Val} {col : ByteArray} {exp wh : List Itm} {outs : List (List Itm)} (h : stmOk kind table cols vals col exp wh outs = true) : whOk wh = true := by
  obtain ⟨ht, h1, h2, h3, h4, h5⟩ := stm_parts h
  have h0 : wh.length = 0 → whOk wh = true := fun e => by unfold whOk; rw [decide_eq_true e]; rfl
  by_cases k1 : kind = 1
  · exact h0 (h1 k1).2.2
  by_cases k2 : kind = 2
  · exact h0 (h2 k2).2.2
  by_cases k3 : kind = 3
  · exact (h3 k3).2.2
  by_cases k4 : kind = 4
  · exact h4 k4
  exact (h5 k1 k2 k3 k4).2.2
theorem impl_sql (kind : Int) (table : ByteArray) (cols : List Col) (vals : List Val) (col : ByteArray) (exp wh : List Itm) (outs : List (List Itm)) (hv : ∀ y ∈ vals, -9223372036854775808 ≤ y.f1 ∧ y.f1 ≤ 9223372036854775807) (he : inIs exp) (hw : inIs wh) (ho : ∀ y ∈ outs, inIs y)
    (hok : Ev (fun k => impl_StmOK.f k kind table cols vals col exp wh outs) (stmOk kind table cols vals col exp wh outs)) :
    Ev (fun k => impl_PrintSql.f k kind table cols vals col exp wh outs) (sqlStm kind table cols vals col exp wh outs) := by
  unfold impl_PrintSql.f sqlStm
  refine hok.bind ?_
  cases hb : stmOk kind table cols vals col exp wh outs with
  | false => simp only [if_neg ff]; exact Ev.now _
  | true =>
    simp only [if_true, Option.bind_some]
    have hj := impl_sqlJ kind table cols vals col exp wh outs hv he hw ho hb
    have hwo := stm_wh hb
    by_cases hn : wh.length = 0
    · simp only [if_neg (show ¬ ((wh.length : Int) > 0) by omega)]
      have e : whT wh = ⟨#[]⟩ := by unfold whT; rw [if_pos hn]
      rw [e] at hj
      exact hj
    · simp only [if_pos (show (wh.length : Int) > 0 by omega)]
      have e : whT wh = (⟨#[32, 119, 104, 101, 114, 101, 32]⟩ : ByteArray) ++ expT wh := by unfold whT; rw [if_neg hn]
      rw [e] at hj
      refine (impl_et wh (wh_exp hwo hn) hw).bind ?_
      have := (exp_any wh (wh_exp hwo hn) hw).1
      exact Ev.pos (by omega) hj
end Go.Proofs.YtbpfdjbnfkclcaaGreatDoor.Pure
end
section
set_option linter.unusedVariables false
set_option linter.unusedSimpArgs false
namespace Go.Proofs.YtbpfdjbnfkclcaaGreatDoor.Pure
open Go Go.RowKit Go.Proofs.YtbpfdjbnfkclcaaGreatDoor Go.Proofs.YtbpfdjbnfkclcaaGreatDoor.L Go.Proofs.YtbpfdjbnfkclcaaGreatDoorW.PrintWords Go.Proofs.YtbpfdjbnfkclcaaGreatDoorW.PrintMore Go.Proofs.YtbpfdjbnfkclcaaGreatDoorW.PrintLast
theorem wf64s {n : Int} (h : (Lit.int .i64 n).wf = true) : -9223372036854775808 ≤ n ∧ n ≤ 9223372036854775807 := by
  simp [Lit.wf] at h
  exact h
theorem fnExactPrintSql_pure : fnExactPrintSql.Pure0 := by
  intro kind table cols vals col exp wh outs _ ht hcl hcg hvl hvg hcs hel heg hwl hwg hol hog holl
  have hM : maxLen = 9223372036854775807 := by unfold maxLen; rfl
  have hin : StmIn table cols vals col exp wh outs := by
    refine ⟨by omega, ⟨by omega, fun y hy => ?_⟩, ⟨by omega, fun y hy => ?_⟩, by omega, ⟨by omega, fun y hy => ?_⟩, ⟨by omega, fun y hy => ?_⟩, ⟨by omega, fun y hy => ⟨by have := holl y hy; omega, fun z hz => ?_⟩⟩⟩
    · have := hcg y hy; unfold fnExactPrintSql.good63 at this; omega
    · have := hvg y hy; unfold fnExactPrintSql.good65 at this; omega
    · have := heg y hy; unfold fnExactPrintSql.good68 at this; omega
    · have := hwg y hy; unfold fnExactPrintSql.good68 at this; omega
    · have := hog y hy z hz; unfold fnExactPrintSql.good68 at this; omega
  have h : Ev (fun k => laws_FnExactPrintSql.f k kind table cols vals col exp wh outs) true := by
    unfold laws_FnExactPrintSql.f
    refine (szStm_ev kind table cols vals col exp wh outs 1048576 hin (by omega) (by omega)).bind ?_
    by_cases hc : (wtStm table cols vals col exp wh outs : Int) ≤ 1048576
    · simp only [if_pos hc, if_neg (show ¬ (1048576 - (wtStm table cols vals col exp wh outs : Int) < 0) by omega)]
      have hw : wtStm table cols vals col exp wh outs ≤ 1048576 := by omega
      have hto := toStm_ev kind table cols vals col exp wh outs hw
      obtain ⟨g1, ⟨g2, g2s⟩, ⟨g3, g3s⟩, g4, ⟨g5, g5s⟩, ⟨g6, g6s⟩, ⟨g7, g7s⟩⟩ := hin
      have hw2 := hw
      unfold wtStm wtL at hw2
      have c2 : (cols.map cvC).length ≤ 1048576 := by rw [List.length_map]; omega
      have c3 : (vals.map cvV).length ≤ 1048576 := by rw [List.length_map]; omega
      have c5 : (exp.map cvI).length ≤ 1048576 := by rw [List.length_map]; omega
      have c6 : (wh.map cvI).length ≤ 1048576 := by rw [List.length_map]; omega
      have c7 : (outs.map cvII).length ≤ 1048576 := by rw [List.length_map]; omega
      have c2s : ∀ y ∈ cols.map cvC, y.f0.size ≤ 9223372036854775807 := fun y hy => by
        obtain ⟨x, hx, rfl⟩ := List.mem_map.1 hy
        exact g2s x hx
      have c3s : ∀ y ∈ vals.map cvV, y.f2.size ≤ 9223372036854775807 := fun y hy => by
        obtain ⟨x, hx, rfl⟩ := List.mem_map.1 hy
        exact g3s x hx
      have c5s : ∀ y ∈ exp.map cvI, y.f2.size ≤ 9223372036854775807 := fun y hy => by
        obtain ⟨x, hx, rfl⟩ := List.mem_map.1 hy
        exact g5s x hx
      have c6s : ∀ y ∈ wh.map cvI, y.f2.size ≤ 9223372036854775807 := fun y hy => by
        obtain ⟨x, hx, rfl⟩ := List.mem_map.1 hy
        exact g6s x hx
      have c7l : ∀ y ∈ outs.map cvII, y.length ≤ 9223372036854775807 := fun y hy => by
        obtain ⟨x, hx, rfl⟩ := List.mem_map.1 hy
        have := (g7s x hx).1
        unfold cvII
        rw [List.length_map]; exact this
      have c7s : ∀ y ∈ outs.map cvII, ∀ z ∈ y, z.f2.size ≤ 9223372036854775807 := fun y hy z hz => by
        obtain ⟨x, hx, rfl⟩ := List.mem_map.1 hy
        obtain ⟨u, hu, rfl⟩ := List.mem_map.1 hz
        exact (g7s x hx).2 u hu
      have nv : ∀ y ∈ vals.map cvV, -9223372036854775808 ≤ y.f1 ∧ y.f1 ≤ 9223372036854775807 := fun y hy => by
        obtain ⟨x, hx, rfl⟩ := List.mem_map.1 hy
        exact wf64s (hvg x hx).2.1
      have ne : inIs (exp.map cvI) := fun y hy => by
        obtain ⟨x, hx, rfl⟩ := List.mem_map.1 hy
        exact wf64s (heg x hx).2.1
      have nw : inIs (wh.map cvI) := fun y hy => by
        obtain ⟨x, hx, rfl⟩ := List.mem_map.1 hy
        exact wf64s (hwg x hx).2.1
      have no : ∀ y ∈ outs.map cvII, inIs y := fun y hy z hz => by
        obtain ⟨x, hx, rfl⟩ := List.mem_map.1 hy
        obtain ⟨u, hu, rfl⟩ := List.mem_map.1 hz
        exact wf64s (hog x hx u hu).2.1
      refine hto.bind ?_
      refine (spec_sql kind table (cols.map cvC) (vals.map cvV) col (exp.map cvI) (wh.map cvI) (outs.map cvII) nv ne nw no (spec_stm table (cols.map cvC) (vals.map cvV) col (exp.map cvI) (wh.map cvI) (outs.map cvII) kind (by omega) (by omega) (by omega))).bind ?_
      refine hto.bind ?_
      refine (impl_sql kind table (cols.map cvC) (vals.map cvV) col (exp.map cvI) (wh.map cvI) (outs.map cvII) nv ne nw no (impl_stm table (cols.map cvC) (vals.map cvV) col (exp.map cvI) (wh.map cvI) (outs.map cvII) kind (by omega) (by omega) (by omega) c2s (by omega) c3s c5s c6s (by omega) c7s)).bind ?_
      simp only [if_true]
      refine hto.bind ?_
      refine (eqStm_ev kind table (cols.map cvC) (vals.map cvV) col (exp.map cvI) (wh.map cvI) (outs.map cvII) (by omega) (by omega) (by omega) (by omega) (by omega) c7l).bind ?_
      simp only [if_true]
      exact Ev.now _
    · simp only [if_neg hc, if_pos (show (-1 : Int) < 0 by decide)]
      exact Ev.now _
  exact h.rounds
end Go.Proofs.YtbpfdjbnfkclcaaGreatDoor.Pure
namespace Go.Proofs.YtbpfdjbnfkclcaaGreatDoor
theorem fnExactPrintSql_holds : Rows.FnExactPrintSqlCardSaid := fnExactPrintSql.card Pure.fnExactPrintSql_pure
end Go.Proofs.YtbpfdjbnfkclcaaGreatDoor
end
