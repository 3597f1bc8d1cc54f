/- The texts that the proof of the law FnExactDbOK rests on, part 5: printed functions with their contracts, words, plain laws; the last part ends in the statement itself. No condition but those that each theorem states. -/
import Derived.Test.YtoebfjfhdodakaaDoorKFnExactDbOK4
set_option linter.unusedVariables false
set_option linter.unusedSimpArgs false
section
set_option linter.unusedVariables false
set_option linter.unusedSimpArgs false
namespace Go.Proofs.YtoebfjfhdodakaaDoor.Pure
open Go Go.RowKit Go.Proofs.YtoebfjfhdodakaaDoor Go.Proofs.YtoebfjfhdodakaaDoor.L Go.Proofs.YtoebfjfhdodakaaDoorW.PrintWords Go.Proofs.YtoebfjfhdodakaaDoorW.PrintMore Go.Proofs.YtoebfjfhdodakaaDoorW.PrintLast
theorem l2_go (i : Nat) (row : List Val) (X : List (List Val)) (x57 x58 : Int) (nm : ByteArray) (cols : List Col) (rows : List (List Val)) (r : Bool) (he : row.length = cols.length) (hl : row.length ≤ 1000000000) (d : Nat) :
    ∀ j : Nat, j + d = row.length → (fitGo (cols.drop j) (row.drop j) = true → Ev (fun k => spec_l5TableOK.l2 k (i : Int) row X x57 x58 row (row.length : Int) (row.length : Int) nm cols rows) r) →
      Ev (fun k => spec_l5TableOK.l2 k (i : Int) row X x57 x58 row (row.length : Int) (j : Int) nm cols rows) (fitGo (cols.drop j) (row.drop j) && r) := by
  induction d with
  | zero =>
    intro j hj hend
    obtain rfl : j = row.length := by omega
    have e : fitGo (cols.drop row.length) (row.drop row.length) = true := by
      rw [List.drop_eq_nil_of_le (show row.length ≤ row.length by omega)]
      cases cols.drop row.length <;> rfl
    rw [e, Bool.true_and]
    exact hend e
  | succ d ih =>
    intro j hj hend
    have hr : j < row.length := by omega
    have hc : j < cols.length := by omega
    rw [List.drop_eq_getElem_cons hr, List.drop_eq_getElem_cons hc, fitGo] at hend ⊢
    refine Ev.step (f := fun k => (spec_l5Right.f k row[j].f0 row[j].f1 row[j].f2 cols[j].f1).bind fun t => if t = true then spec_l5TableOK.l2 k (i : Int) row X x57 x58 row (row.length : Int) ((j + 1 : Nat) : Int) nm cols rows else some false) (fun k => ?_) ?_
    · rw [spec_l5TableOK.l2, if_pos (by omega), if_pos (by omega), if_pos (by omega), if_pos (by omega), rdVal row j hr, rdCol cols j hc, wsucc j (by omega)]
    · refine (spec_right row[j] cols[j].f1).bind ?_
      cases ht : typedP row[j] cols[j].f1 with
      | false => simp only [if_neg ff, Bool.false_and]; exact Ev.now _
      | true =>
        rw [ht, Bool.true_and] at hend
        simp only [if_true, Bool.true_and]
        exact ih (j + 1) (by omega) hend
theorem getD0 {α : Type} (l : List α) (z : α) (h : 0 < l.length) : l.getD 0 z = l[0] := by
  cases l with
  | nil => simp at h
  | cons a l => rfl
theorem fitP_len {cols : List Col} {row : List Val} (h : fitP cols row = true) : row.length = cols.length := by
  unfold fitP at h
  rw [Bool.and_eq_true, decide_eq_true_eq] at h
  exact h.1
theorem fitP_typed {cols : List Col} {row : List Val} (h : fitP cols row = true) (hr : 0 < row.length) (hc : 0 < cols.length) : typedP row[0] cols[0].f1 = true := by
  unfold fitP at h
  rw [Bool.and_eq_true] at h
  cases row with
  | nil => simp at hr
  | cons v vs =>
    cases cols with
    | nil => simp at hc
    | cons c cs =>
      have := h.2
      rw [fitGo, Bool.and_eq_true] at this
      exact this.1
def prevB (p : Option (List Val)) (row : List Val) : Bool := match p with | none => true | some q => keyB (q.getD 0 z57) (row.getD 0 z57)
theorem l1_go (nm : ByteArray) (cols : List Col) (rows : List (List Val)) (hc : 0 < cols.length) (hcl : cols.length ≤ 1000000000) (hl : rows.length ≤ 1000000000) (hs : ∀ row ∈ rows, ∀ v ∈ row, v.f2.size ≤ 9223372036854775807) (hrl : ∀ row ∈ rows, row.length ≤ 1000000000) (d : Nat) :
    ∀ (i : Nat) (p : Option (List Val)), i + d = rows.length → ((i = 0 ∧ p = none) ∨ ∃ q, 0 < i ∧ rows[i - 1]? = some q ∧ p = some q ∧ fitP cols q = true) →
      Ev (fun k => spec_l5TableOK.l1 k rows (rows.length : Int) (i : Int) nm cols rows) (rowsGo (fitB cols) keyB p (rows.drop i)) := by
  induction d with
  | zero =>
    intro i p hi hp
    rw [List.drop_eq_nil_of_le (show rows.length ≤ i by omega)]
    refine Ev.step (f := fun _ => some true) (fun k => by rw [spec_l5TableOK.l1, if_neg (by omega)]) ?_
    unfold rowsGo
    exact Ev.now _
  | succ d ih =>
    intro i p hi hp
    have h : i < rows.length := by omega
    have hm : rows[i] ∈ rows := List.getElem_mem h
    rw [List.drop_eq_getElem_cons h, show rowsGo (fitB cols) keyB p (rows[i] :: rows.drop (i + 1)) = (fitB cols rows[i] && (prevB p rows[i] && rowsGo (fitB cols) keyB (some rows[i]) (rows.drop (i + 1)))) from by rw [rowsGo.eq_def]; rfl]
    rw [fitB_eq cols rows[i] (hrl _ hm) (hs _ hm)]
    refine Ev.step (f := fun k => if (rows[i].length : Int) = (cols.length : Int) then spec_l5TableOK.l2 k (i : Int) rows[i] rows (rows.length : Int) (i : Int) rows[i] (rows[i].length : Int) ((0 : Nat) : Int) nm cols rows else some false) (fun k => ?_) ?_
    · rw [spec_l5TableOK.l1, if_pos (by omega), if_pos (by omega), if_pos (by omega), rdVV rows i h]
      rfl
    by_cases he : rows[i].length = cols.length
    · simp only [if_pos (show (rows[i].length : Int) = (cols.length : Int) by omega)]
      have e : fitP cols rows[i] = fitGo cols rows[i] := by unfold fitP; rw [decide_eq_true he, Bool.true_and]
      have key := l2_go i rows[i] rows (rows.length : Int) (i : Int) nm cols rows (prevB p rows[i] && rowsGo (fitB cols) keyB (some rows[i]) (rows.drop (i + 1))) he (hrl _ hm) rows[i].length 0 (by omega)
      rw [List.drop_zero, List.drop_zero] at key
      rw [e]
      refine key (fun hf => ?_)
      have hfit : fitP cols rows[i] = true := by rw [e]; exact hf
      have hr0 : 0 < rows[i].length := by omega
      have hnext : Ev (fun k => spec_l5TableOK.l1 k rows (rows.length : Int) ((i + 1 : Nat) : Int) nm cols rows) (rowsGo (fitB cols) keyB (some rows[i]) (rows.drop (i + 1))) := by
        refine ih (i + 1) (some rows[i]) (by omega) (.inr ⟨rows[i], by omega, ?_, rfl, hfit⟩)
        rw [show i + 1 - 1 = i by omega]
        exact List.getElem?_eq_getElem h
      rcases hp with ⟨h0, rfl⟩ | ⟨q, h0, hq, rfl, hqf⟩
      · rw [show prevB none rows[i] = true from rfl, Bool.true_and]
        refine Ev.step (fun k => ?_) hnext
        rw [spec_l5TableOK.l2, if_neg (by omega), if_neg (by omega), wsucc i (by omega)]
      · have h1 : i - 1 < rows.length := by omega
        have hq1 : rows[i - 1] = q := by
          rw [List.getElem?_eq_getElem h1] at hq
          exact Option.some.inj hq
        have hql : q.length = cols.length := fitP_len hqf
        have hq0 : 0 < q.length := by omega
        have hw : wrap64 ((i : Int) - 1) = ((i - 1 : Nat) : Int) := by rw [w64 _ (by omega)]; omega
        obtain ⟨c, hcE, hciff⟩ := cmp_ge q[0] rows[i][0]
        rw [key_cmp q[0] rows[i][0] cols[0].f1 (fitP_typed hqf hq0 hc) (fitP_typed hfit hr0 hc)] at hciff
        refine Ev.step (f := fun k => (spec_l5Compare.f k q[0].f0 q[0].f1 q[0].f2 rows[i][0].f0 rows[i][0].f1 rows[i][0].f2).bind fun t => if t ≥ 0 then some false else spec_l5TableOK.l1 k rows (rows.length : Int) ((i + 1 : Nat) : Int) nm cols rows) (fun k => ?_) ?_
        · rw [spec_l5TableOK.l2, if_neg (by omega), if_pos (by omega), hw, if_pos (by omega), if_pos (by omega), rdVV rows (i - 1) h1, hq1, if_pos (by omega), if_pos (by omega), wsucc i (by omega)]
          have r1 := rdVal q 0 hq0
          have r2 := rdVal rows[i] 0 hr0
          rw [show ((0 : Nat) : Int) = 0 from rfl] at r1 r2
          rw [r1, r2]
        · refine hcE.bind ?_
          rw [show prevB (some q) rows[i] = keyB q[0] rows[i][0] from by unfold prevB; simp only [getD0 q _ hq0, getD0 rows[i] _ hr0]]
          cases hk : keyB q[0] rows[i][0] with
          | false =>
            simp only [if_pos (show c ≥ 0 from hciff.2 (by rw [hk]; decide)), Bool.false_and]
            exact Ev.now _
          | true =>
            simp only [if_neg (show ¬ c ≥ 0 from fun hh => (hciff.1 hh) hk), Bool.true_and]
            exact hnext
    · simp only [if_neg (show ¬ (rows[i].length : Int) = (cols.length : Int) by omega)]
      have e : fitP cols rows[i] = false := by unfold fitP; rw [decide_eq_false he, Bool.false_and]
      rw [e, Bool.false_and]
      exact Ev.now _
theorem l0_go (nm : ByteArray) (cols : List Col) (rows : List (List Val)) (hcl : cols.length ≤ 1000000000) (R : Bool) (hR : Ev (fun k => spec_l5TableOK.l1 k rows (rows.length : Int) 0 nm cols rows) R) (d : Nat) :
    ∀ i : Nat, i + d = cols.length → Ev (fun k => spec_l5TableOK.l0 k cols (cols.length : Int) (i : Int) nm cols rows) (colsGo (cols.take i) (cols.drop i) && R) := by
  induction d with
  | zero =>
    intro i hi
    rw [List.drop_eq_nil_of_le (show cols.length ≤ i by omega), colsGo, Bool.true_and]
    exact Ev.step (fun k => by rw [spec_l5TableOK.l0, if_neg (by omega)]) hR
  | succ d ih =>
    intro i hi
    have h : i < cols.length := by omega
    rw [List.drop_eq_getElem_cons h, colsGo]
    have ih' := ih (i + 1) (by omega)
    rw [List.take_succ_eq_append_getElem h] at ih'
    obtain ⟨c, hcE, hciff⟩ := spec_col cols[i].f0 (cols.take i) (by rw [List.length_take]; omega)
    refine Ev.step (f := fun k => (spec_l4Name.f k cols[i].f0).bind fun t => if t = true then (if (decide (cols[i].f1 = 1) || decide (cols[i].f1 = 2)) = true then (spec_l5Col.f k (cols.take i) cols[i].f0).bind fun u => if u ≥ 0 then some false else spec_l5TableOK.l0 k cols (cols.length : Int) ((i + 1 : Nat) : Int) nm cols rows else some false) else some false) (fun k => ?_) ?_
    · rw [spec_l5TableOK.l0, if_pos (by omega), if_pos (by omega), if_pos (by omega), rdCol cols i h, wsucc i (by omega)]
      simp only [spec_type, Option.bind_some, if_pos (show (i : Int) ≤ (cols.length : Int) by omega), Int.toNat_natCast]
    refine (spec_nm cols[i].f0).bind ?_
    unfold colOKb
    cases hn : nameKw cols[i].f0 with
    | false => simp only [if_neg ff, Bool.false_and]; exact Ev.now _
    | true =>
      simp only [if_true, Bool.true_and]
      cases ht : (decide (cols[i].f1 = 1) || decide (cols[i].f1 = 2)) with
      | false => simp only [if_neg ff, Bool.false_and]; exact Ev.now _
      | true =>
        simp only [if_true, Bool.true_and]
        refine hcE.bind ?_
        cases hk : seenIn (cols.take i) cols[i].f0 with
        | true =>
          simp only [if_pos (show c ≥ 0 from hciff.2 hk), Bool.not_true, Bool.false_and]
          exact Ev.now _
        | false =>
          simp only [if_neg (show ¬ c ≥ 0 from fun hh => by rw [hciff.1 hh] at hk; cases hk), Bool.not_false, Bool.true_and]
          exact ih'
theorem spec_tab (t : Tab) (hcl : t.f1.length ≤ 1000000000) (hl : t.f2.length ≤ 1000000000) (hs : ∀ row ∈ t.f2, ∀ v ∈ row, v.f2.size ≤ 9223372036854775807) (hrl : ∀ row ∈ t.f2, row.length ≤ 1000000000) :
    Ev (fun k => spec_l5TableOK.f k t.f0 t.f1 t.f2) (tabB t) := by
  have hbad : Ev (fun k => spec_l5TableOK.j0 k true t.f0 t.f1 t.f2) false := Ev.step (f := fun _ => some false) (fun k => by rw [spec_l5TableOK.j0, if_pos rfl]) (Ev.now _)
  unfold spec_l5TableOK.f tabB tabHead
  refine (spec_nm t.f0).bind ?_
  cases hn : nameKw t.f0 with
  | false => simp only [if_neg ff, Bool.false_and]; exact hbad
  | true =>
    simp only [if_true, Bool.true_and, between_b, Option.bind_some]
    by_cases h1 : 1 ≤ t.f1.length
    · by_cases h2 : t.f1.length ≤ 20
      · simp only [decide_eq_true (show (1 : Int) ≤ (t.f1.length : Int) ∧ (t.f1.length : Int) ≤ 20 by omega), if_true, decide_eq_true h1, decide_eq_true h2, Bool.true_and]
        by_cases h3 : t.f2.length ≤ 1000
        · simp only [decide_eq_false (show ¬ (t.f2.length : Int) > 1000 by omega), decide_eq_true h3, Bool.true_and]
          have hrows := l1_go t.f0 t.f1 t.f2 (by omega) hcl hl hs hrl t.f2.length 0 none (by omega) (.inl ⟨rfl, rfl⟩)
          rw [List.drop_zero] at hrows
          have hcols := l0_go t.f0 t.f1 t.f2 hcl _ hrows t.f1.length 0 (by omega)
          rw [List.take_zero, List.drop_zero, colsGo_eq] at hcols
          refine Ev.step (fun k => by rw [spec_l5TableOK.j0, if_neg ff]) ?_
          have e : (!dupGo [] t.f1 && (t.f1.all colOKb && rowsGo (fitB t.f1) keyB none t.f2)) = (t.f1.all colOKb && !dupGo [] t.f1 && rowsGo (fitB t.f1) keyB none t.f2) := by
            cases t.f1.all colOKb <;> cases dupGo [] t.f1 <;> rfl
          rw [e]
          exact hcols
        · simp only [decide_eq_true (show (t.f2.length : Int) > 1000 by omega), decide_eq_false h3, Bool.false_and]
          exact hbad
      · simp only [decide_eq_false (show ¬ ((1 : Int) ≤ (t.f1.length : Int) ∧ (t.f1.length : Int) ≤ 20) by omega), if_neg ff, decide_eq_true h1, decide_eq_false h2, Bool.true_and, Bool.false_and]
        exact hbad
    · simp only [decide_eq_false (show ¬ ((1 : Int) ≤ (t.f1.length : Int) ∧ (t.f1.length : Int) ≤ 20) by omega), if_neg ff, decide_eq_false h1, Bool.false_and]
      exact hbad
/-- What is asked of a database's lengths. -/
def DbIn (l : List Tab) : Prop := ∀ t ∈ l, t.f0.size ≤ 9223372036854775807 ∧ (t.f1.length ≤ 2000000 ∧ ∀ y ∈ t.f1, y.f0.size ≤ 9223372036854775807) ∧ (t.f2.length ≤ 1000000000 ∧ ∀ row ∈ t.f2, row.length ≤ 1000000000 ∧ ∀ v ∈ row, v.f2.size ≤ 9223372036854775807)
theorem db_l0 (l : List Tab) (hl : l.length ≤ 1000000000) (hs : DbIn l) (d : Nat) :
    ∀ (i : Nat) (p : Option Tab), i + d = l.length → ((i = 0 ∧ p = none) ∨ ∃ q, 0 < i ∧ l[i - 1]? = some q ∧ p = some q) → Ev (fun k => spec_DbOK.l0 k l (l.length : Int) (i : Int) l) (dbGo tabB lessB p (l.drop i)) := by
  induction d with
  | zero =>
    intro i p hi hp
    rw [List.drop_eq_nil_of_le (show l.length ≤ i by omega)]
    refine Ev.step (f := fun _ => some true) (fun k => by rw [spec_DbOK.l0, if_neg (by omega)]) ?_
    unfold dbGo
    exact Ev.now _
  | succ d ih =>
    intro i p hi hp
    have h : i < l.length := by omega
    obtain ⟨_, ⟨g1, _⟩, g2, g3⟩ := hs l[i] (List.getElem_mem h)
    have hnext : Ev (fun k => spec_DbOK.l0 k l (l.length : Int) ((i + 1 : Nat) : Int) l) (dbGo tabB lessB (some l[i]) (l.drop (i + 1))) := by
      refine ih (i + 1) (some l[i]) (by omega) (.inr ⟨l[i], by omega, ?_, rfl⟩)
      rw [show i + 1 - 1 = i by omega]
      exact List.getElem?_eq_getElem h
    rw [List.drop_eq_getElem_cons h, dbGo.eq_def]
    simp only []
    refine Ev.step (f := fun k => (spec_l5TableOK.f k l[i].f0 l[i].f1 l[i].f2).bind fun t => if t = true then (if (i : Int) > 0 then (if 0 ≤ wrap64 ((i : Int) - 1) then (if wrap64 ((i : Int) - 1) < (l.length : Int) then (if Op.bytesLess (rd_T37 l (wrap64 ((i : Int) - 1))).f0.toList l[i].f0.toList = true then spec_DbOK.l0 k l (l.length : Int) ((i + 1 : Nat) : Int) l else some false) else none) else none) else spec_DbOK.l0 k l (l.length : Int) ((i + 1 : Nat) : Int) l) else some false) (fun k => ?_) ?_
    · rw [spec_DbOK.l0, if_pos (by omega), if_pos (by omega), if_pos (by omega), rdTab l i h, wsucc i (by omega)]
    refine (spec_tab l[i] (by omega) g2 (fun row hr v hv => (g3 row hr).2 v hv) (fun row hr => (g3 row hr).1)).bind ?_
    cases tabB l[i] with
    | false => simp only [if_neg ff, Bool.false_and]; exact Ev.now _
    | true =>
      simp only [if_true, Bool.true_and]
      rcases hp with ⟨h0, rfl⟩ | ⟨q, h0, hq, rfl⟩
      · simp only [if_neg (show ¬ (i : Int) > 0 by omega), Bool.true_and]
        exact hnext
      · have h1 : i - 1 < l.length := by omega
        have hq1 : l[i - 1] = q := by
          rw [List.getElem?_eq_getElem h1] at hq
          exact Option.some.inj hq
        have hw : wrap64 ((i : Int) - 1) = ((i - 1 : Nat) : Int) := by rw [w64 _ (by omega)]; omega
        simp only [hw, if_pos (show (i : Int) > 0 by omega), if_pos (show (0 : Int) ≤ ((i - 1 : Nat) : Int) by omega), if_pos (show ((i - 1 : Nat) : Int) < (l.length : Int) by omega), rdTab l (i - 1) h1, hq1]
        unfold lessB
        cases Op.bytesLess q.f0.toList l[i].f0.toList with
        | false => simp only [if_neg ff, Bool.false_and]; exact Ev.now _
        | true => simp only [if_true, Bool.true_and]; exact hnext
def dbP (l : List Tab) : Bool := decide (l.length ≤ 100) && dbGo tabB lessB none l
theorem spec_db (l : List Tab) (hl : l.length ≤ 1000000000) (hs : DbIn l) : Ev (fun k => spec_DbOK.f k l) (dbP l) := by
  unfold spec_DbOK.f dbP
  by_cases h : l.length ≤ 100
  · simp only [if_neg (show ¬ (l.length : Int) > 100 by omega), decide_eq_true h, Bool.true_and]
    have := db_l0 l hl hs l.length 0 none (by omega) (.inl ⟨rfl, rfl⟩)
    rw [List.drop_zero] at this
    exact this
  · simp only [if_pos (show (l.length : Int) > 100 by omega), decide_eq_false h, Bool.false_and]
    exact Ev.now _
theorem impl_db (l : List Tab) (hs : DbIn l) : impl_DbOK.f l = some (dbP l) := by
  unfold impl_DbOK.f dbP
  rw [if_pos]
  rw [List.all_eq_true]
  intro t ht
  obtain ⟨g0, ⟨g1, g1s⟩, g2, g3⟩ := hs t ht
  unfold tabFine impl_doubled.ok
  simp only [Bool.and_eq_true, decide_eq_true_eq, List.all_eq_true]
  refine ⟨g0, ⟨g1, fun x hx => ?_⟩, fun row hr => ?_⟩
  · have := g1s x hx
    unfold maxLen
    omega
  · rw [impl_fit t.f1 row (g3 row hr).1 (g3 row hr).2]
    rfl
end Go.Proofs.YtoebfjfhdodakaaDoor.Pure
end
section
set_option linter.unusedVariables false
set_option linter.unusedSimpArgs false
namespace Go.Proofs.YtoebfjfhdodakaaDoor.Pure
open Go Go.RowKit Go.Proofs.YtoebfjfhdodakaaDoor Go.Proofs.YtoebfjfhdodakaaDoor.L Go.Proofs.YtoebfjfhdodakaaDoorW.PrintWords Go.Proofs.YtoebfjfhdodakaaDoorW.PrintMore Go.Proofs.YtoebfjfhdodakaaDoorW.PrintLast
theorem dbIn_of (l : List LTab) (hs : ∀ y ∈ l, TabIn y) (hw : wtL wT l ≤ 1048576) : DbIn (l.map cvT) := by
  intro t ht
  obtain ⟨x, hx, rfl⟩ := List.mem_map.1 ht
  obtain ⟨g1, ⟨g2, g2s⟩, ⟨g3, g3s⟩⟩ := hs x hx
  have h0 : wT x ≤ 1048576 := by unfold wtL at hw; have := Gen.mem_sumW wT l x hx; omega
  have h1 := h0
  unfold wT wtL at h1
  unfold cvT
  refine ⟨g1, ⟨by rw [List.length_map]; omega, fun y hy => ?_⟩, ⟨by rw [List.length_map]; omega, fun row hrow => ?_⟩⟩
  · obtain ⟨z, hz, rfl⟩ := List.mem_map.1 hy
    exact g2s z hz
  · obtain ⟨z, hz, rfl⟩ := List.mem_map.1 hrow
    have hz2 : wVV z ≤ 1048576 := by have := Gen.mem_sumW wVV x.f2 z hz; omega
    have e : wVV z = z.length + Gen.sumW wV z := rfl
    refine ⟨by unfold cvVV; rw [List.length_map]; omega, fun v hv => ?_⟩
    unfold cvVV at hv
    obtain ⟨u, hu, rfl⟩ := List.mem_map.1 hv
    exact (g3s z hz).2 u hu
theorem fnExactDbOK_pure : fnExactDbOK.Pure0 := by
  intro l hl hg hls
  have hM : maxLen = 9223372036854775807 := by unfold maxLen; rfl
  have hin : ∀ y ∈ l, TabIn y := fun y hy => by
    have h1 := hg y hy
    have h2 := hls y hy
    unfold fnExactDbOK.good48 at h1
    obtain ⟨a1, a2, a3⟩ := h1
    obtain ⟨b1, b2, b3⟩ := h2
    refine ⟨by omega, ⟨by omega, fun z hz => ?_⟩, ⟨by omega, fun z hz => ⟨by have := b3 z hz; omega, fun u hu => ?_⟩⟩⟩
    · have := a2 z hz; unfold fnExactDbOK.good79 at this; omega
    · have := a3 z hz u hu; unfold fnExactDbOK.good87 at this; omega
  have h : Ev (fun k => laws_FnExactDbOK.f k l) true := by
    unfold laws_FnExactDbOK.f
    refine (szDb_ev l 1048576 (by omega) hin (by omega) (by omega)).bind ?_
    by_cases hc : (wtL wT l : Int) ≤ 1048576
    · simp only [if_pos hc, if_neg (show ¬ (1048576 - (wtL wT l : Int) < 0) by omega)]
      have hw : wtL wT l ≤ 1048576 := by omega
      have hto := toDb_ev l hw
      have hD := dbIn_of l hin hw
      have hlen : (l.map cvT).length ≤ 1048576 := by rw [List.length_map]; unfold wtL at hw; omega
      refine hto.bind ?_
      refine (spec_db (l.map cvT) (by omega) hD).bind ?_
      refine hto.bind ?_
      simp only [impl_db (l.map cvT) hD, Option.bind_some, bne_self_eq_false, if_neg ff]
      refine hto.bind ?_
      refine (eqDb_ev (l.map cvT) (by omega) (fun x hx => ?_)).bind ?_
      · obtain ⟨_, ⟨d1, _⟩, d2, d3⟩ := hD x hx
        exact ⟨by omega, by omega, fun y hy => by have := (d3 y hy).1; omega⟩
      · simp only [if_true]
        exact Ev.now _
    · simp only [if_neg hc, if_pos (show (-1 : Int) < 0 by decide)]
      exact Ev.now _
  exact h.rounds
end Go.Proofs.YtoebfjfhdodakaaDoor.Pure
namespace Go.Proofs.YtoebfjfhdodakaaDoor
theorem fnExactDbOK_holds : Rows.FnExactDbOKCardSaid := fnExactDbOK.card Pure.fnExactDbOK_pure
end Go.Proofs.YtoebfjfhdodakaaDoor
end
