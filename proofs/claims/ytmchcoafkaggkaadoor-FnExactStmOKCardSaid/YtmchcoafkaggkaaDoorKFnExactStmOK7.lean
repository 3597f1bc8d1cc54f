/- The texts that the proof of the law FnExactStmOK rests on, part 7: printed functions with their contracts, words, plain laws; the last part ends in the statement itself. No condition but those that each theorem states. -/
import Derived.Test.YtmchcoafkaggkaaDoorKFnExactStmOK6
set_option linter.unusedVariables false
set_option linter.unusedSimpArgs false
section
set_option linter.unusedVariables false
set_option linter.unusedSimpArgs false
namespace Go.Proofs.YtmchcoafkaggkaaDoor.Pure
open Go Go.RowKit Go.Proofs.YtmchcoafkaggkaaDoor Go.Proofs.YtmchcoafkaggkaaDoor.L Go.Proofs.YtmchcoafkaggkaaDoorW.PrintWords Go.Proofs.YtmchcoafkaggkaaDoorW.PrintMore Go.Proofs.YtmchcoafkaggkaaDoorW.PrintLast
abbrev LCol := S118
abbrev LVal := S120
abbrev LItm := S123
abbrev Col := S85
abbrev Val := S88
abbrev Itm := S127
def cvC (x : LCol) : Col := ⟨x.f0, x.f1⟩
def cvV (x : LVal) : Val := ⟨x.f0, x.f1, x.f2⟩
def cvI (x : LItm) : Itm := ⟨x.f0, x.f1, x.f2⟩
def wC (x : LCol) : Nat := x.f0.size
def wV (x : LVal) : Nat := x.f2.size
def wI (x : LItm) : Nat := x.f2.size
def wtL {α : Type} (w : α → Nat) (l : List α) : Nat := l.length + Gen.sumW w l
theorem rdLC (l : List LCol) (i : Nat) (h : i < l.length) : rd_T118 l (i : Int) = l[i] := by simp [rd_T118, h]
theorem rdLV (l : List LVal) (i : Nat) (h : i < l.length) : rd_T120 l (i : Int) = l[i] := by simp [rd_T120, h]
theorem rdLI (l : List LItm) (i : Nat) (h : i < l.length) : rd_T123 l (i : Int) = l[i] := by simp [rd_T123, h]
theorem rdCol (l : List Col) (i : Nat) (h : i < l.length) : rd_T85 l (i : Int) = l[i] := by simp [rd_T85, h]
theorem rdVal (l : List Val) (i : Nat) (h : i < l.length) : rd_T88 l (i : Int) = l[i] := by simp [rd_T88, h]
theorem rdItm (l : List Itm) (i : Nat) (h : i < l.length) : rd_T127 l (i : Int) = l[i] := by simp [rd_T127, h]
theorem rdLII (l : List (List LItm)) (i : Nat) (h : i < l.length) : rd_L5 l (i : Int) = l[i] := by simp [rd_L5, h]
theorem rdII (l : List (List Itm)) (i : Nat) (h : i < l.length) : rd_L9 l (i : Int) = l[i] := by simp [rd_L9, h]
theorem szf {α : Type} (w : α → Nat) (F : Nat → List α → Int → Int → Option Int) (G : Nat → Option Int) (l : List α) (a : Int) (hl : l.length ≤ 9223372036854775807) (h0 : 0 ≤ a) (h1 : a ≤ 1048576)
    (hG : ∀ k, G k = if (wrap64 (a - (l.length : Int))) < 0 then some (-1) else F k l (wrap64 (a - (l.length : Int))) 0)
    (h : ∀ b, 0 ≤ b → b ≤ 1048576 → Ev (fun k => F k l b ((0 : Nat) : Int)) (if (Gen.sumW w (l.drop 0) : Int) ≤ b then b - Gen.sumW w (l.drop 0) else -1)) :
    Ev G (if (wtL w l : Int) ≤ a then a - wtL w l else -1) := by
  refine Ev.congr hG ?_
  simp only [w64 (a - (l.length : Int)) (by omega)]
  by_cases hc : a - (l.length : Int) < 0
  · simp only [if_pos hc]
    rw [if_neg (by unfold wtL; omega)]
    exact Ev.now _
  · simp only [if_neg hc]
    have h := h (a - (l.length : Int)) (by omega) (by omega)
    simp only [List.drop_zero] at h
    have e1 : ((Gen.sumW w l : Int) ≤ a - (l.length : Int)) ↔ ((wtL w l : Int) ≤ a) := by unfold wtL; omega
    have e2 : a - (l.length : Int) - (Gen.sumW w l : Int) = a - (wtL w l : Int) := by unfold wtL; omega
    rw [e2] at h
    simp only [e1] at h
    exact h
theorem szColumn_ev (l : List LCol) (a : Int) (hl : l.length ≤ 9223372036854775807) (hs : ∀ y ∈ l, y.f0.size ≤ 9223372036854775807) (h0 : 0 ≤ a) (h1 : a ≤ 1048576) :
    Ev (fun k => laws_szColumnS.f k l a) (if (wtL wC l : Int) ≤ a then a - wtL wC l else -1) := by
  refine szf wC (fun k l a i => laws_szColumnS.l0 k l a i) _ l a (by omega) h0 h1 (fun k => rfl) (fun b hb0 hb1 => ?_)
  refine Gen.sz wC (fun k l a i => laws_szColumnS.l0 k l a i) (fun k x a => laws_szColumn.f x.f0 x.f1 a) l 1048576 (fun k a i h => ?_) (fun k a => ?_) (fun x hx a h0 h1 => ?_) l.length 0 b (by omega) hb0 hb1
  · rw [laws_szColumnS.l0, if_pos (by omega), if_pos (by omega), rdLC l i h, wsucc i (by omega)]
  · rw [laws_szColumnS.l0, if_neg (by omega)]
  · have := hs x hx
    unfold laws_szColumn.f
    rw [w64 (a - (x.f0.size : Int)) (by omega)]
    by_cases hc : a - (x.f0.size : Int) < 0
    · rw [if_pos hc, if_neg (show ¬ ((wC x : Nat) : Int) ≤ a by unfold wC; omega)]; exact Ev.now _
    · rw [if_neg hc, if_pos (show ((wC x : Nat) : Int) ≤ a by unfold wC; omega)]; exact Ev.now _
theorem toColumn_ev (l : List LCol) (hl : l.length ≤ 1048576) : Ev (fun k => laws_toColumnS.f k l) (l.map cvC) := by
  refine Ev.congr (fun k => ?_) (Gen.copy cvC (fun k l o i => laws_toColumnS.l0 k l o i) (fun k x => some (cvC x)) l (fun k o i h ho => ?_) (fun k o => ?_) (fun x hx => Ev.now _) l.length 0 (List.replicate l.length z85) (by omega) List.length_replicate (fun j hj => by omega))
  · unfold laws_toColumnS.f
    rw [if_pos (by omega), if_pos (by omega)]
    simp
  · rw [laws_toColumnS.l0, if_pos (by omega), if_pos (by omega), rdLC l i h]
    unfold laws_toColumn.f
    rw [Option.bind_some, if_pos (by omega), wsucc i (by omega)]
    rfl
  · rw [laws_toColumnS.l0, if_neg (by omega)]
theorem eqColumn_ev (l : List Col) (hl : l.length ≤ 9223372036854775807) : Ev (fun k => laws_eqColumnS.f k l l) true := by
  refine Ev.congr (fun k => ?_) (Gen.eq (fun k a b i => laws_eqColumnS.l0 k a b i) (fun k x => some true) l (fun k i h => ?_) (fun k => ?_) (fun x hx => Ev.now _) l.length 0 (by omega))
  · unfold laws_eqColumnS.f
    rw [if_pos rfl]
    rfl
  · rw [laws_eqColumnS.l0, if_pos (by omega), if_pos (by omega), if_pos (by omega), wsucc i (by omega)]
    unfold laws_eqColumn.f
    simp only [if_true]
  · rw [laws_eqColumnS.l0, if_neg (by omega)]
theorem szValue_ev (l : List LVal) (a : Int) (hl : l.length ≤ 9223372036854775807) (hs : ∀ y ∈ l, y.f2.size ≤ 9223372036854775807) (h0 : 0 ≤ a) (h1 : a ≤ 1048576) :
    Ev (fun k => laws_szValueS.f k l a) (if (wtL wV l : Int) ≤ a then a - wtL wV l else -1) := by
  refine szf wV (fun k l a i => laws_szValueS.l0 k l a i) _ l a (by omega) h0 h1 (fun k => rfl) (fun b hb0 hb1 => ?_)
  refine Gen.sz wV (fun k l a i => laws_szValueS.l0 k l a i) (fun k x a => laws_szValue.f x.f0 x.f1 x.f2 a) l 1048576 (fun k a i h => ?_) (fun k a => ?_) (fun x hx a h0 h1 => ?_) l.length 0 b (by omega) hb0 hb1
  · rw [laws_szValueS.l0, if_pos (by omega), if_pos (by omega), rdLV l i h, wsucc i (by omega)]
  · rw [laws_szValueS.l0, if_neg (by omega)]
  · have := hs x hx
    unfold laws_szValue.f
    rw [w64 (a - (x.f2.size : Int)) (by omega)]
    by_cases hc : a - (x.f2.size : Int) < 0
    · rw [if_pos hc, if_neg (show ¬ ((wV x : Nat) : Int) ≤ a by unfold wV; omega)]; exact Ev.now _
    · rw [if_neg hc, if_pos (show ((wV x : Nat) : Int) ≤ a by unfold wV; omega)]; exact Ev.now _
theorem toValue_ev (l : List LVal) (hl : l.length ≤ 1048576) : Ev (fun k => laws_toValueS.f k l) (l.map cvV) := by
  refine Ev.congr (fun k => ?_) (Gen.copy cvV (fun k l o i => laws_toValueS.l0 k l o i) (fun k x => some (cvV x)) l (fun k o i h ho => ?_) (fun k o => ?_) (fun x hx => Ev.now _) l.length 0 (List.replicate l.length z88) (by omega) List.length_replicate (fun j hj => by omega))
  · unfold laws_toValueS.f
    rw [if_pos (by omega), if_pos (by omega)]
    simp
  · rw [laws_toValueS.l0, if_pos (by omega), if_pos (by omega), rdLV l i h]
    unfold laws_toValue.f
    rw [Option.bind_some, if_pos (by omega), wsucc i (by omega)]
    rfl
  · rw [laws_toValueS.l0, if_neg (by omega)]
theorem eqValue_ev (l : List Val) (hl : l.length ≤ 9223372036854775807) : Ev (fun k => laws_eqValueS.f k l l) true := by
  refine Ev.congr (fun k => ?_) (Gen.eq (fun k a b i => laws_eqValueS.l0 k a b i) (fun k x => some true) l (fun k i h => ?_) (fun k => ?_) (fun x hx => Ev.now _) l.length 0 (by omega))
  · unfold laws_eqValueS.f
    rw [if_pos rfl]
    rfl
  · rw [laws_eqValueS.l0, if_pos (by omega), if_pos (by omega), if_pos (by omega), wsucc i (by omega)]
    unfold laws_eqValue.f
    simp only [if_true]
  · rw [laws_eqValueS.l0, if_neg (by omega)]
theorem szItem_ev (l : List LItm) (a : Int) (hl : l.length ≤ 9223372036854775807) (hs : ∀ y ∈ l, y.f2.size ≤ 9223372036854775807) (h0 : 0 ≤ a) (h1 : a ≤ 1048576) :
    Ev (fun k => laws_szItemS.f k l a) (if (wtL wI l : Int) ≤ a then a - wtL wI l else -1) := by
  refine szf wI (fun k l a i => laws_szItemS.l0 k l a i) _ l a (by omega) h0 h1 (fun k => rfl) (fun b hb0 hb1 => ?_)
  refine Gen.sz wI (fun k l a i => laws_szItemS.l0 k l a i) (fun k x a => laws_szItem.f x.f0 x.f1 x.f2 a) l 1048576 (fun k a i h => ?_) (fun k a => ?_) (fun x hx a h0 h1 => ?_) l.length 0 b (by omega) hb0 hb1
  · rw [laws_szItemS.l0, if_pos (by omega), if_pos (by omega), rdLI l i h, wsucc i (by omega)]
  · rw [laws_szItemS.l0, if_neg (by omega)]
  · have := hs x hx
    unfold laws_szItem.f
    rw [w64 (a - (x.f2.size : Int)) (by omega)]
    by_cases hc : a - (x.f2.size : Int) < 0
    · rw [if_pos hc, if_neg (show ¬ ((wI x : Nat) : Int) ≤ a by unfold wI; omega)]; exact Ev.now _
    · rw [if_neg hc, if_pos (show ((wI x : Nat) : Int) ≤ a by unfold wI; omega)]; exact Ev.now _
theorem toItem_ev (l : List LItm) (hl : l.length ≤ 1048576) : Ev (fun k => laws_toItemS.f k l) (l.map cvI) := by
  refine Ev.congr (fun k => ?_) (Gen.copy cvI (fun k l o i => laws_toItemS.l0 k l o i) (fun k x => some (cvI x)) l (fun k o i h ho => ?_) (fun k o => ?_) (fun x hx => Ev.now _) l.length 0 (List.replicate l.length z127) (by omega) List.length_replicate (fun j hj => by omega))
  · unfold laws_toItemS.f
    rw [if_pos (by omega), if_pos (by omega)]
    simp
  · rw [laws_toItemS.l0, if_pos (by omega), if_pos (by omega), rdLI l i h]
    unfold laws_toItem.f
    rw [Option.bind_some, if_pos (by omega), wsucc i (by omega)]
    rfl
  · rw [laws_toItemS.l0, if_neg (by omega)]
theorem eqItem_ev (l : List Itm) (hl : l.length ≤ 9223372036854775807) : Ev (fun k => laws_eqItemS.f k l l) true := by
  refine Ev.congr (fun k => ?_) (Gen.eq (fun k a b i => laws_eqItemS.l0 k a b i) (fun k x => some true) l (fun k i h => ?_) (fun k => ?_) (fun x hx => Ev.now _) l.length 0 (by omega))
  · unfold laws_eqItemS.f
    rw [if_pos rfl]
    rfl
  · rw [laws_eqItemS.l0, if_pos (by omega), if_pos (by omega), if_pos (by omega), wsucc i (by omega)]
    unfold laws_eqItem.f
    simp only [if_true]
  · rw [laws_eqItemS.l0, if_neg (by omega)]
def wII (l : List LItm) : Nat := wtL wI l
def cvII (l : List LItm) : List Itm := l.map cvI
theorem szItemSS_ev (l : List (List LItm)) (a : Int) (hl : l.length ≤ 9223372036854775807) (hs : ∀ y ∈ l, y.length ≤ 9223372036854775807 ∧ ∀ z ∈ y, z.f2.size ≤ 9223372036854775807) (h0 : 0 ≤ a) (h1 : a ≤ 1048576) :
    Ev (fun k => laws_szItemSS.f k l a) (if (wtL wII l : Int) ≤ a then a - wtL wII l else -1) := by
  refine szf wII (fun k l a i => laws_szItemSS.l0 k l a i) _ l a (by omega) h0 h1 (fun k => rfl) (fun b hb0 hb1 => ?_)
  refine Gen.sz wII (fun k l a i => laws_szItemSS.l0 k l a i) (fun k x a => laws_szItemS.f k x a) l 1048576 (fun k a i h => ?_) (fun k a => ?_) (fun x hx a h0 h1 => ?_) l.length 0 b (by omega) hb0 hb1
  · rw [laws_szItemSS.l0, if_pos (by omega), if_pos (by omega), rdLII l i h, wsucc i (by omega)]
  · rw [laws_szItemSS.l0, if_neg (by omega)]
  · exact szItem_ev x a (hs x hx).1 (hs x hx).2 h0 h1
theorem toItemSS_ev (l : List (List LItm)) (hl : l.length ≤ 1048576) (hs : ∀ y ∈ l, y.length ≤ 1048576) : Ev (fun k => laws_toItemSS.f k l) (l.map cvII) := by
  refine Ev.congr (fun k => ?_) (Gen.copy cvII (fun k l o i => laws_toItemSS.l0 k l o i) (fun k x => laws_toItemS.f k x) l (fun k o i h ho => ?_) (fun k o => ?_) (fun x hx => toItem_ev x (hs x hx)) l.length 0 (List.replicate l.length []) (by omega) List.length_replicate (fun j hj => by omega))
  · unfold laws_toItemSS.f
    rw [if_pos (by omega), if_pos (by omega)]
    simp
  · rw [laws_toItemSS.l0, if_pos (by omega), if_pos (by omega), rdLII l i h]
    simp only [if_pos (show (i : Int) < (o.length : Int) by omega), wsucc i (show i < 9223372036854775807 by omega), Int.toNat_natCast]
  · rw [laws_toItemSS.l0, if_neg (by omega)]
theorem eqItemSS_ev (l : List (List Itm)) (hl : l.length ≤ 9223372036854775807) (hs : ∀ y ∈ l, y.length ≤ 9223372036854775807) : Ev (fun k => laws_eqItemSS.f k l l) true := by
  refine Ev.congr (fun k => ?_) (Gen.eq (fun k a b i => laws_eqItemSS.l0 k a b i) (fun k x => laws_eqItemS.f k x x) l (fun k i h => ?_) (fun k => ?_) (fun x hx => eqItem_ev x (hs x hx)) l.length 0 (by omega))
  · unfold laws_eqItemSS.f
    rw [if_pos rfl]
    rfl
  · rw [laws_eqItemSS.l0, if_pos (by omega), if_pos (by omega), if_pos (by omega), rdII l i h, wsucc i (by omega)]
  · rw [laws_eqItemSS.l0, if_neg (by omega)]
/-- What a statement weighs. -/
def wtStm (table : ByteArray) (cols : List LCol) (vals : List LVal) (col : ByteArray) (exp wh : List LItm) (outs : List (List LItm)) : Nat :=
  table.size + wtL wC cols + wtL wV vals + col.size + wtL wI exp + wtL wI wh + wtL wII outs
/-- What is asked of the lengths that came in. -/
def StmIn (table : ByteArray) (cols : List LCol) (vals : List LVal) (col : ByteArray) (exp wh : List LItm) (outs : List (List LItm)) : Prop :=
  table.size ≤ 9223372036854775807 ∧ (cols.length ≤ 9223372036854775807 ∧ ∀ y ∈ cols, y.f0.size ≤ 9223372036854775807) ∧ (vals.length ≤ 9223372036854775807 ∧ ∀ y ∈ vals, y.f2.size ≤ 9223372036854775807) ∧ col.size ≤ 9223372036854775807 ∧
    (exp.length ≤ 9223372036854775807 ∧ ∀ y ∈ exp, y.f2.size ≤ 9223372036854775807) ∧ (wh.length ≤ 9223372036854775807 ∧ ∀ y ∈ wh, y.f2.size ≤ 9223372036854775807) ∧ (outs.length ≤ 9223372036854775807 ∧ ∀ y ∈ outs, y.length ≤ 9223372036854775807 ∧ ∀ z ∈ y, z.f2.size ≤ 9223372036854775807)
theorem szStm_ev (kind : Int) (table : ByteArray) (cols : List LCol) (vals : List LVal) (col : ByteArray) (exp wh : List LItm) (outs : List (List LItm)) (m : Int) (h : StmIn table cols vals col exp wh outs) (h0 : 0 ≤ m) (h1 : m ≤ 1048576) :
    Ev (fun k => laws_szStm.f k kind table cols vals col exp wh outs m) (if (wtStm table cols vals col exp wh outs : Int) ≤ m then m - wtStm table cols vals col exp wh outs else -1) := by
  obtain ⟨g1, ⟨g2, g2s⟩, ⟨g3, g3s⟩, g4, ⟨g5, g5s⟩, ⟨g6, g6s⟩, ⟨g7, g7s⟩⟩ := h
  have bad : ¬ ((wtStm table cols vals col exp wh outs : Int) ≤ m) → Ev (fun _ => some (-1 : Int)) (if (wtStm table cols vals col exp wh outs : Int) ≤ m then m - wtStm table cols vals col exp wh outs else -1) := fun hb => by
    rw [if_neg hb]; exact Ev.now _
  unfold laws_szStm.f
  have n1 : (-1 : Int) < 0 := by decide
  have w1 : wrap64 (m - (table.size : Int)) = m - (table.size : Int) := w64 _ (by omega)
  simp only [w1]
  by_cases c1 : m - (table.size : Int) < 0
  · simp only [if_pos c1]; exact bad (by unfold wtStm; omega)
  simp only [if_neg c1]
  refine (szColumn_ev cols (m - (table.size : Int)) g2 g2s (by omega) (by omega)).bind ?_
  by_cases c2 : (wtL wC cols : Int) ≤ m - (table.size : Int)
  case neg => simp only [if_neg c2, if_pos n1]; exact bad (by unfold wtStm; omega)
  obtain ⟨m2, hm2⟩ : ∃ m2, m - (table.size : Int) - (wtL wC cols : Int) = m2 := ⟨_, rfl⟩
  simp only [if_pos c2, hm2, if_neg (show ¬ m2 < 0 by omega)]
  refine (szValue_ev vals m2 g3 g3s (by omega) (by omega)).bind ?_
  by_cases c3 : (wtL wV vals : Int) ≤ m2
  case neg => simp only [if_neg c3, if_pos n1]; exact bad (by unfold wtStm; omega)
  obtain ⟨m3, hm3⟩ : ∃ m3, m2 - (wtL wV vals : Int) = m3 := ⟨_, rfl⟩
  have w4 : wrap64 (m3 - (col.size : Int)) = m3 - (col.size : Int) := w64 _ (by omega)
  simp only [if_pos c3, hm3, if_neg (show ¬ m3 < 0 by omega), w4]
  by_cases c4 : m3 - (col.size : Int) < 0
  · simp only [if_pos c4]; exact bad (by unfold wtStm; omega)
  simp only [if_neg c4]
  refine (szItem_ev exp (m3 - (col.size : Int)) g5 g5s (by omega) (by omega)).bind ?_
  by_cases c5 : (wtL wI exp : Int) ≤ m3 - (col.size : Int)
  case neg => simp only [if_neg c5, if_pos n1]; exact bad (by unfold wtStm; omega)
  obtain ⟨m5, hm5⟩ : ∃ m5, m3 - (col.size : Int) - (wtL wI exp : Int) = m5 := ⟨_, rfl⟩
  simp only [if_pos c5, hm5, if_neg (show ¬ m5 < 0 by omega)]
  refine (szItem_ev wh m5 g6 g6s (by omega) (by omega)).bind ?_
  by_cases c6 : (wtL wI wh : Int) ≤ m5
  case neg => simp only [if_neg c6, if_pos n1]; exact bad (by unfold wtStm; omega)
  obtain ⟨m6, hm6⟩ : ∃ m6, m5 - (wtL wI wh : Int) = m6 := ⟨_, rfl⟩
  simp only [if_pos c6, hm6, if_neg (show ¬ m6 < 0 by omega)]
  refine (szItemSS_ev outs m6 g7 g7s (by omega) (by omega)).bind ?_
  by_cases c7 : (wtL wII outs : Int) ≤ m6
  case neg => simp only [if_neg c7, if_pos n1]; exact bad (by unfold wtStm; omega)
  simp only [if_pos c7, if_neg (show ¬ (m6 - (wtL wII outs : Int) < 0) by omega)]
  rw [if_pos (show (wtStm table cols vals col exp wh outs : Int) ≤ m by unfold wtStm; omega)]
  have e : m - (wtStm table cols vals col exp wh outs : Int) = m6 - (wtL wII outs : Int) := by unfold wtStm; omega
  rw [e]
  exact Ev.now _
theorem toStm_ev (kind : Int) (table : ByteArray) (cols : List LCol) (vals : List LVal) (col : ByteArray) (exp wh : List LItm) (outs : List (List LItm)) (h : wtStm table cols vals col exp wh outs ≤ 1048576) :
    Ev (fun k => laws_toStm.f k kind table cols vals col exp wh outs) (kind, table, cols.map cvC, vals.map cvV, col, exp.map cvI, wh.map cvI, outs.map cvII) := by
  unfold wtStm wtL at h
  unfold laws_toStm.f
  refine (toColumn_ev cols (by omega)).bind ?_
  refine (toValue_ev vals (by omega)).bind ?_
  refine (toItem_ev exp (by omega)).bind ?_
  refine (toItem_ev wh (by omega)).bind ?_
  refine (toItemSS_ev outs (by omega) (fun y hy => ?_)).bind (Ev.now _)
  have := Gen.mem_sumW wII outs y hy
  have e : wII y = y.length + Gen.sumW wI y := rfl
  omega
theorem eqStm_ev (kind : Int) (table : ByteArray) (cols : List Col) (vals : List Val) (col : ByteArray) (exp wh : List Itm) (outs : List (List Itm)) (h2 : cols.length ≤ 9223372036854775807) (h3 : vals.length ≤ 9223372036854775807) (h5 : exp.length ≤ 9223372036854775807) (h6 : wh.length ≤ 9223372036854775807) (h7 : outs.length ≤ 9223372036854775807) (h7s : ∀ y ∈ outs, y.length ≤ 9223372036854775807) :
    Ev (fun k => laws_eqStm.f k kind table cols vals col exp wh outs kind table cols vals col exp wh outs) true := by
  unfold laws_eqStm.f
  simp only [if_true]
  refine (eqColumn_ev cols h2).bind ?_
  simp only [if_true]
  refine (eqValue_ev vals h3).bind ?_
  simp only [if_true]
  refine (eqItem_ev exp h5).bind ?_
  simp only [if_true]
  refine (eqItem_ev wh h6).bind ?_
  simp only [if_true]
  refine (eqItemSS_ev outs h7 h7s).bind ?_
  simp only [if_true]
  exact Ev.now _
end Go.Proofs.YtmchcoafkaggkaaDoor.Pure
end
section
set_option linter.unusedVariables false
set_option linter.unusedSimpArgs false
namespace Go.Proofs.YtmchcoafkaggkaaDoor.Pure
open Go Go.RowKit Go.Proofs.YtmchcoafkaggkaaDoor Go.Proofs.YtmchcoafkaggkaaDoor.L Go.Proofs.YtmchcoafkaggkaaDoorW.PrintWords Go.Proofs.YtmchcoafkaggkaaDoorW.PrintMore Go.Proofs.YtmchcoafkaggkaaDoorW.PrintLast
theorem ff : ¬ (false = true) := by decide
theorem between_b (x lo hi : Int) : spec_l1Between.f x lo hi = some (decide (lo ≤ x ∧ x ≤ hi)) := by
  unfold spec_l1Between.f
  by_cases h0 : lo ≤ x
  · rw [if_pos h0]; simp [h0]
  · rw [if_neg h0]; simp [h0]
theorem spec_letter (c : Int) : spec_l4Letter.f c = some (decide (97 ≤ c) && decide (c ≤ 122)) := by
  unfold spec_l4Letter.f
  by_cases h1 : 97 ≤ c <;> by_cases h2 : c ≤ 122 <;> simp [h1, h2]
theorem spec_inner (c : Int) : spec_l4Inner.f c = some (wordByte c) := by
  unfold spec_l4Inner.f wordByte
  rw [spec_letter]
  by_cases h1 : 97 ≤ c <;> by_cases h2 : c ≤ 122 <;> by_cases h3 : 48 ≤ c <;> by_cases h4 : c ≤ 57 <;> simp [h1, h2, h3, h4]
theorem has_l0 (s : ByteArray) (l : List ByteArray) (hl : l.length ≤ 1000) (d : Nat) : ∀ i : Nat, i + d = l.length → Ev (fun k => spec_l4Has.l0 k s l (l.length : Int) (i : Int)) ((l.drop i).any fun x => decide (x.toList = s.toList)) := by
  induction d with
  | zero =>
    intro i hi
    have hd : l.drop i = [] := List.drop_eq_nil_of_le (by omega)
    rw [hd]
    refine Ev.step (f := fun _ => some false) (fun k => ?_) (Ev.now _)
    rw [spec_l4Has.l0, if_neg (by omega)]
  | succ d ih =>
    intro i hi
    have hil : i < l.length := by omega
    have hd : l.drop i = l[i] :: l.drop (i + 1) := List.drop_eq_getElem_cons hil
    rw [hd, List.any_cons]
    by_cases h : l[i].toList = s.toList
    · refine Ev.step (f := fun _ => some true) (fun k => ?_) ?_
      · rw [spec_l4Has.l0, if_pos (by omega), if_pos (by omega), if_pos (by omega), rdS l i hil, if_pos h]
      · rw [decide_eq_true h, Bool.true_or]; exact Ev.now _
    · refine Ev.step (f := fun k => spec_l4Has.l0 k s l (l.length : Int) ((i + 1 : Nat) : Int)) (fun k => ?_) ?_
      · rw [spec_l4Has.l0, if_pos (by omega), if_pos (by omega), if_pos (by omega), rdS l i hil, if_neg h, wsucc i (by omega)]
      · rw [decide_eq_false h, Bool.false_or]; exact ih (i + 1) (by omega)
/-- The reference's keywords. -/
def kwS : List ByteArray := (spec_l4Keywords.f).getD []
theorem kwS_eq : spec_l4Keywords.f = some kwS := rfl
theorem kw_sub1 : ∀ a ∈ kwS.map (fun x => x.data.toList), a ∈ kwL := by decide
theorem kw_sub2 : ∀ a ∈ kwL, a ∈ kwS.map (fun x => x.data.toList) := by decide
theorem has_kw (s : ByteArray) : (kwS.any fun x => decide (x.toList = s.toList)) = isKw s := by
  rw [Bool.eq_iff_iff]
  unfold isKw
  rw [List.any_eq_true, List.contains_iff_mem]
  constructor
  · rintro ⟨x, hx, h⟩
    have h := of_decide_eq_true h
    rw [ByteArray.toList_eq, ByteArray.toList_eq] at h
    rw [← h]
    exact kw_sub1 _ (List.mem_map_of_mem hx)
  · intro h
    obtain ⟨x, hx, e⟩ := List.mem_map.1 (kw_sub2 _ h)
    exact ⟨x, hx, decide_eq_true (by rw [ByteArray.toList_eq, ByteArray.toList_eq]; exact e)⟩
theorem name_l0 (s : ByteArray) (hs : s.size ≤ 1000) (d : Nat) : ∀ i : Nat, i + d = s.size → Ev (fun k => spec_l4Name.l0 k s (i : Int)) (allFrom wordByte s d i) := by
  induction d with
  | zero =>
    intro i hi
    exact Ev.step (f := fun _ => some true) (fun k => by rw [spec_l4Name.l0, if_neg (by omega)]) (Ev.now _)
  | succ d ih =>
    intro i hi
    rw [allFrom]
    refine Ev.step (f := fun k => if wordByte (bt s i) = true then spec_l4Name.l0 k s ((i + 1 : Nat) : Int) else some false) (fun k => ?_) ?_
    · rw [spec_l4Name.l0, if_pos (by omega), if_pos (by omega), spec_inner, Option.bind_some, wsucc i (by omega)]
    · cases hb : wordByte (bt s i) with
      | false => simp only [if_neg ff, Bool.false_and]; exact Ev.now _
      | true => simp only [if_true, Bool.true_and]; exact ih (i + 1) (by omega)
theorem spec_nm (s : ByteArray) : Ev (fun k => spec_l4Name.f k s) (nameKw s) := by
  have hbad : Ev (fun k => spec_l4Name.j0 k s true) false := Ev.step (f := fun _ => some false) (fun k => by rw [spec_l4Name.j0, if_pos rfl]) (Ev.now _)
  unfold spec_l4Name.f nameKw
  simp only [between_b, Option.bind_some, spec_letter, kwS_eq]
  by_cases h1 : 1 ≤ s.size
  · by_cases h2 : s.size ≤ 30
    · simp only [decide_eq_true (show (1 : Int) ≤ (s.size : Int) ∧ (s.size : Int) ≤ 30 by omega), if_true, if_pos (show (0 : Int) < (s.size : Int) by omega), decide_eq_true h1, decide_eq_true h2, Bool.true_and]
      cases hL : (decide (97 ≤ bt s 0) && decide (bt s 0 ≤ 122)) with
      | false => simp only [if_neg ff, Bool.false_and]; exact hbad
      | true =>
        simp only [if_true, Bool.true_and]
        have hh := has_l0 s kwS (by decide) kwS.length 0 (by omega)
        rw [List.drop_zero, has_kw] at hh
        refine Ev.bind (Ev.congr (fun k => rfl) hh) ?_
        cases hk : isKw s with
        | true => simp only [Bool.not_true, Bool.and_false]; exact hbad
        | false =>
          simp only [Bool.not_false, Bool.and_true]
          refine Ev.step (fun k => by rw [spec_l4Name.j0, if_neg ff]) ?_
          exact name_l0 s (by omega) s.size 0 (by omega)
    · simp only [decide_eq_false (show ¬ ((1 : Int) ≤ (s.size : Int) ∧ (s.size : Int) ≤ 30) by omega), if_neg ff, decide_eq_true h1, decide_eq_false h2, Bool.true_and, Bool.false_and]
      exact hbad
  · simp only [decide_eq_false (show ¬ ((1 : Int) ≤ (s.size : Int) ∧ (s.size : Int) ≤ 30) by omega), if_neg ff, decide_eq_false h1, Bool.false_and]
    exact hbad
theorem impl_nm (s : ByteArray) (hs : s.size ≤ 9223372036854775807) : impl_isName.f s = some (nameKw s) := by rw [impl_isName.f, if_pos hs]
/-- A text. -/
def textOk (s : ByteArray) : Bool := decide (s.size ≤ 200) && allFrom textByte s s.size 0
theorem impl_txt (s : ByteArray) (hs : s.size ≤ 9223372036854775807) : impl_isText.f s = some (textOk s) := by rw [impl_isText.f, if_pos hs]; rfl
theorem text_l0 (s : ByteArray) (hs : s.size ≤ 1000) (d : Nat) : ∀ i : Nat, i + d = s.size → Ev (fun k => spec_l4Text.l0 k s (i : Int)) (allFrom textByte s d i) := by
  induction d with
  | zero =>
    intro i hi
    exact Ev.step (f := fun _ => some true) (fun k => by rw [spec_l4Text.l0, if_neg (by omega)]) (Ev.now _)
  | succ d ih =>
    intro i hi
    rw [allFrom]
    have hr := bt_range s i
    have hw : wrap64 (bt s i) = bt s i := w64 _ (by omega)
    have ht : decide (32 ≤ bt s i ∧ bt s i ≤ 126) = textByte (bt s i) := by
      unfold textByte
      by_cases h1 : 32 ≤ bt s i <;> by_cases h2 : bt s i ≤ 126 <;> simp [h1, h2]
    refine Ev.step (f := fun k => if textByte (bt s i) = true then spec_l4Text.l0 k s ((i + 1 : Nat) : Int) else some false) (fun k => ?_) ?_
    · rw [spec_l4Text.l0, if_pos (by omega), if_pos (by omega), hw, between_b, ht, Option.bind_some, wsucc i (by omega)]
    · cases hb : textByte (bt s i) with
      | false => simp only [if_neg ff, Bool.false_and]; exact Ev.now _
      | true => simp only [if_true, Bool.true_and]; exact ih (i + 1) (by omega)
theorem spec_txt (s : ByteArray) : Ev (fun k => spec_l4Text.f k s) (textOk s) := by
  unfold spec_l4Text.f textOk
  by_cases h : s.size ≤ 200
  · simp only [if_neg (show ¬ (s.size : Int) > 200 by omega), decide_eq_true h, Bool.true_and]
    exact text_l0 s (by omega) s.size 0 (by omega)
  · simp only [if_pos (show (s.size : Int) > 200 by omega), decide_eq_false h, Bool.false_and]
    exact Ev.now _
def numOk (n : Int) : Bool := n != (-9223372036854775808)
/-- A value of a statement. -/
def valOk (t n : Int) (x : ByteArray) : Bool := if t = 1 then (numOk n && (x.toList == ([] : List UInt8))) else if t = 2 then (decide (n = 0) && textOk x) else false
theorem spec_val (t n : Int) (x : ByteArray) : Ev (fun k => spec_l4Value.f k t n x) (valOk t n x) := by
  unfold spec_l4Value.f valOk spec_l4Number.f numOk
  by_cases h1 : t = 1
  · simp only [if_pos h1, Option.bind_some]
    cases (n != (-9223372036854775808)) with
    | false => simp only [if_neg ff, Bool.false_and]; exact Ev.now _
    | true => simp only [if_true, Bool.true_and]; exact Ev.now _
  · by_cases h2 : t = 2
    · by_cases h3 : n = 0
      · simp only [if_neg h1, if_pos h2, if_pos h3, decide_eq_true h3, Bool.true_and]
        exact (spec_txt x).bind (Ev.now _)
      · simp only [if_neg h1, if_pos h2, if_neg h3, decide_eq_false h3, Bool.false_and]; exact Ev.now _
    · simp only [if_neg h1, if_neg h2]; exact Ev.now _
theorem impl_val (t n : Int) (x : ByteArray) (hx : x.size ≤ 9223372036854775807) : impl_valueOK.f t n x = some (valOk t n x) := by
  unfold impl_valueOK.f valOk impl_isNumber.f numOk
  rw [impl_txt x hx]
  by_cases h1 : t = 1
  · simp only [if_pos h1, Option.bind_some]
    cases (n != (-9223372036854775808)) <;> simp
  · by_cases h2 : t = 2
    · by_cases h3 : n = 0
      · simp [h1, h2, h3]
      · simp [h1, h2, h3]
    · simp [h1, h2]
/-- An item of an expression. -/
def itmOk (op n : Int) (x : ByteArray) : Bool :=
  if op = 1 then (numOk n && (x.toList == ([] : List UInt8))) else if op = 2 then (decide (n = 0) && textOk x) else if op = 3 then (decide (n = 0) && nameKw x) else (decide (4 ≤ op ∧ op ≤ 13) && (decide (n = 0) && (x.toList == ([] : List UInt8))))
def arity (op : Int) : Int := if op ≤ 3 then 0 else if op = 11 then 1 else if op = 13 then 1 else 2
theorem spec_itm (op n : Int) (x : ByteArray) : Ev (fun k => spec_l4Item.f k op n x) (itmOk op n x) := by
  unfold spec_l4Item.f itmOk spec_l4Number.f numOk
  by_cases h1 : op = 1
  · simp only [if_pos h1, Option.bind_some]
    cases (n != (-9223372036854775808)) with
    | false => simp only [if_neg ff, Bool.false_and]; exact Ev.now _
    | true => simp only [if_true, Bool.true_and]; exact Ev.now _
  · by_cases h2 : op = 2
    · by_cases hn : n = 0
      · simp only [if_neg h1, if_pos h2, if_pos hn, decide_eq_true hn, Bool.true_and]
        exact (spec_txt x).bind (Ev.now _)
      · simp only [if_neg h1, if_pos h2, if_neg hn, decide_eq_false hn, Bool.false_and]; exact Ev.now _
    · by_cases h3 : op = 3
      · by_cases hn : n = 0
        · simp only [if_neg h1, if_neg h2, if_pos h3, if_pos hn, decide_eq_true hn, Bool.true_and]
          exact (spec_nm x).bind (Ev.now _)
        · simp only [if_neg h1, if_neg h2, if_pos h3, if_neg hn, decide_eq_false hn, Bool.false_and]; exact Ev.now _
      · simp only [if_neg h1, if_neg h2, if_neg h3, between_b, Option.bind_some]
        by_cases h4 : 4 ≤ op ∧ op ≤ 13
        · by_cases hn : n = 0
          · simp only [decide_eq_true h4, if_true, if_pos hn, decide_eq_true hn, Bool.true_and]; exact Ev.now _
          · simp only [decide_eq_true h4, if_true, if_neg hn, decide_eq_false hn, Bool.true_and, Bool.false_and]; exact Ev.now _
        · simp only [decide_eq_false h4, if_neg ff, Bool.false_and]; exact Ev.now _
theorem spec_ar (op : Int) : spec_l4Arity.f op = some (arity op) := by
  unfold spec_l4Arity.f arity
  split
  · rfl
  · split
    · rfl
    · split <;> rfl
def opnds (op : Int) : Int := if op = 1 ∨ op = 2 ∨ op = 3 then 0 else if op = 11 ∨ op = 13 then 1 else if (4 ≤ op ∧ op ≤ 10) ∨ op = 12 then 2 else -1
theorem impl_opnds (op : Int) : Ev (fun k => impl_operands.f k op) (opnds op) := by
  have e0 : ∀ k, impl_operands.f k op = impl_operands.j0 k op (decide (op = 1 ∨ op = 2 ∨ op = 3)) := fun k => by
    unfold impl_operands.f
    by_cases h1 : op = 1
    · simp [h1]
    · by_cases h2 : op = 2
      · simp [h2]
      · by_cases h3 : op = 3
        · simp [h3]
        · simp only [if_neg h1, if_neg h2, decide_eq_false (show ¬ (op = 1 ∨ op = 2 ∨ op = 3) by omega), show (op == 3) = false from beq_eq_false_iff_ne.2 h3]
  refine Ev.congr e0 ?_
  unfold opnds
  by_cases h : op = 1 ∨ op = 2 ∨ op = 3
  · rw [decide_eq_true h, if_pos h]
    exact Ev.step (f := fun _ => some 0) (fun k => by rw [impl_operands.j0, if_pos rfl]) (Ev.now _)
  · rw [decide_eq_false h, if_neg h]
    refine Ev.step (f := fun k => impl_operands.j1 k op (decide (op = 11 ∨ op = 13))) (fun k => ?_) ?_
    · rw [impl_operands.j0, if_neg ff]
      by_cases h1 : op = 11
      · simp [h1]
      · rw [if_neg h1]
        congr 1
        by_cases h2 : op = 13
        · simp [h2]
        · rw [decide_eq_false (by omega)]; exact beq_eq_false_iff_ne.2 h2
    · by_cases h2 : op = 11 ∨ op = 13
      · rw [decide_eq_true h2, if_pos h2]
        exact Ev.step (f := fun _ => some 1) (fun k => by rw [impl_operands.j1, if_pos rfl]) (Ev.now _)
      · rw [decide_eq_false h2, if_neg h2]
        refine Ev.step (f := fun _ => some (if (4 ≤ op ∧ op ≤ 10) ∨ op = 12 then 2 else -1)) (fun k => ?_) (Ev.now _)
        rw [impl_operands.j1, if_neg ff]
        by_cases q : (4 ≤ op ∧ op ≤ 10) ∨ op = 12
        · rw [if_pos q]
          have : op = 4 ∨ op = 5 ∨ op = 6 ∨ op = 7 ∨ op = 8 ∨ op = 9 ∨ op = 10 ∨ op = 12 := by omega
          rcases this with rfl | rfl | rfl | rfl | rfl | rfl | rfl | rfl <;> simp
        · rw [if_neg q, if_neg (by omega), if_neg (by omega), if_neg (by omega), if_neg (by omega), if_neg (by omega), if_neg (by omega), if_neg (by omega), if_neg (by omega)]
theorem impl_itm (op n : Int) (x : ByteArray) (hx : x.size ≤ 9223372036854775807) : Ev (fun k => impl_itemOK.f k op n x) (itmOk op n x) := by
  unfold impl_itemOK.f itmOk impl_isNumber.f numOk
  simp only [impl_txt x hx, impl_nm x hx]
  by_cases h1 : op = 1
  · simp only [if_pos h1, Option.bind_some]
    cases (n != (-9223372036854775808)) with
    | false => simp only [if_neg ff, Bool.false_and]; exact Ev.now _
    | true => simp only [if_true, Bool.true_and]; exact Ev.now _
  · by_cases h2 : op = 2
    · by_cases hn : n = 0
      · simp only [if_neg h1, if_pos h2, if_pos hn, decide_eq_true hn, Bool.true_and, Option.bind_some]; exact Ev.now _
      · simp only [if_neg h1, if_pos h2, if_neg hn, decide_eq_false hn, Bool.false_and]; exact Ev.now _
    · by_cases h3 : op = 3
      · by_cases hn : n = 0
        · simp only [if_neg h1, if_neg h2, if_pos h3, if_pos hn, decide_eq_true hn, Bool.true_and, Option.bind_some]; exact Ev.now _
        · simp only [if_neg h1, if_neg h2, if_pos h3, if_neg hn, decide_eq_false hn, Bool.false_and]; exact Ev.now _
      · simp only [if_neg h1, if_neg h2, if_neg h3]
        refine (impl_opnds op).bind ?_
        have ho : (opnds op ≥ 0) ↔ (4 ≤ op ∧ op ≤ 13) := by unfold opnds; split <;> (try split) <;> (try split) <;> omega
        by_cases h4 : 4 ≤ op ∧ op ≤ 13
        · by_cases hn : n = 0
          · simp only [if_pos (ho.2 h4), decide_eq_true h4, if_pos hn, decide_eq_true hn, Bool.true_and]; exact Ev.now _
          · simp only [if_pos (ho.2 h4), decide_eq_true h4, if_neg hn, decide_eq_false hn, Bool.true_and, Bool.false_and]; exact Ev.now _
        · simp only [if_neg (fun e => h4 (ho.1 e)), decide_eq_false h4, Bool.false_and]; exact Ev.now _
/-- An expression from its item number i on, with so many operands on the stack. -/
def expRun : List Itm → Int → Bool
  | [], d => d == 1
  | t :: r, d => itmOk t.f0 t.f1 t.f2 && (if d < arity t.f0 then false else expRun r (d + (1 - arity t.f0)))
theorem arity_range (op : Int) : 0 ≤ arity op ∧ arity op ≤ 2 := by
  unfold arity
  split
  · omega
  · split
    · omega
    · split <;> omega
theorem opnds_arity (op : Int) (h : 1 ≤ op ∧ op ≤ 13) : opnds op = arity op := by
  have : op = 1 ∨ op = 2 ∨ op = 3 ∨ op = 4 ∨ op = 5 ∨ op = 6 ∨ op = 7 ∨ op = 8 ∨ op = 9 ∨ op = 10 ∨ op = 11 ∨ op = 12 ∨ op = 13 := by omega
  rcases this with rfl | rfl | rfl | rfl | rfl | rfl | rfl | rfl | rfl | rfl | rfl | rfl | rfl <;> decide
theorem itmOk_op {op n : Int} {x : ByteArray} (h : itmOk op n x = true) : 1 ≤ op ∧ op ≤ 13 := by
  unfold itmOk at h
  by_cases h1 : op = 1
  · omega
  · by_cases h2 : op = 2
    · omega
    · by_cases h3 : op = 3
      · omega
      · rw [if_neg h1, if_neg h2, if_neg h3, Bool.and_eq_true] at h
        have := of_decide_eq_true h.1
        omega
theorem spec_exp_l0 (l : List Itm) (hl : l.length ≤ 1000) (e : Nat) : ∀ (i : Nat) (d : Int), i + e = l.length → 0 ≤ d → d ≤ i → Ev (fun k => spec_l4Exp.l0 k d l (l.length : Int) (i : Int)) (expRun (l.drop i) d) := by
  induction e with
  | zero =>
    intro i d hi h0 h1
    have hd : l.drop i = [] := List.drop_eq_nil_of_le (by omega)
    rw [hd]
    exact Ev.step (f := fun _ => some (d == 1)) (fun k => by rw [spec_l4Exp.l0, if_neg (by omega)]) (Ev.now _)
  | succ e ih =>
    intro i d hi h0 h1
    have hil : i < l.length := by omega
    have hd : l.drop i = l[i] :: l.drop (i + 1) := List.drop_eq_getElem_cons hil
    have ha := arity_range l[i].f0
    have w1 : wrap64 (1 - arity l[i].f0) = 1 - arity l[i].f0 := w64 _ (by omega)
    have w2 : wrap64 (d + (1 - arity l[i].f0)) = d + (1 - arity l[i].f0) := w64 _ (by omega)
    rw [hd, expRun]
    refine Ev.step (f := fun k => (spec_l4Item.f k l[i].f0 l[i].f1 l[i].f2).bind fun t => if t = true then (if d < arity l[i].f0 then some false else spec_l4Exp.l0 k (d + (1 - arity l[i].f0)) l (l.length : Int) ((i + 1 : Nat) : Int)) else some false) (fun k => ?_) ?_
    · rw [spec_l4Exp.l0, if_pos (by omega), if_pos (by omega), if_pos (by omega), rdItm l i hil]
      simp only [spec_ar, Option.bind_some, w1, w2, wsucc i (show i < 9223372036854775807 by omega)]
    · refine (spec_itm _ _ _).bind ?_
      cases hk : itmOk l[i].f0 l[i].f1 l[i].f2 with
      | false => simp only [if_neg ff, Bool.false_and]; exact Ev.now _
      | true =>
        simp only [if_true, Bool.true_and]
        by_cases hc : d < arity l[i].f0
        · simp only [if_pos hc]; exact Ev.now _
        · simp only [if_neg hc]; exact ih (i + 1) _ (by omega) (by omega) (by omega)
theorem impl_exp_l0 (l : List Itm) (hl : l.length ≤ 1000) (hs : ∀ y ∈ l, y.f2.size ≤ 9223372036854775807) (e : Nat) : ∀ (i : Nat) (d : Int), i + e = l.length → 0 ≤ d → d ≤ i → Ev (fun k => impl_expOK.l0 k d l (l.length : Int) (i : Int)) (expRun (l.drop i) d) := by
  induction e with
  | zero =>
    intro i d hi h0 h1
    have hd : l.drop i = [] := List.drop_eq_nil_of_le (by omega)
    rw [hd]
    exact Ev.step (f := fun _ => some (d == 1)) (fun k => by rw [impl_expOK.l0, if_neg (by omega)]) (Ev.now _)
  | succ e ih =>
    intro i d hi h0 h1
    have hil : i < l.length := by omega
    have hd : l.drop i = l[i] :: l.drop (i + 1) := List.drop_eq_getElem_cons hil
    rw [hd, expRun]
    refine Ev.step (f := fun k => (impl_operands.f k l[i].f0).bind fun u => (impl_itemOK.f k l[i].f0 l[i].f1 l[i].f2).bind fun t => if t = true then (if d < u then some false else impl_expOK.l0 k (wrap64 (d + (wrap64 (1 - u)))) l (l.length : Int) ((i + 1 : Nat) : Int)) else some false) (fun k => ?_) ?_
    · rw [impl_expOK.l0, if_pos (by omega), if_pos (by omega), if_pos (by omega), rdItm l i hil, wsucc i (by omega)]
    · refine (impl_opnds _).bind ?_
      refine (impl_itm _ _ _ (hs _ (List.getElem_mem hil))).bind ?_
      cases hk : itmOk l[i].f0 l[i].f1 l[i].f2 with
      | false => simp only [if_neg ff, Bool.false_and]; exact Ev.now _
      | true =>
        have ha := arity_range l[i].f0
        have w1 : wrap64 (1 - arity l[i].f0) = 1 - arity l[i].f0 := w64 _ (by omega)
        have w2 : wrap64 (d + (1 - arity l[i].f0)) = d + (1 - arity l[i].f0) := w64 _ (by omega)
        simp only [if_true, Bool.true_and, opnds_arity _ (itmOk_op hk), w1, w2]
        by_cases hc : d < arity l[i].f0
        · simp only [if_pos hc]; exact Ev.now _
        · simp only [if_neg hc]; exact ih (i + 1) _ (by omega) (by omega) (by omega)
/-- An expression. -/
def expOk (l : List Itm) : Bool := decide (1 ≤ l.length ∧ l.length ≤ 100) && expRun l 0
theorem spec_exp (l : List Itm) : Ev (fun k => spec_l4Exp.f k l) (expOk l) := by
  unfold spec_l4Exp.f expOk
  simp only [between_b, Option.bind_some]
  by_cases h : 1 ≤ l.length ∧ l.length ≤ 100
  · simp only [decide_eq_true (show (1 : Int) ≤ (l.length : Int) ∧ (l.length : Int) ≤ 100 by omega), if_true, decide_eq_true h, Bool.true_and]
    exact spec_exp_l0 l (by omega) l.length 0 0 (by omega) (by omega) (by omega)
  · simp only [decide_eq_false (show ¬ ((1 : Int) ≤ (l.length : Int) ∧ (l.length : Int) ≤ 100) by omega), if_neg ff, decide_eq_false h, Bool.false_and]
    exact Ev.now _
theorem impl_exp (l : List Itm) (hs : ∀ y ∈ l, y.f2.size ≤ 9223372036854775807) : Ev (fun k => impl_expOK.f k l) (expOk l) := by
  have hbad : Ev (fun k => impl_expOK.j0 k l true) false := Ev.step (f := fun _ => some false) (fun k => by rw [impl_expOK.j0, if_pos rfl]) (Ev.now _)
  unfold impl_expOK.f expOk
  by_cases h1 : 1 ≤ l.length
  · by_cases h2 : l.length ≤ 100
    · simp only [if_neg (show ¬ (l.length : Int) < 1 by omega), decide_eq_false (show ¬ (l.length : Int) > 100 by omega), decide_eq_true (And.intro h1 h2), Bool.true_and]
      refine Ev.step (fun k => by rw [impl_expOK.j0, if_neg ff]) ?_
      exact impl_exp_l0 l (by omega) hs l.length 0 0 (by omega) (by omega) (by omega)
    · simp only [if_neg (show ¬ (l.length : Int) < 1 by omega), decide_eq_true (show (l.length : Int) > 100 by omega), decide_eq_false (show ¬ (1 ≤ l.length ∧ l.length ≤ 100) by omega), Bool.false_and]
      exact hbad
  · simp only [if_pos (show (l.length : Int) < 1 by omega), decide_eq_false (show ¬ (1 ≤ l.length ∧ l.length ≤ 100) by omega), Bool.false_and]
    exact hbad
def whOk (l : List Itm) : Bool := decide (l.length = 0) || expOk l
theorem spec_wh (l : List Itm) : Ev (fun k => spec_l4Where.f k l) (whOk l) := by
  unfold spec_l4Where.f whOk
  by_cases h : l.length = 0
  · simp only [if_pos (show (l.length : Int) = 0 by omega), decide_eq_true h, Bool.true_or]; exact Ev.now _
  · simp only [if_neg (show ¬ (l.length : Int) = 0 by omega), decide_eq_false h, Bool.false_or]
    exact (spec_exp l).bind (Ev.now _)
def colOk (c : Col) : Bool := nameKw c.f0 && (decide (c.f1 = 1) || decide (c.f1 = 2))
/-- The document's StmOK. -/
def stmOk (kind : Int) (table : ByteArray) (cols : List Col) (vals : List Val) (col : ByteArray) (exp wh : List Itm) (outs : List (List Itm)) : Bool :=
  nameKw table &&
    (if kind = 1 then decide (vals.length = 0) && (decide (col.toList = ([] : List UInt8)) && (decide (exp.length = 0) && (decide (outs.length = 0) && (decide (wh.length = 0) && (decide (1 ≤ cols.length ∧ cols.length ≤ 20) && cols.all colOk)))))
     else if kind = 2 then decide (cols.length = 0) && (decide (col.toList = ([] : List UInt8)) && (decide (exp.length = 0) && (decide (outs.length = 0) && (decide (wh.length = 0) && (decide (1 ≤ vals.length ∧ vals.length ≤ 20) && vals.all fun v => valOk v.f0 v.f1 v.f2)))))
     else if kind = 3 then decide (cols.length = 0) && (decide (vals.length = 0) && (decide (outs.length = 0) && (nameKw col && (expOk exp && whOk wh))))
     else if kind = 4 then decide (cols.length = 0) && (decide (vals.length = 0) && (decide (col.toList = ([] : List UInt8)) && (decide (exp.length = 0) && (decide (outs.length = 0) && whOk wh))))
     else if kind = 5 then decide (cols.length = 0) && (decide (vals.length = 0) && (decide (col.toList = ([] : List UInt8)) && (decide (exp.length = 0) && (decide (1 ≤ outs.length ∧ outs.length ≤ 20) && (outs.all expOk && whOk wh)))))
     else false)
end Go.Proofs.YtmchcoafkaggkaaDoor.Pure
end
section
set_option linter.unusedVariables false
set_option linter.unusedSimpArgs false
namespace Go.Proofs.YtmchcoafkaggkaaDoor.Pure
open Go Go.RowKit Go.Proofs.YtmchcoafkaggkaaDoor Go.Proofs.YtmchcoafkaggkaaDoor.L Go.Proofs.YtmchcoafkaggkaaDoorW.PrintWords Go.Proofs.YtmchcoafkaggkaaDoorW.PrintMore Go.Proofs.YtmchcoafkaggkaaDoorW.PrintLast
/-- Does something stand that this kind has not? -/
def bad (kind : Int) (cols : List Col) (vals : List Val) (col : ByteArray) (exp : List Itm) (outs : List (List Itm)) : Bool :=
  (decide (¬ kind = 1) && decide (¬ cols.length = 0)) || ((decide (¬ kind = 2) && decide (¬ vals.length = 0)) || ((decide (¬ kind = 3) && (decide (¬ col.toList = ([] : List UInt8)) || decide (¬ exp.length = 0))) || (decide (¬ kind = 5) && decide (¬ outs.length = 0))))
theorem ne0 {α : Type} (l : List α) : ((l.length : Int) != 0) = decide (¬ l.length = 0) := by
  by_cases h : l.length = 0
  · simp [h]
  · rw [decide_eq_true h]; exact bne_iff_ne.2 (by omega)
theorem len0 {α : Type} (l : List α) : ((l.length : Int) = 0) ↔ l.length = 0 := by omega
theorem spec_f_eq (k : Nat) (kind : Int) (table : ByteArray) (cols : List Col) (vals : List Val) (col : ByteArray) (exp wh : List Itm) (outs : List (List Itm)) :
    spec_StmOK.f k kind table cols vals col exp wh outs = (spec_l4Name.f k table).bind fun t => if t = true then spec_StmOK.j0 k kind (bad kind cols vals col exp outs) kind table cols vals col exp wh outs else some false := by
  unfold spec_StmOK.f bad
  simp only [ne0, len0]
  congr 1
  funext t
  cases t with
  | false => simp only [if_neg ff]
  | true =>
    simp only [if_true]
    by_cases h1 : kind = 1
    · subst h1
      by_cases e2 : vals.length = 0 <;> by_cases e3 : col.toList = ([] : List UInt8) <;> by_cases e4 : exp.length = 0 <;> simp [e2, e3, e4]
    · by_cases h2 : kind = 2
      · subst h2
        by_cases e1 : cols.length = 0 <;> by_cases e3 : col.toList = ([] : List UInt8) <;> by_cases e4 : exp.length = 0 <;> simp [e1, e3, e4]
      · by_cases h3 : kind = 3
        · subst h3
          by_cases e1 : cols.length = 0 <;> by_cases e2 : vals.length = 0 <;> simp [e1, e2]
        · by_cases h5 : kind = 5
          · subst h5
            by_cases e1 : cols.length = 0 <;> by_cases e2 : vals.length = 0 <;> by_cases e3 : col.toList = ([] : List UInt8) <;> by_cases e4 : exp.length = 0 <;> simp [e1, e2, e3, e4]
          · by_cases e1 : cols.length = 0 <;> by_cases e2 : vals.length = 0 <;> by_cases e3 : col.toList = ([] : List UInt8) <;> by_cases e4 : exp.length = 0 <;> simp [h1, h2, h3, h5, e1, e2, e3, e4]
theorem spec_type (t : Int) : spec_l4Type.f t = some (decide (t = 1) || decide (t = 2)) := by
  unfold spec_l4Type.f
  by_cases h : t = 1
  · simp [h]
  · rw [if_neg h, decide_eq_false h, Bool.false_or]
    by_cases h2 : t = 2
    · simp [h2]
    · rw [decide_eq_false h2, show (t == 2) = false from beq_eq_false_iff_ne.2 h2]
theorem bind_two {β : Type} (x : Option Bool) (b : Bool) (y : Option β) (z : Option β) :
    (x.bind fun t => if t = true then ((some b : Option Bool).bind fun u => if u = true then y else z) else z) = ((x.bind fun t => some (t && b)).bind fun v => if v = true then y else z) := by
  cases x with
  | none => rfl
  | some t => cases t <;> cases b <;> rfl
section
variable (table : ByteArray) (cols : List Col) (vals : List Val) (col : ByteArray) (exp wh : List Itm) (outs : List (List Itm))
theorem j0_true (kind : Int) : Ev (fun k => spec_StmOK.j0 k kind true kind table cols vals col exp wh outs) false :=
  Ev.step (f := fun _ => some false) (fun k => by rw [spec_StmOK.j0, if_pos rfl]) (Ev.now _)
theorem j1_true (kind : Int) : Ev (fun k => spec_StmOK.j1 k kind true kind table cols vals col exp wh outs) false :=
  Ev.step (f := fun _ => some false) (fun k => by rw [spec_StmOK.j1, if_pos rfl]) (Ev.now _)
theorem j0_low (kind : Int) (h : kind < 3) {r : Bool} (hr : Ev (fun k => spec_StmOK.j1 k kind (decide (¬ wh.length = 0)) kind table cols vals col exp wh outs) r) : Ev (fun k => spec_StmOK.j0 k kind false kind table cols vals col exp wh outs) r :=
  Ev.step (fun k => by rw [spec_StmOK.j0, if_neg ff, if_pos h, ne0]) hr
theorem j0_high (kind : Int) (h : ¬ kind < 3) {r : Bool} (hr : Ev (fun k => spec_StmOK.j1 k kind false kind table cols vals col exp wh outs) r) : Ev (fun k => spec_StmOK.j0 k kind false kind table cols vals col exp wh outs) r :=
  Ev.step (fun k => by rw [spec_StmOK.j0, if_neg ff, if_neg h]) hr
theorem spec_cols (hl : cols.length ≤ 1000000000) : Ev (fun k => spec_StmOK.l0 k cols (cols.length : Int) ((0 : Nat) : Int) 1 table cols vals col exp wh outs) (decide (1 ≤ cols.length ∧ cols.length ≤ 20) && cols.all colOk) := by
  by_cases h20 : cols.length ≤ 20
  · have := Gen.every (α := Col) colOk (decide (1 ≤ cols.length)) (fun k i => spec_StmOK.l0 k cols (cols.length : Int) i 1 table cols vals col exp wh outs)
      (fun k c => (spec_l4Name.f k c.f0).bind fun t => some (t && (decide (c.f1 = 1) || decide (c.f1 = 2)))) cols (fun k i h => by
        rw [spec_StmOK.l0, if_pos (by omega), if_pos (by omega), if_pos (by omega), if_neg (by omega), rdCol cols i h, wsucc i (by omega)]
        simp only [spec_type]
        exact bind_two _ _ _ _)
      (Ev.step (f := fun _ => some (decide (1 ≤ cols.length))) (fun k => by
        rw [spec_StmOK.l0, if_neg (by omega)]
        congr 1
        by_cases h : 1 ≤ cols.length
        · rw [decide_eq_true h, decide_eq_true (by omega)]
        · rw [decide_eq_false h, decide_eq_false (by omega)]) (Ev.now _))
      (fun c _ => (spec_nm c.f0).bind (Ev.now _)) cols.length 0 (by omega)
    have e : (decide (1 ≤ cols.length ∧ cols.length ≤ 20) && cols.all colOk) = ((cols.drop 0).all colOk && decide (1 ≤ cols.length)) := by
      rw [List.drop_zero, Bool.and_comm]
      by_cases h : 1 ≤ cols.length
      · rw [decide_eq_true h, decide_eq_true (And.intro h h20)]
      · rw [decide_eq_false h, decide_eq_false (fun x => h x.1)]
    rw [e]
    exact this
  · refine Ev.step (f := fun _ => some false) (fun k => ?_) ?_
    · rw [spec_StmOK.l0, if_pos (by omega), if_pos (by omega), if_pos (by omega), if_pos (by omega)]
    · rw [decide_eq_false (fun x => h20 x.2), Bool.false_and]; exact Ev.now _
theorem spec_vals (hl : vals.length ≤ 1000000000) : Ev (fun k => spec_StmOK.l1 k vals (vals.length : Int) ((0 : Nat) : Int) 2 table cols vals col exp wh outs) (decide (1 ≤ vals.length ∧ vals.length ≤ 20) && vals.all fun v => valOk v.f0 v.f1 v.f2) := by
  by_cases h20 : vals.length ≤ 20
  · have := Gen.every (α := Val) (fun v => valOk v.f0 v.f1 v.f2) (decide (1 ≤ vals.length)) (fun k i => spec_StmOK.l1 k vals (vals.length : Int) i 2 table cols vals col exp wh outs)
      (fun k v => spec_l4Value.f k v.f0 v.f1 v.f2) vals (fun k i h => by
        rw [spec_StmOK.l1, if_pos (by omega), if_pos (by omega), if_pos (by omega), if_neg (by omega), rdVal vals i h, wsucc i (by omega)])
      (Ev.step (f := fun _ => some (decide (1 ≤ vals.length))) (fun k => by
        rw [spec_StmOK.l1, if_neg (by omega)]
        congr 1
        by_cases h : 1 ≤ vals.length
        · rw [decide_eq_true h, decide_eq_true (by omega)]
        · rw [decide_eq_false h, decide_eq_false (by omega)]) (Ev.now _))
      (fun v _ => spec_val _ _ _) vals.length 0 (by omega)
    have e : (decide (1 ≤ vals.length ∧ vals.length ≤ 20) && vals.all fun v => valOk v.f0 v.f1 v.f2) = ((vals.drop 0).all (fun v => valOk v.f0 v.f1 v.f2) && decide (1 ≤ vals.length)) := by
      rw [List.drop_zero, Bool.and_comm]
      by_cases h : 1 ≤ vals.length
      · rw [decide_eq_true h, decide_eq_true (And.intro h h20)]
      · rw [decide_eq_false h, decide_eq_false (fun x => h x.1)]
    rw [e]
    exact this
  · refine Ev.step (f := fun _ => some false) (fun k => ?_) ?_
    · rw [spec_StmOK.l1, if_pos (by omega), if_pos (by omega), if_pos (by omega), if_pos (by omega)]
    · rw [decide_eq_false (fun x => h20 x.2), Bool.false_and]; exact Ev.now _
theorem spec_outs (hl : outs.length ≤ 1000000000) : Ev (fun k => spec_StmOK.l2 k outs (outs.length : Int) ((0 : Nat) : Int) 5 table cols vals col exp wh outs) (decide (1 ≤ outs.length ∧ outs.length ≤ 20) && (outs.all expOk && whOk wh)) := by
  by_cases h20 : outs.length ≤ 20
  · have := Gen.every (α := List Itm) expOk (decide (1 ≤ outs.length) && whOk wh) (fun k i => spec_StmOK.l2 k outs (outs.length : Int) i 5 table cols vals col exp wh outs)
      (fun k v => spec_l4Exp.f k v) outs (fun k i h => by
        rw [spec_StmOK.l2, if_pos (by omega), if_pos (by omega), if_pos (by omega), if_neg (by omega), rdII outs i h, wsucc i (by omega)])
      (by
        by_cases h : 1 ≤ outs.length
        · refine Ev.step (f := fun k => (spec_l4Where.f k wh).bind fun t => some t) (fun k => by rw [spec_StmOK.l2, if_neg (by omega), if_pos (by omega)]) ?_
          rw [decide_eq_true h, Bool.true_and]
          exact (spec_wh wh).bind (Ev.now _)
        · refine Ev.step (f := fun _ => some false) (fun k => by rw [spec_StmOK.l2, if_neg (by omega), if_neg (by omega)]) ?_
          rw [decide_eq_false h, Bool.false_and]
          exact Ev.now _)
      (fun v _ => spec_exp _) outs.length 0 (by omega)
    have e : (decide (1 ≤ outs.length ∧ outs.length ≤ 20) && (outs.all expOk && whOk wh)) = ((outs.drop 0).all expOk && (decide (1 ≤ outs.length) && whOk wh)) := by
      rw [List.drop_zero]
      by_cases h : 1 ≤ outs.length
      · rw [decide_eq_true h, decide_eq_true (And.intro h h20)]; simp
      · rw [decide_eq_false h, decide_eq_false (fun x => h x.1)]; simp
    rw [e]
    exact this
  · refine Ev.step (f := fun _ => some false) (fun k => ?_) ?_
    · rw [spec_StmOK.l2, if_pos (by omega), if_pos (by omega), if_pos (by omega), if_pos (by omega)]
    · rw [decide_eq_false (fun x => h20 x.2), Bool.false_and]; exact Ev.now _
theorem spec_stm (kind : Int) (h2 : cols.length ≤ 1000000000) (h3 : vals.length ≤ 1000000000) (h7 : outs.length ≤ 1000000000) :
    Ev (fun k => spec_StmOK.f k kind table cols vals col exp wh outs) (stmOk kind table cols vals col exp wh outs) := by
  refine Ev.congr (fun k => spec_f_eq k kind table cols vals col exp wh outs) ?_
  refine (spec_nm table).bind ?_
  unfold stmOk
  cases hn : nameKw table with
  | false => simp only [if_neg ff, Bool.false_and]; exact Ev.now _
  | true =>
    simp only [if_true, Bool.true_and]
    by_cases k1 : kind = 1
    · subst k1
      by_cases e2 : vals.length = 0 <;> by_cases e3 : col.toList = ([] : List UInt8) <;> by_cases e4 : exp.length = 0 <;> by_cases e5 : outs.length = 0
      all_goals
        simp only [bad, decide_not, decide_true, decide_false, Bool.not_true, Bool.not_false, Bool.false_and, Bool.true_and, Bool.or_false, Bool.false_or, Bool.true_or, Bool.or_true, Bool.and_true, Bool.and_false, if_true, ite_false, if_neg ff, show ¬ (1 : Int) = 2 by decide, show ¬ (1 : Int) = 3 by decide, show ¬ (1 : Int) = 4 by decide, show ¬ (1 : Int) = 5 by decide, e2, e3, e4, e5]
        first
        | exact j0_true table cols vals col exp wh outs 1
        | (refine j0_low table cols vals col exp wh outs 1 (by decide) ?_
           by_cases e6 : wh.length = 0
           · simp only [e6, decide_true, decide_not, Bool.not_true, Bool.true_and]
             refine Ev.step (fun k => by rw [spec_StmOK.j1, if_neg ff, if_pos rfl]) ?_
             exact spec_cols table cols vals col exp wh outs h2
           · simp only [e6, decide_false, decide_not, Bool.not_false, Bool.false_and]
             exact j1_true table cols vals col exp wh outs 1)
    by_cases k2 : kind = 2
    · subst k2
      by_cases e1 : cols.length = 0 <;> by_cases e3 : col.toList = ([] : List UInt8) <;> by_cases e4 : exp.length = 0 <;> by_cases e5 : outs.length = 0
      all_goals
        simp only [bad, decide_not, decide_true, decide_false, Bool.not_true, Bool.not_false, Bool.false_and, Bool.true_and, Bool.or_false, Bool.false_or, Bool.true_or, Bool.or_true, Bool.and_true, Bool.and_false, if_true, ite_false, if_neg ff, show ¬ (2 : Int) = 1 by decide, show ¬ (2 : Int) = 3 by decide, show ¬ (2 : Int) = 4 by decide, show ¬ (2 : Int) = 5 by decide, e1, e3, e4, e5]
        first
        | exact j0_true table cols vals col exp wh outs 2
        | (refine j0_low table cols vals col exp wh outs 2 (by decide) ?_
           by_cases e6 : wh.length = 0
           · simp only [e6, decide_true, decide_not, Bool.not_true, Bool.true_and]
             refine Ev.step (fun k => by rw [spec_StmOK.j1, if_neg ff, if_neg (by decide), if_pos rfl]) ?_
             exact spec_vals table cols vals col exp wh outs h3
           · simp only [e6, decide_false, decide_not, Bool.not_false, Bool.false_and]
             exact j1_true table cols vals col exp wh outs 2)
    by_cases k3 : kind = 3
    · subst k3
      by_cases e1 : cols.length = 0 <;> by_cases e2 : vals.length = 0 <;> by_cases e5 : outs.length = 0
      all_goals
        simp only [bad, decide_not, decide_true, decide_false, Bool.not_true, Bool.not_false, Bool.false_and, Bool.true_and, Bool.or_false, Bool.false_or, Bool.true_or, Bool.or_true, Bool.and_true, Bool.and_false, if_true, ite_false, if_neg ff, show ¬ (3 : Int) = 1 by decide, show ¬ (3 : Int) = 2 by decide, show ¬ (3 : Int) = 4 by decide, show ¬ (3 : Int) = 5 by decide, e1, e2, e5]
        first
        | exact j0_true table cols vals col exp wh outs 3
        | (refine j0_high table cols vals col exp wh outs 3 (by decide) ?_
           refine Ev.step (fun k => by rw [spec_StmOK.j1, if_neg ff, if_neg (by decide), if_neg (by decide), if_pos rfl]) ?_
           refine (spec_nm col).bind ?_
           cases nameKw col with
           | false => simp only [if_neg ff, Bool.false_and]; exact Ev.now _
           | true =>
             simp only [if_true, Bool.true_and]
             refine (spec_exp exp).bind ?_
             cases expOk exp with
             | false => simp only [if_neg ff, Bool.false_and]; exact Ev.now _
             | true => simp only [if_true, Bool.true_and]; exact (spec_wh wh).bind (Ev.now _))
    by_cases k4 : kind = 4
    · subst k4
      by_cases e1 : cols.length = 0 <;> by_cases e2 : vals.length = 0 <;> by_cases e3 : col.toList = ([] : List UInt8) <;> by_cases e4 : exp.length = 0 <;> by_cases e5 : outs.length = 0
      all_goals
        simp only [bad, decide_not, decide_true, decide_false, Bool.not_true, Bool.not_false, Bool.false_and, Bool.true_and, Bool.or_false, Bool.false_or, Bool.true_or, Bool.or_true, Bool.and_true, Bool.and_false, if_true, ite_false, if_neg ff, show ¬ (4 : Int) = 1 by decide, show ¬ (4 : Int) = 2 by decide, show ¬ (4 : Int) = 3 by decide, show ¬ (4 : Int) = 5 by decide, e1, e2, e3, e4, e5]
        first
        | exact j0_true table cols vals col exp wh outs 4
        | (refine j0_high table cols vals col exp wh outs 4 (by decide) ?_
           refine Ev.step (fun k => by rw [spec_StmOK.j1, if_neg ff, if_neg (by decide), if_neg (by decide), if_neg (by decide), if_pos rfl]) ?_
           exact (spec_wh wh).bind (Ev.now _))
    by_cases k5 : kind = 5
    · subst k5
      by_cases e1 : cols.length = 0 <;> by_cases e2 : vals.length = 0 <;> by_cases e3 : col.toList = ([] : List UInt8) <;> by_cases e4 : exp.length = 0
      all_goals
        simp only [bad, decide_not, decide_true, decide_false, Bool.not_true, Bool.not_false, Bool.false_and, Bool.true_and, Bool.or_false, Bool.false_or, Bool.true_or, Bool.or_true, Bool.and_true, Bool.and_false, if_true, ite_false, if_neg ff, show ¬ (5 : Int) = 1 by decide, show ¬ (5 : Int) = 2 by decide, show ¬ (5 : Int) = 3 by decide, show ¬ (5 : Int) = 4 by decide, e1, e2, e3, e4]
        first
        | exact j0_true table cols vals col exp wh outs 5
        | (refine j0_high table cols vals col exp wh outs 5 (by decide) ?_
           refine Ev.step (fun k => by rw [spec_StmOK.j1, if_neg ff, if_neg (by decide), if_neg (by decide), if_neg (by decide), if_neg (by decide), if_pos rfl]) ?_
           exact spec_outs table cols vals col exp wh outs h7)
    simp only [if_neg k1, if_neg k2, if_neg k3, if_neg k4, if_neg k5]
    cases hb : bad kind cols vals col exp outs with
    | true => exact j0_true table cols vals col exp wh outs kind
    | false =>
      by_cases hlt : kind < 3
      · refine j0_low table cols vals col exp wh outs kind hlt ?_
        by_cases e6 : wh.length = 0
        · simp only [e6, decide_true, decide_not, Bool.not_true]
          exact Ev.step (f := fun _ => some false) (fun k => by rw [spec_StmOK.j1, if_neg ff, if_neg k1, if_neg k2, if_neg k3, if_neg k4, if_neg k5]) (Ev.now _)
        · simp only [e6, decide_false, decide_not, Bool.not_false]
          exact j1_true table cols vals col exp wh outs kind
      · refine j0_high table cols vals col exp wh outs kind hlt ?_
        exact Ev.step (f := fun _ => some false) (fun k => by rw [spec_StmOK.j1, if_neg ff, if_neg k1, if_neg k2, if_neg k3, if_neg k4, if_neg k5]) (Ev.now _)
theorem if_and (p : Prop) [Decidable p] (b : Bool) : (if p then (some b : Option Bool) else some false) = some (decide p && b) := by
  by_cases h : p <;> simp [h]
theorem eq0 {α : Type} (l : List α) : ((l.length : Int) == 0) = decide (l.length = 0) := by
  by_cases h : l.length = 0
  · simp [h]
  · rw [decide_eq_false h]; exact beq_eq_false_iff_ne.2 (by omega)
theorem ge1 {α : Type} (l : List α) : ((l.length : Int) ≥ 1) = (1 ≤ l.length) := propext ⟨fun h => by omega, fun h => by omega⟩
theorem le20 {α : Type} (l : List α) : ((l.length : Int) ≤ 20) = (l.length ≤ 20) := propext ⟨fun h => by omega, fun h => by omega⟩
theorem len0' {α : Type} (l : List α) : ((l.length : Int) = 0) = (l.length = 0) := propext (len0 l)
theorem dand (p q : Prop) [Decidable p] [Decidable q] : decide (p ∧ q) = (decide p && decide q) := by
  by_cases h : p <;> by_cases h2 : q <;> simp [h, h2]
theorem impl_stm (kind : Int) (ht : table.size ≤ 9223372036854775807) (hc : col.size ≤ 9223372036854775807) (h2 : cols.length ≤ 1000000000) (h2s : ∀ y ∈ cols, y.f0.size ≤ 9223372036854775807) (h3 : vals.length ≤ 1000000000) (h3s : ∀ y ∈ vals, y.f2.size ≤ 9223372036854775807) (h5s : ∀ y ∈ exp, y.f2.size ≤ 9223372036854775807) (h6s : ∀ y ∈ wh, y.f2.size ≤ 9223372036854775807) (h7 : outs.length ≤ 1000000000) (h7s : ∀ y ∈ outs, ∀ z ∈ y, z.f2.size ≤ 9223372036854775807) :
    Ev (fun k => impl_StmOK.f k kind table cols vals col exp wh outs) (stmOk kind table cols vals col exp wh outs) := by
  have key : Ev (fun k => impl_StmOK.j0 k (whOk wh) kind table cols vals col exp wh outs) (stmOk kind table cols vals col exp wh outs) := by
    unfold stmOk
    refine Ev.step (fun k => by rw [impl_StmOK.j0, impl_nm table ht, Option.bind_some]) ?_
    cases hn : nameKw table with
    | false => simp only [if_neg ff, Bool.false_and]; exact Ev.now _
    | true =>
      simp only [if_true, Bool.true_and]
      by_cases k1 : kind = 1
      · simp only [if_pos k1]
        have := Gen.every (α := Col) colOk ((decide (1 ≤ cols.length) && (decide (cols.length ≤ 20) && (decide (vals.length = 0) && (decide (col.toList = ([] : List UInt8)) && (decide (exp.length = 0) && (decide (wh.length = 0) && decide (outs.length = 0))))))))
          (fun k i => impl_StmOK.l0 k (cols.length : Int) (vals.length : Int) col (exp.length : Int) (outs.length : Int) cols (cols.length : Int) i kind table cols vals col exp wh outs) (fun k c => some (colOk c)) cols (fun k i h => by
            rw [impl_StmOK.l0, if_pos (by omega), if_pos (by omega), if_pos (by omega), rdCol cols i h, impl_nm _ (h2s _ (List.getElem_mem h)), wsucc i (by omega)]
            unfold colOk
            cases nameKw cols[i].f0 with
            | false => simp
            | true =>
              by_cases a1 : cols[i].f1 = 1
              · simp [a1]
              · by_cases a2 : cols[i].f1 = 2
                · simp [a2]
                · simp [a1, a2])
          (Ev.step (f := fun _ => some _) (fun k => by
            rw [impl_StmOK.l0, if_neg (by omega)]
            simp only [eq0, ge1, le20, len0', if_and]) (Ev.now _))
          (fun c _ => Ev.now _) cols.length 0 (by omega)
        rw [List.drop_zero] at this
        refine Ev.congr (fun k => rfl) ?_
        have e : (decide (vals.length = 0) && (decide (col.toList = ([] : List UInt8)) && (decide (exp.length = 0) && (decide (outs.length = 0) && (decide (wh.length = 0) && (decide (1 ≤ cols.length ∧ cols.length ≤ 20) && cols.all colOk)))))) = (cols.all colOk && (decide (1 ≤ cols.length) && (decide (cols.length ≤ 20) && (decide (vals.length = 0) && (decide (col.toList = ([] : List UInt8)) && (decide (exp.length = 0) && (decide (wh.length = 0) && decide (outs.length = 0)))))))) := by
          rw [dand]
          cases cols.all colOk <;> cases decide (vals.length = 0) <;> cases decide (col.toList = ([] : List UInt8)) <;> cases decide (exp.length = 0) <;> cases decide (outs.length = 0) <;> cases decide (wh.length = 0) <;> simp
        rw [e]
        exact this
      by_cases k2 : kind = 2
      · simp only [if_neg k1, if_pos k2]
        have := Gen.every (α := Val) (fun v => valOk v.f0 v.f1 v.f2) ((decide (1 ≤ vals.length) && (decide (vals.length ≤ 20) && (decide (cols.length = 0) && (decide (col.toList = ([] : List UInt8)) && (decide (exp.length = 0) && (decide (wh.length = 0) && decide (outs.length = 0))))))))
          (fun k i => impl_StmOK.l1 k (cols.length : Int) (vals.length : Int) col (exp.length : Int) (outs.length : Int) vals (vals.length : Int) i kind table cols vals col exp wh outs) (fun k v => some (valOk v.f0 v.f1 v.f2)) vals (fun k i h => by
            rw [impl_StmOK.l1, if_pos (by omega), if_pos (by omega), if_pos (by omega), rdVal vals i h, impl_val _ _ _ (h3s _ (List.getElem_mem h)), wsucc i (by omega)])
          (Ev.step (f := fun _ => some _) (fun k => by
            rw [impl_StmOK.l1, if_neg (by omega)]
            simp only [eq0, ge1, le20, len0', if_and]) (Ev.now _))
          (fun c _ => Ev.now _) vals.length 0 (by omega)
        rw [List.drop_zero] at this
        have e : (decide (cols.length = 0) && (decide (col.toList = ([] : List UInt8)) && (decide (exp.length = 0) && (decide (outs.length = 0) && (decide (wh.length = 0) && (decide (1 ≤ vals.length ∧ vals.length ≤ 20) && vals.all fun v => valOk v.f0 v.f1 v.f2)))))) = ((vals.all fun v => valOk v.f0 v.f1 v.f2) && (decide (1 ≤ vals.length) && (decide (vals.length ≤ 20) && (decide (cols.length = 0) && (decide (col.toList = ([] : List UInt8)) && (decide (exp.length = 0) && (decide (wh.length = 0) && decide (outs.length = 0)))))))) := by
          rw [dand]
          cases (vals.all fun v => valOk v.f0 v.f1 v.f2) <;> cases decide (cols.length = 0) <;> cases decide (col.toList = ([] : List UInt8)) <;> cases decide (exp.length = 0) <;> cases decide (outs.length = 0) <;> cases decide (wh.length = 0) <;> simp
        rw [e]
        exact this
      by_cases k3 : kind = 3
      · simp only [if_neg k1, if_neg k2, if_pos k3, impl_nm col hc, Option.bind_some]
        cases nameKw col with
        | false => simp only [if_neg ff, Bool.false_and, Bool.and_false]; exact Ev.now _
        | true =>
          simp only [if_true, Bool.true_and]
          refine (impl_exp exp h5s).bind ?_
          cases expOk exp with
          | false => simp only [if_neg ff, Bool.false_and, Bool.and_false]; exact Ev.now _
          | true =>
            simp only [if_true, Bool.true_and, eq0, len0', if_and]
            cases whOk wh with
            | false => simp only [decide_eq_false ff, Bool.false_and, Bool.and_false]; exact Ev.now _
            | true => simp only [decide_true, Bool.true_and, Bool.and_true]; exact Ev.now _
      by_cases k4 : kind = 4
      · simp only [if_neg k1, if_neg k2, if_neg k3, if_pos k4, eq0, len0', if_and]
        cases whOk wh with
        | false => simp only [decide_eq_false ff, Bool.false_and, Bool.and_false]; exact Ev.now _
        | true => simp only [decide_true, Bool.true_and, Bool.and_true]; exact Ev.now _
      by_cases k5 : kind = 5
      · simp only [if_neg k1, if_neg k2, if_neg k3, if_neg k4, if_pos k5]
        have := Gen.every (α := List Itm) expOk ((decide (1 ≤ outs.length) && (decide (outs.length ≤ 20) && (decide (whOk wh = true) && (decide (cols.length = 0) && (decide (vals.length = 0) && (decide (col.toList = ([] : List UInt8)) && decide (exp.length = 0))))))))
          (fun k i => impl_StmOK.l2 k (whOk wh) (cols.length : Int) (vals.length : Int) col (exp.length : Int) (outs.length : Int) outs (outs.length : Int) i) (fun k v => impl_expOK.f k v) outs (fun k i h => by
            rw [impl_StmOK.l2, if_pos (by omega), if_pos (by omega), if_pos (by omega), rdII outs i h, wsucc i (by omega)])
          (Ev.step (f := fun _ => some _) (fun k => by
            rw [impl_StmOK.l2, if_neg (by omega)]
            simp only [eq0, ge1, le20, len0', if_and]) (Ev.now _))
          (fun c hc => impl_exp c (h7s c hc)) outs.length 0 (by omega)
        rw [List.drop_zero] at this
        have e : (decide (cols.length = 0) && (decide (vals.length = 0) && (decide (col.toList = ([] : List UInt8)) && (decide (exp.length = 0) && (decide (1 ≤ outs.length ∧ outs.length ≤ 20) && (outs.all expOk && whOk wh)))))) = (outs.all expOk && (decide (1 ≤ outs.length) && (decide (outs.length ≤ 20) && (decide (whOk wh = true) && (decide (cols.length = 0) && (decide (vals.length = 0) && (decide (col.toList = ([] : List UInt8)) && decide (exp.length = 0)))))))) := by
          rw [dand]
          cases outs.all expOk <;> cases whOk wh <;> cases decide (cols.length = 0) <;> cases decide (vals.length = 0) <;> cases decide (col.toList = ([] : List UInt8)) <;> cases decide (exp.length = 0) <;> simp
        rw [e]
        exact this
      simp only [if_neg k1, if_neg k2, if_neg k3, if_neg k4, if_neg k5]
      exact Ev.now _
  unfold impl_StmOK.f
  by_cases e6 : wh.length = 0
  · have : whOk wh = true := by unfold whOk; rw [decide_eq_true e6, Bool.true_or]
    simp only [if_pos ((len0 wh).2 e6)]
    rw [this] at key
    exact key
  · have : whOk wh = expOk wh := by unfold whOk; rw [decide_eq_false e6, Bool.false_or]
    simp only [if_neg (fun h => e6 ((len0 wh).1 h))]
    rw [this] at key
    exact (impl_exp wh h6s).bind key
end
end Go.Proofs.YtmchcoafkaggkaaDoor.Pure
end
section
set_option linter.unusedVariables false
set_option linter.unusedSimpArgs false
namespace Go.Proofs.YtmchcoafkaggkaaDoor.Pure
open Go Go.RowKit Go.Proofs.YtmchcoafkaggkaaDoor Go.Proofs.YtmchcoafkaggkaaDoor.L Go.Proofs.YtmchcoafkaggkaaDoorW.PrintWords Go.Proofs.YtmchcoafkaggkaaDoorW.PrintMore Go.Proofs.YtmchcoafkaggkaaDoorW.PrintLast
theorem fnExactStmOK_pure : fnExactStmOK.Pure0 := by
  intro kind table cols vals col exp wh outs _ ht hcl hcg hvl hvg hcs hel heg hwl hwg hol hog holl
  have hM : maxLen = 9223372036854775807 := by unfold maxLen; rfl
  have hin : StmIn table cols vals col exp wh outs := by
    refine ⟨by omega, ⟨by omega, fun y hy => ?_⟩, ⟨by omega, fun y hy => ?_⟩, by omega, ⟨by omega, fun y hy => ?_⟩, ⟨by omega, fun y hy => ?_⟩, ⟨by omega, fun y hy => ⟨by have := holl y hy; omega, fun z hz => ?_⟩⟩⟩
    · have := hcg y hy; unfold fnExactStmOK.good118 at this; omega
    · have := hvg y hy; unfold fnExactStmOK.good120 at this; omega
    · have := heg y hy; unfold fnExactStmOK.good123 at this; omega
    · have := hwg y hy; unfold fnExactStmOK.good123 at this; omega
    · have := hog y hy z hz; unfold fnExactStmOK.good123 at this; omega
  have h : Ev (fun k => laws_FnExactStmOK.f k kind table cols vals col exp wh outs) true := by
    unfold laws_FnExactStmOK.f
    refine (szStm_ev kind table cols vals col exp wh outs 1048576 hin (by omega) (by omega)).bind ?_
    by_cases hc : (wtStm table cols vals col exp wh outs : Int) ≤ 1048576
    · simp only [if_pos hc, if_neg (show ¬ (1048576 - (wtStm table cols vals col exp wh outs : Int) < 0) by omega)]
      have hw : wtStm table cols vals col exp wh outs ≤ 1048576 := by omega
      have hto := toStm_ev kind table cols vals col exp wh outs hw
      obtain ⟨g1, ⟨g2, g2s⟩, ⟨g3, g3s⟩, g4, ⟨g5, g5s⟩, ⟨g6, g6s⟩, ⟨g7, g7s⟩⟩ := hin
      have hw2 := hw
      unfold wtStm wtL at hw2
      have c2 : (cols.map cvC).length ≤ 1048576 := by rw [List.length_map]; omega
      have c3 : (vals.map cvV).length ≤ 1048576 := by rw [List.length_map]; omega
      have c5 : (exp.map cvI).length ≤ 1048576 := by rw [List.length_map]; omega
      have c6 : (wh.map cvI).length ≤ 1048576 := by rw [List.length_map]; omega
      have c7 : (outs.map cvII).length ≤ 1048576 := by rw [List.length_map]; omega
      have c2s : ∀ y ∈ cols.map cvC, y.f0.size ≤ 9223372036854775807 := fun y hy => by
        obtain ⟨x, hx, rfl⟩ := List.mem_map.1 hy
        exact g2s x hx
      have c3s : ∀ y ∈ vals.map cvV, y.f2.size ≤ 9223372036854775807 := fun y hy => by
        obtain ⟨x, hx, rfl⟩ := List.mem_map.1 hy
        exact g3s x hx
      have c5s : ∀ y ∈ exp.map cvI, y.f2.size ≤ 9223372036854775807 := fun y hy => by
        obtain ⟨x, hx, rfl⟩ := List.mem_map.1 hy
        exact g5s x hx
      have c6s : ∀ y ∈ wh.map cvI, y.f2.size ≤ 9223372036854775807 := fun y hy => by
        obtain ⟨x, hx, rfl⟩ := List.mem_map.1 hy
        exact g6s x hx
      have c7l : ∀ y ∈ outs.map cvII, y.length ≤ 9223372036854775807 := fun y hy => by
        obtain ⟨x, hx, rfl⟩ := List.mem_map.1 hy
        have := (g7s x hx).1
        unfold cvII
        rw [List.length_map]; exact this
      have c7s : ∀ y ∈ outs.map cvII, ∀ z ∈ y, z.f2.size ≤ 9223372036854775807 := fun y hy z hz => by
        obtain ⟨x, hx, rfl⟩ := List.mem_map.1 hy
        obtain ⟨u, hu, rfl⟩ := List.mem_map.1 hz
        exact (g7s x hx).2 u hu
      refine hto.bind ?_
      refine (spec_stm table (cols.map cvC) (vals.map cvV) col (exp.map cvI) (wh.map cvI) (outs.map cvII) kind (by omega) (by omega) (by omega)).bind ?_
      refine hto.bind ?_
      refine (impl_stm table (cols.map cvC) (vals.map cvV) col (exp.map cvI) (wh.map cvI) (outs.map cvII) kind (by omega) (by omega) (by omega) c2s (by omega) c3s c5s c6s (by omega) c7s).bind ?_
      simp only [bne_self_eq_false, if_neg ff]
      refine hto.bind ?_
      refine (eqStm_ev kind table (cols.map cvC) (vals.map cvV) col (exp.map cvI) (wh.map cvI) (outs.map cvII) (by omega) (by omega) (by omega) (by omega) (by omega) c7l).bind ?_
      simp only [if_true]
      exact Ev.now _
    · simp only [if_neg hc, if_pos (show (-1 : Int) < 0 by decide)]
      exact Ev.now _
  exact h.rounds
end Go.Proofs.YtmchcoafkaggkaaDoor.Pure
namespace Go.Proofs.YtmchcoafkaggkaaDoor
theorem fnExactStmOK_holds : Rows.FnExactStmOKCardSaid := fnExactStmOK.card Pure.fnExactStmOK_pure
end Go.Proofs.YtmchcoafkaggkaaDoor
end
