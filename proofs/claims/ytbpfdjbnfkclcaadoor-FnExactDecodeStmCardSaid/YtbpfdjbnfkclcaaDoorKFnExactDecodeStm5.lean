/- The texts that the proof of the law FnExactDecodeStm rests on, part 5: printed functions with their contracts, words, plain laws; the last part ends in the statement itself. No condition but those that each theorem states. -/
import Derived.Test.YtbpfdjbnfkclcaaDoorKFnExactDecodeStm4
set_option linter.unusedVariables false
set_option linter.unusedSimpArgs false
section
namespace Go.Proofs.YtbpfdjbnfkclcaaDoor.L
open Go.RowKit Go.Proofs.YtbpfdjbnfkclcaaDoorW.PrintWords Go.Proofs.YtbpfdjbnfkclcaaDoorW.PrintLast Go.Proofs.YtbpfdjbnfkclcaaDoorW.PrintMore
attribute [local go_sem] max2_int min2_int max_two min_two max_three min_three max_four min_four
set_option linter.unusedVariables false
set_option linter.unusedSimpArgs false
def laws_eqItemSS.l0 : Nat → List (List (S57)) → List (List (S57)) → Int → Option (Bool)
  | 0, _, _, _ => none
  | k + 1, x0, x1, x5 => if x5 < (x0.length : Int) then (if 0 ≤ x5 then (if x5 < (x1.length : Int) then ((laws_eqItemS.f k (rd_L5 x0 x5) (rd_L5 x1 x5)).bind fun t493 => (if t493 = true then (laws_eqItemSS.l0 k x0 x1 (wrap64 (x5 + 1))) else (some false))) else (none)) else (none)) else (some true)
def laws_eqItemSS.f (k : Nat) (l0 : List (List (S57))) (l1 : List (List (S57))) : Option (Bool) := if (l0.length : Int) = (l1.length : Int) then (laws_eqItemSS.l0 k l0 l1 0) else (some false)
theorem laws_eqItemSS.mono_l : ∀ k, (∀ y0 y1 y2, LeO (laws_eqItemSS.l0 k y0 y1 y2) (laws_eqItemSS.l0 (k + 1) y0 y1 y2))
  | 0 => fun _ _ _ r h => by simp [laws_eqItemSS.l0] at h
  | k + 1 => by
    have ih0 := laws_eqItemSS.mono_l k
    · intro y0 y1 y2
      unfold laws_eqItemSS.l0
      repeat' first
        | (with_reducible first | exact ih0 .. | exact laws_eqItemS.mono .. | exact LeO.refl _ | exact LeO.none _ | refine LeO.ite ?_ ?_ | refine LeO.bind ?_ (fun _ => ?_))
        | exact ih0 .. | exact laws_eqItemS.mono .. | exact LeO.none _ | refine LeO.ite ?_ ?_ | refine LeO.bind ?_ (fun _ => ?_)
theorem laws_eqItemSS.mono : ∀ a0 a1 k, LeO (laws_eqItemSS.f k a0 a1) (laws_eqItemSS.f (k + 1) a0 a1) := by
  intro a0 a1 k
  have ih0 := laws_eqItemSS.mono_l k
  unfold laws_eqItemSS.f
  repeat' first
    | (with_reducible first | exact ih0 .. | exact laws_eqItemS.mono .. | exact LeO.refl _ | exact LeO.none _ | refine LeO.ite ?_ ?_ | refine LeO.bind ?_ (fun _ => ?_))
    | exact ih0 .. | exact laws_eqItemS.mono .. | exact LeO.none _ | refine LeO.ite ?_ ?_ | refine LeO.bind ?_ (fun _ => ?_)
def laws_eqItemSS.T6 : Bool × List (List Nat × List Nat) := (true, [([], []), ([], []), ([0, 1], [0, 1]), ([2], [2]), ([], []), ([], []), ([4, 5], [4, 5]), ([6], [6]), ([3, 7], [3, 7]), ([8], [8])])
def laws_eqItemSS.B6 : List Nat := [0, 0, 3, 7, 0, 0, 48, 112, 255, 511]
theorem laws_eqItemSS.tab6 : rtab .any (opsOf Tryd.f20 6) = laws_eqItemSS.T6 := by kernel_rfl
theorem laws_eqItemSS.bits6 : waitsOk laws_eqItemSS.T6.2 laws_eqItemSS.B6 = true := by kernel_rfl
set_option maxHeartbeats 8000000 in
set_option maxRecDepth 100000 in
theorem laws_eqItemSS.calls (k : Nat) (A0 : Option Addr) (c0 : Nat) (l0 : List (List (S57))) (A1 : Option Addr) (c1 : Nat) (l1 : List (List (S57))) (r : Bool) (w : World) (hr0 : Kd.C (Kd.slice 57 k57) w A0 l0.length l0) (hc0 : l0.length ≤ c0) (hr1 : Kd.C (Kd.slice 57 k57) w A1 l1.length l1) (hc1 : l1.length ≤ c1) (h : laws_eqItemSS.f k l0 l1 = some r) :
    Calls Tryd.prog 20 #[.slice A0 l0.length c0, .slice A1 l1.length c1] w fun e w' => e = .returned (.bool r) ∧ Below w.heap.size w w' := by
  have HR0 := qK hr0; have HC0 := qK hc0; clear hr0 hc0; have HR1 := qK hr1; have HC1 := qK hc1; clear hr1 hc1; have HB := qK (Below.refl w.heap.size w); have H : (if (l0.length : Int) = (l1.length : Int) then (laws_eqItemSS.l0 k l0 l1 0) else (some false)) = some r := h; clear h; by_cases c3 : (l0.length : Int) = (l1.length : Int)
  · rw [if_pos c3] at H; obtain ⟨c3b0, c3b1⟩ := qe c3; (have c3b2 : (l0.length == l1.length) = true := by first | simpa using c3 | (simp at c3 ⊢; omega)); clear c3; have H' := qK H; clear H; go_enter Tryd.func20, Tryd.ntmps20; go_wp2; go_loopg [5] k (fun kq v5 w' => ∃ (x5_1 : Int), v5 = .int .i64 x5_1 ∧ Aside0 (laws_eqItemSS.l0 kq l0 l1 x5_1 = some r) ∧ Aside0 (kq ≤ k) ∧ Aside0 (Below w.heap.size w w'))
    case atStart => exact ⟨(0), qS, H', ⟨Nat.le_refl _⟩, ⟨qB⟩⟩
    case round =>
      clear H'; (try clear c1); (try clear c3); (try clear c3b0); (try clear c3b1); (try clear c3b2); obtain ⟨x5_1, rfl, HA, HK1, HB⟩ := hrel
      cases gk with
      | zero => exact absurd HA.out (by simp [laws_eqItemSS.l0])
      | succ k1 =>
        have H := HA.out; clear HA; simp only [laws_eqItemSS.l0] at H; by_cases c4 : x5_1 < (l0.length : Int)
        · rw [if_pos c4] at H; have c4b0 := decide_eq_true c4; clear c4; by_cases c5 : 0 ≤ x5_1
          · rw [if_pos c5] at H; have c5b0 := decide_eq_true c5; clear c5; by_cases c6 : x5_1 < (l1.length : Int)
            · rw [if_pos c6] at H; have c6b0 := decide_eq_true c6; clear c6; obtain ⟨t493, A7, H⟩ := qbi H; by_cases c8 : t493 = true
              · subst c8; rw [if_pos rfl] at H; have H' := qK H; clear H; (try go_wp2); replace HB := qK (bd1 HB.out); have p491 : 0 ≤ (x5_1 : Int) := of_decide_eq_true qa; have q491 : x5_1 < (l0.length : Int) := of_decide_eq_true qa; obtain ⟨ad491, A491_0, c491_0, e491, hx491_0, hl491_0, hi491_0⟩ := at_L5 HR0.out x5_1 p491 q491; have hw491_0 := hx491_0; cases e491; replace hx491_0 := qcl HB hx491_0; have HR491_0 := qK hi491_0; have HC491_0 := qK hl491_0; clear hi491_0 hl491_0; replace p491 := eq_true p491; replace q491 := eq_true q491; have p492 : 0 ≤ (x5_1 : Int) := of_decide_eq_true qa; have q492 : x5_1 < (l1.length : Int) := of_decide_eq_true qa; obtain ⟨ad492, A492_0, c492_0, e492, hx492_0, hl492_0, hi492_0⟩ := at_L5 HR1.out x5_1 p492 q492; have hw492_0 := hx492_0; cases e492; replace hx492_0 := qcl HB hx492_0; have HR492_0 := qK hi492_0; have HC492_0 := qK hl492_0; clear hi492_0 hl492_0; replace p492 := eq_true p492; replace q492 := eq_true q492; refine qs 10 (fun w' => w'.cell? (ad491.add (x5_1).toNat) = some (.slice A491_0 (rd_L5 l0 x5_1).length c491_0) ∧ w'.cell? (ad492.add (x5_1).toNat) = some (.slice A492_0 (rd_L5 l1 x5_1).length c492_0)) (ds := []) ⟨((HB.out.cell (World.block_lt_of_cell? w _ hw491_0)).trans hw491_0), ((HB.out.cell (World.block_lt_of_cell? w _ hw492_0)).trans hw492_0)⟩ (fun hHeld => ?_); refine with_tabW laws_eqItemSS.tab6 laws_eqItemSS.bits6 (fun HT_ HW_ => ?_); generalize wr.drew = w9 at HB HR491_0 HR492_0 hx491_0 hx492_0 hHeld ⊢; refine qp 0 17 ?_; refine qp 1 18 ?_; refine qp 2 19 ?_; refine qp 4 21 ?_; refine qp 5 22 ?_; refine qp 6 23 ?_; refine qt 3 20 ?_; refine qt 7 24 ?_; refine qo 8 25 (fun K hK => ?_); refine gG Tryd.func19 #[.slice A491_0 (rd_L5 l0 x5_1).length c491_0, .slice A492_0 (rd_L5 l1 x5_1).length c492_0] ?_; (with_reducible refine (laws_eqItemS.calls k1 _ _ (rd_L5 l0 x5_1) _ _ (rd_L5 l1 x5_1) true _ ?side1 ?side2 ?side3 ?side4 A7.out).mono ?_); (case side1 => exact qC HR491_0); (case side2 => exact HC491_0.out); (case side3 => exact qC HR492_0); (case side4 => exact HC492_0.out); rintro e w10 ⟨rfl, hb⟩; refine ⟨_, rfl, ?_⟩; replace HB := qHB HB hb; (try clear hb); refine hK.out _ _ ⟨((HB.out.cell (World.block_lt_of_cell? w _ hw491_0)).trans hw491_0), ((HB.out.cell (World.block_lt_of_cell? w _ hw492_0)).trans hw492_0)⟩ (fun hHeld => ?_); clear hK K; refine norm_ (a' := ?_) ?_ ?_; rotate_left
                · show Act.put _ (some 25) _ = _; simp only [Act.put, List.setIfInBounds_toArray, List.set_cons_zero, List.set_cons_succ, i64_w, i32_w]; rfl
                refine qp 9 26 ?_; refine done_ (done_of HT_.out (by kernel_rfl)) ?_; (try go_wp2); go_roundg k1
                case measure => have := HK1.out; omega
                case rel => exact ⟨(wrap64 (x5_1 + 1)), qS, H', ⟨by have := HK1.out; omega⟩, ⟨qB⟩⟩
              · replace c8 := Bool.eq_false_iff.mpr c8; subst c8; rw [if_neg qff] at H; obtain rfl := qsi H; (try go_wp2); replace HB := qK (bd1 HB.out); have p491 : 0 ≤ (x5_1 : Int) := of_decide_eq_true qa; have q491 : x5_1 < (l0.length : Int) := of_decide_eq_true qa; obtain ⟨ad491, A491_0, c491_0, e491, hx491_0, hl491_0, hi491_0⟩ := at_L5 HR0.out x5_1 p491 q491; have hw491_0 := hx491_0; cases e491; replace hx491_0 := qcl HB hx491_0; have HR491_0 := qK hi491_0; have HC491_0 := qK hl491_0; clear hi491_0 hl491_0; replace p491 := eq_true p491; replace q491 := eq_true q491; have p492 : 0 ≤ (x5_1 : Int) := of_decide_eq_true qa; have q492 : x5_1 < (l1.length : Int) := of_decide_eq_true qa; obtain ⟨ad492, A492_0, c492_0, e492, hx492_0, hl492_0, hi492_0⟩ := at_L5 HR1.out x5_1 p492 q492; have hw492_0 := hx492_0; cases e492; replace hx492_0 := qcl HB hx492_0; have HR492_0 := qK hi492_0; have HC492_0 := qK hl492_0; clear hi492_0 hl492_0; replace p492 := eq_true p492; replace q492 := eq_true q492; refine qs 10 (fun w' => w'.cell? (ad491.add (x5_1).toNat) = some (.slice A491_0 (rd_L5 l0 x5_1).length c491_0) ∧ w'.cell? (ad492.add (x5_1).toNat) = some (.slice A492_0 (rd_L5 l1 x5_1).length c492_0)) (ds := []) ⟨((HB.out.cell (World.block_lt_of_cell? w _ hw491_0)).trans hw491_0), ((HB.out.cell (World.block_lt_of_cell? w _ hw492_0)).trans hw492_0)⟩ (fun hHeld => ?_); refine with_tabW laws_eqItemSS.tab6 laws_eqItemSS.bits6 (fun HT_ HW_ => ?_); generalize wr.drew = w11 at HB HR491_0 HR492_0 hx491_0 hx492_0 hHeld ⊢; refine qp 0 17 ?_; refine qp 1 18 ?_; refine qp 2 19 ?_; refine qp 4 21 ?_; refine qp 5 22 ?_; refine qp 6 23 ?_; refine qt 3 20 ?_; refine qt 7 24 ?_; refine qo 8 25 (fun K hK => ?_); refine gG Tryd.func19 #[.slice A491_0 (rd_L5 l0 x5_1).length c491_0, .slice A492_0 (rd_L5 l1 x5_1).length c492_0] ?_; (with_reducible refine (laws_eqItemS.calls k1 _ _ (rd_L5 l0 x5_1) _ _ (rd_L5 l1 x5_1) false _ ?side1 ?side2 ?side3 ?side4 A7.out).mono ?_); (case side1 => exact qC HR491_0); (case side2 => exact HC491_0.out); (case side3 => exact qC HR492_0); (case side4 => exact HC492_0.out); rintro e w12 ⟨rfl, hb⟩; refine ⟨_, rfl, ?_⟩; replace HB := qHB HB hb; (try clear hb); refine hK.out _ _ ⟨((HB.out.cell (World.block_lt_of_cell? w _ hw491_0)).trans hw491_0), ((HB.out.cell (World.block_lt_of_cell? w _ hw492_0)).trans hw492_0)⟩ (fun hHeld => ?_); clear hK K; refine norm_ (a' := ?_) ?_ ?_; rotate_left
                · show Act.put _ (some 25) _ = _; simp only [Act.put, List.setIfInBounds_toArray, List.set_cons_zero, List.set_cons_succ, i64_w, i32_w]; rfl
                refine qp 9 26 ?_; refine done_ (done_of HT_.out (by kernel_rfl)) ?_; (try go_wp2); go_ret; exact ⟨qR, qB⟩
            · rw [if_neg c6] at H; exact absurd H (by simp)
          · rw [if_neg c5] at H; exact absurd H (by simp)
        · rw [if_neg c4] at H; have c4b0 := decide_eq_false c4; clear c4; obtain rfl := qsi H; go_wp2; go_ret; exact ⟨qR, qB⟩
  · rw [if_neg c3] at H; obtain ⟨c3b0, c3b1⟩ := qn c3; (have c3b2 : (l0.length == l1.length) = false := by first | simpa using c3 | (simp at c3 ⊢; omega)); obtain rfl := qsi H; go_enter Tryd.func20, Tryd.ntmps20; go_wp2; go_ret; exact ⟨qR, qB⟩
def laws_eqStm.f (k : Nat) (a0_0 : Int) (a0_1 : ByteArray) (l0_2 : List (S39)) (l0_3 : List (S41)) (a0_4 : ByteArray) (l0_5 : List (S57)) (l0_6 : List (S57)) (l0_7 : List (List (S57))) (a1_0 : Int) (a1_1 : ByteArray) (l1_2 : List (S39)) (l1_3 : List (S41)) (a1_4 : ByteArray) (l1_5 : List (S57)) (l1_6 : List (S57)) (l1_7 : List (List (S57))) : Option (Bool) := if a0_0 = a1_0 then (if a0_1.toList = a1_1.toList then ((laws_eqColumnS.f k l0_2 l1_2).bind fun t496 => (if t496 = true then ((laws_eqValueS.f k l0_3 l1_3).bind fun t497 => (if t497 = true then (if a0_4.toList = a1_4.toList then ((laws_eqItemS.f k l0_5 l1_5).bind fun t498 => (if t498 = true then ((laws_eqItemS.f k l0_6 l1_6).bind fun t499 => (if t499 = true then ((laws_eqItemSS.f k l0_7 l1_7).bind fun t500 => (if t500 = true then (some true) else (some false))) else (some false))) else (some false))) else (some false)) else (some false))) else (some false))) else (some false)) else (some false)
theorem laws_eqStm.mono : ∀ a0 a1 a2 a3 a4 a5 a6 a7 a8 a9 a10 a11 a12 a13 a14 a15 k, LeO (laws_eqStm.f k a0 a1 a2 a3 a4 a5 a6 a7 a8 a9 a10 a11 a12 a13 a14 a15) (laws_eqStm.f (k + 1) a0 a1 a2 a3 a4 a5 a6 a7 a8 a9 a10 a11 a12 a13 a14 a15) := by
  intro a0 a1 a2 a3 a4 a5 a6 a7 a8 a9 a10 a11 a12 a13 a14 a15 k
  unfold laws_eqStm.f
  repeat' first
    | (with_reducible first | exact laws_eqColumnS.mono .. | exact laws_eqItemS.mono .. | exact laws_eqItemSS.mono .. | exact laws_eqValueS.mono .. | exact LeO.refl _ | exact LeO.none _ | refine LeO.ite ?_ ?_ | refine LeO.bind ?_ (fun _ => ?_))
    | exact laws_eqColumnS.mono .. | exact laws_eqItemS.mono .. | exact laws_eqItemSS.mono .. | exact laws_eqValueS.mono .. | exact LeO.none _ | refine LeO.ite ?_ ?_ | refine LeO.bind ?_ (fun _ => ?_)
set_option maxHeartbeats 8000000 in
set_option maxRecDepth 100000 in
theorem laws_eqStm.calls (k : Nat) (a0_0 : Int) (a0_1 : ByteArray) (A0_2 : Option Addr) (c0_2 : Nat) (l0_2 : List (S39)) (A0_3 : Option Addr) (c0_3 : Nat) (l0_3 : List (S41)) (a0_4 : ByteArray) (A0_5 : Option Addr) (c0_5 : Nat) (l0_5 : List (S57)) (A0_6 : Option Addr) (c0_6 : Nat) (l0_6 : List (S57)) (A0_7 : Option Addr) (c0_7 : Nat) (l0_7 : List (List (S57))) (a1_0 : Int) (a1_1 : ByteArray) (A1_2 : Option Addr) (c1_2 : Nat) (l1_2 : List (S39)) (A1_3 : Option Addr) (c1_3 : Nat) (l1_3 : List (S41)) (a1_4 : ByteArray) (A1_5 : Option Addr) (c1_5 : Nat) (l1_5 : List (S57)) (A1_6 : Option Addr) (c1_6 : Nat) (l1_6 : List (S57)) (A1_7 : Option Addr) (c1_7 : Nat) (l1_7 : List (List (S57))) (r : Bool) (w : World) (hr0_2 : Kd.C k39 w A0_2 l0_2.length l0_2) (hc0_2 : l0_2.length ≤ c0_2) (hr0_3 : Kd.C k41 w A0_3 l0_3.length l0_3) (hc0_3 : l0_3.length ≤ c0_3) (hr0_5 : Kd.C k57 w A0_5 l0_5.length l0_5) (hc0_5 : l0_5.length ≤ c0_5) (hr0_6 : Kd.C k57 w A0_6 l0_6.length l0_6) (hc0_6 : l0_6.length ≤ c0_6) (hr0_7 : Kd.C (Kd.slice 57 k57) w A0_7 l0_7.length l0_7) (hc0_7 : l0_7.length ≤ c0_7) (hr1_2 : Kd.C k39 w A1_2 l1_2.length l1_2) (hc1_2 : l1_2.length ≤ c1_2) (hr1_3 : Kd.C k41 w A1_3 l1_3.length l1_3) (hc1_3 : l1_3.length ≤ c1_3) (hr1_5 : Kd.C k57 w A1_5 l1_5.length l1_5) (hc1_5 : l1_5.length ≤ c1_5) (hr1_6 : Kd.C k57 w A1_6 l1_6.length l1_6) (hc1_6 : l1_6.length ≤ c1_6) (hr1_7 : Kd.C (Kd.slice 57 k57) w A1_7 l1_7.length l1_7) (hc1_7 : l1_7.length ≤ c1_7) (h : laws_eqStm.f k a0_0 a0_1 l0_2 l0_3 a0_4 l0_5 l0_6 l0_7 a1_0 a1_1 l1_2 l1_3 a1_4 l1_5 l1_6 l1_7 = some r) :
    Calls Tryd.prog 6 #[.agg #[.int .i64 a0_0, .string a0_1, .slice A0_2 l0_2.length c0_2, .slice A0_3 l0_3.length c0_3, .string a0_4, .slice A0_5 l0_5.length c0_5, .slice A0_6 l0_6.length c0_6, .slice A0_7 l0_7.length c0_7], .agg #[.int .i64 a1_0, .string a1_1, .slice A1_2 l1_2.length c1_2, .slice A1_3 l1_3.length c1_3, .string a1_4, .slice A1_5 l1_5.length c1_5, .slice A1_6 l1_6.length c1_6, .slice A1_7 l1_7.length c1_7]] w fun e w' => e = .returned (.bool r) ∧ Below w.heap.size w w' := by
  have hu27 := Tryd.underlying27; have HR0_2 := qK hr0_2; have HC0_2 := qK hc0_2; clear hr0_2 hc0_2; have HR0_3 := qK hr0_3; have HC0_3 := qK hc0_3; clear hr0_3 hc0_3; have HR0_5 := qK hr0_5; have HC0_5 := qK hc0_5; clear hr0_5 hc0_5; have HR0_6 := qK hr0_6; have HC0_6 := qK hc0_6; clear hr0_6 hc0_6; have HR0_7 := qK hr0_7; have HC0_7 := qK hc0_7; clear hr0_7 hc0_7; have HR1_2 := qK hr1_2; have HC1_2 := qK hc1_2; clear hr1_2 hc1_2; have HR1_3 := qK hr1_3; have HC1_3 := qK hc1_3; clear hr1_3 hc1_3; have HR1_5 := qK hr1_5; have HC1_5 := qK hc1_5; clear hr1_5 hc1_5; have HR1_6 := qK hr1_6; have HC1_6 := qK hc1_6; clear hr1_6 hc1_6; have HR1_7 := qK hr1_7; have HC1_7 := qK hc1_7; clear hr1_7 hc1_7; have HB := qK (Below.refl w.heap.size w); have H : (if a0_0 = a1_0 then (if a0_1.toList = a1_1.toList then ((laws_eqColumnS.f k l0_2 l1_2).bind fun t496 => (if t496 = true then ((laws_eqValueS.f k l0_3 l1_3).bind fun t497 => (if t497 = true then (if a0_4.toList = a1_4.toList then ((laws_eqItemS.f k l0_5 l1_5).bind fun t498 => (if t498 = true then ((laws_eqItemS.f k l0_6 l1_6).bind fun t499 => (if t499 = true then ((laws_eqItemSS.f k l0_7 l1_7).bind fun t500 => (if t500 = true then (some true) else (some false))) else (some false))) else (some false))) else (some false)) else (some false))) else (some false))) else (some false)) else (some false)) = some r := h; clear h; by_cases c3 : a0_0 = a1_0
  · rw [if_pos c3] at H; obtain ⟨c3b0, c3b1⟩ := qe c3; clear c3; by_cases c4 : a0_1.toList = a1_1.toList
    · rw [if_pos c4] at H; obtain ⟨c4b0, c4b1⟩ := qe c4; clear c4; obtain ⟨t496, A5, H⟩ := qbi H; by_cases c6 : t496 = true
      · subst c6; rw [if_pos rfl] at H; obtain ⟨t497, A7, H⟩ := qbi H; by_cases c8 : t497 = true
        · subst c8; rw [if_pos rfl] at H; by_cases c9 : a0_4.toList = a1_4.toList
          · rw [if_pos c9] at H; obtain ⟨c9b0, c9b1⟩ := qe c9; clear c9; obtain ⟨t498, A10, H⟩ := qbi H; by_cases c11 : t498 = true
            · subst c11; rw [if_pos rfl] at H; obtain ⟨t499, A12, H⟩ := qbi H; by_cases c13 : t499 = true
              · subst c13; rw [if_pos rfl] at H; obtain ⟨t500, A14, H⟩ := qbi H; by_cases c15 : t500 = true
                · subst c15; rw [if_pos rfl] at H; obtain rfl := qsi H; go_enter Tryd.func6, Tryd.ntmps6; go_wp2_with (first | ((with_reducible refine gds (N := 2) rfl ?_); refine qbx 2 #[.int .i64 a0_0, .string a0_1, .slice A0_2 l0_2.length c0_2, .slice A0_3 l0_3.length c0_3, .string a0_4, .slice A0_5 l0_5.length c0_5, .slice A0_6 l0_6.length c0_6, .slice A0_7 l0_7.length c0_7] 27 ?_; intro gb494 hg w16 hbox hb; have BK494 := qK (hbox); have GW494 := qK ((qW : w.heap.size ≤ gb494)); have GE494 := GW494; replace HB := qHB HB hb; clear hb hbox hg) | ((with_reducible refine gds (N := 3) rfl ?_); refine qbx 3 #[.int .i64 a1_0, .string a1_1, .slice A1_2 l1_2.length c1_2, .slice A1_3 l1_3.length c1_3, .string a1_4, .slice A1_5 l1_5.length c1_5, .slice A1_6 l1_6.length c1_6, .slice A1_7 l1_7.length c1_7] 27 ?_; intro gb495 hg w17 hbox hb; have BK495 := qK (hbox); have GW495 := qK ((qW : w.heap.size ≤ gb495)); have GE495 := GW495; replace HB := qHB HB hb; have NB494_495 := qK (qlt BK494 hg); have NB495_494 := qK (qgt BK494 hg); replace BK494 := qbb BK494 hb; clear hb hbox hg; have hnb18 := NB494_495.out; have hnc18 := NB495_494.out; have hz19 := qz8 BK494.out; have hz20 := qz8 BK495.out) | ((with_reducible refine gcl (f := 17) rfl ?_); refine gL 19 Tryd.func17 #[.slice A0_2 l0_2.length c0_2, .slice A1_2 l1_2.length c1_2] ?_; (with_reducible refine (laws_eqColumnS.calls k _ _ l0_2 _ _ l1_2 true _ ?_ ?_ ?_ ?_ A5.out).mono ?_); exact qC HR0_2; exact HC0_2.out; exact qC HR1_2; exact HC1_2.out; rintro e w21 ⟨rfl, hb⟩; refine ⟨_, rfl, ?_⟩; replace BK494 := qbb BK494 hb; replace BK495 := qbb BK495 hb; replace HB := qHB HB hb; (try clear hb); have hz22 := qz8 BK494.out; have hz23 := qz8 BK495.out) | ((with_reducible refine gcl (f := 18) rfl ?_); refine gL 25 Tryd.func18 #[.slice A0_3 l0_3.length c0_3, .slice A1_3 l1_3.length c1_3] ?_; (with_reducible refine (laws_eqValueS.calls k _ _ l0_3 _ _ l1_3 true _ ?_ ?_ ?_ ?_ A7.out).mono ?_); exact qC HR0_3; exact HC0_3.out; exact qC HR1_3; exact HC1_3.out; rintro e w24 ⟨rfl, hb⟩; refine ⟨_, rfl, ?_⟩; replace BK494 := qbb BK494 hb; replace BK495 := qbb BK495 hb; replace HB := qHB HB hb; (try clear hb); have hz25 := qz8 BK494.out; have hz26 := qz8 BK495.out) | ((with_reducible refine gcl (f := 19) rfl ?_); refine gL 36 Tryd.func19 #[.slice A0_5 l0_5.length c0_5, .slice A1_5 l1_5.length c1_5] ?_; (with_reducible refine (laws_eqItemS.calls k _ _ l0_5 _ _ l1_5 true _ ?_ ?_ ?_ ?_ A10.out).mono ?_); exact qC HR0_5; exact HC0_5.out; exact qC HR1_5; exact HC1_5.out; rintro e w27 ⟨rfl, hb⟩; refine ⟨_, rfl, ?_⟩; replace BK494 := qbb BK494 hb; replace BK495 := qbb BK495 hb; replace HB := qHB HB hb; (try clear hb); have hz28 := qz8 BK494.out; have hz29 := qz8 BK495.out) | ((with_reducible refine gcl (f := 19) rfl ?_); refine gL 42 Tryd.func19 #[.slice A0_6 l0_6.length c0_6, .slice A1_6 l1_6.length c1_6] ?_; (with_reducible refine (laws_eqItemS.calls k _ _ l0_6 _ _ l1_6 true _ ?_ ?_ ?_ ?_ A12.out).mono ?_); exact qC HR0_6; exact HC0_6.out; exact qC HR1_6; exact HC1_6.out; rintro e w30 ⟨rfl, hb⟩; refine ⟨_, rfl, ?_⟩; replace BK494 := qbb BK494 hb; replace BK495 := qbb BK495 hb; replace HB := qHB HB hb; (try clear hb); have hz31 := qz8 BK494.out; have hz32 := qz8 BK495.out) | ((with_reducible refine gcl (f := 20) rfl ?_); refine gL 48 Tryd.func20 #[.slice A0_7 l0_7.length c0_7, .slice A1_7 l1_7.length c1_7] ?_; (with_reducible refine (laws_eqItemSS.calls k _ _ l0_7 _ _ l1_7 true _ ?_ ?_ ?_ ?_ A14.out).mono ?_); exact qC HR0_7; exact HC0_7.out; exact qC HR1_7; exact HC1_7.out; rintro e w33 ⟨rfl, hb⟩; refine ⟨_, rfl, ?_⟩; replace BK494 := qbb BK494 hb; replace BK495 := qbb BK495 hb; replace HB := qHB HB hb; (try clear hb))); go_ret; exact ⟨qR, qB⟩
                · replace c15 := Bool.eq_false_iff.mpr c15; subst c15; rw [if_neg qff] at H; obtain rfl := qsi H; go_enter Tryd.func6, Tryd.ntmps6; go_wp2_with (first | ((with_reducible refine gds (N := 2) rfl ?_); refine qbx 2 #[.int .i64 a0_0, .string a0_1, .slice A0_2 l0_2.length c0_2, .slice A0_3 l0_3.length c0_3, .string a0_4, .slice A0_5 l0_5.length c0_5, .slice A0_6 l0_6.length c0_6, .slice A0_7 l0_7.length c0_7] 27 ?_; intro gb494 hg w34 hbox hb; have BK494 := qK (hbox); have GW494 := qK ((qW : w.heap.size ≤ gb494)); have GE494 := GW494; replace HB := qHB HB hb; clear hb hbox hg) | ((with_reducible refine gds (N := 3) rfl ?_); refine qbx 3 #[.int .i64 a1_0, .string a1_1, .slice A1_2 l1_2.length c1_2, .slice A1_3 l1_3.length c1_3, .string a1_4, .slice A1_5 l1_5.length c1_5, .slice A1_6 l1_6.length c1_6, .slice A1_7 l1_7.length c1_7] 27 ?_; intro gb495 hg w35 hbox hb; have BK495 := qK (hbox); have GW495 := qK ((qW : w.heap.size ≤ gb495)); have GE495 := GW495; replace HB := qHB HB hb; have NB494_495 := qK (qlt BK494 hg); have NB495_494 := qK (qgt BK494 hg); replace BK494 := qbb BK494 hb; clear hb hbox hg; have hnb36 := NB494_495.out; have hnc36 := NB495_494.out; have hz37 := qz8 BK494.out; have hz38 := qz8 BK495.out) | ((with_reducible refine gcl (f := 17) rfl ?_); refine gL 19 Tryd.func17 #[.slice A0_2 l0_2.length c0_2, .slice A1_2 l1_2.length c1_2] ?_; (with_reducible refine (laws_eqColumnS.calls k _ _ l0_2 _ _ l1_2 true _ ?_ ?_ ?_ ?_ A5.out).mono ?_); exact qC HR0_2; exact HC0_2.out; exact qC HR1_2; exact HC1_2.out; rintro e w39 ⟨rfl, hb⟩; refine ⟨_, rfl, ?_⟩; replace BK494 := qbb BK494 hb; replace BK495 := qbb BK495 hb; replace HB := qHB HB hb; (try clear hb); have hz40 := qz8 BK494.out; have hz41 := qz8 BK495.out) | ((with_reducible refine gcl (f := 18) rfl ?_); refine gL 25 Tryd.func18 #[.slice A0_3 l0_3.length c0_3, .slice A1_3 l1_3.length c1_3] ?_; (with_reducible refine (laws_eqValueS.calls k _ _ l0_3 _ _ l1_3 true _ ?_ ?_ ?_ ?_ A7.out).mono ?_); exact qC HR0_3; exact HC0_3.out; exact qC HR1_3; exact HC1_3.out; rintro e w42 ⟨rfl, hb⟩; refine ⟨_, rfl, ?_⟩; replace BK494 := qbb BK494 hb; replace BK495 := qbb BK495 hb; replace HB := qHB HB hb; (try clear hb); have hz43 := qz8 BK494.out; have hz44 := qz8 BK495.out) | ((with_reducible refine gcl (f := 19) rfl ?_); refine gL 36 Tryd.func19 #[.slice A0_5 l0_5.length c0_5, .slice A1_5 l1_5.length c1_5] ?_; (with_reducible refine (laws_eqItemS.calls k _ _ l0_5 _ _ l1_5 true _ ?_ ?_ ?_ ?_ A10.out).mono ?_); exact qC HR0_5; exact HC0_5.out; exact qC HR1_5; exact HC1_5.out; rintro e w45 ⟨rfl, hb⟩; refine ⟨_, rfl, ?_⟩; replace BK494 := qbb BK494 hb; replace BK495 := qbb BK495 hb; replace HB := qHB HB hb; (try clear hb); have hz46 := qz8 BK494.out; have hz47 := qz8 BK495.out) | ((with_reducible refine gcl (f := 19) rfl ?_); refine gL 42 Tryd.func19 #[.slice A0_6 l0_6.length c0_6, .slice A1_6 l1_6.length c1_6] ?_; (with_reducible refine (laws_eqItemS.calls k _ _ l0_6 _ _ l1_6 true _ ?_ ?_ ?_ ?_ A12.out).mono ?_); exact qC HR0_6; exact HC0_6.out; exact qC HR1_6; exact HC1_6.out; rintro e w48 ⟨rfl, hb⟩; refine ⟨_, rfl, ?_⟩; replace BK494 := qbb BK494 hb; replace BK495 := qbb BK495 hb; replace HB := qHB HB hb; (try clear hb); have hz49 := qz8 BK494.out; have hz50 := qz8 BK495.out) | ((with_reducible refine gcl (f := 20) rfl ?_); refine gL 48 Tryd.func20 #[.slice A0_7 l0_7.length c0_7, .slice A1_7 l1_7.length c1_7] ?_; (with_reducible refine (laws_eqItemSS.calls k _ _ l0_7 _ _ l1_7 false _ ?_ ?_ ?_ ?_ A14.out).mono ?_); exact qC HR0_7; exact HC0_7.out; exact qC HR1_7; exact HC1_7.out; rintro e w51 ⟨rfl, hb⟩; refine ⟨_, rfl, ?_⟩; replace BK494 := qbb BK494 hb; replace BK495 := qbb BK495 hb; replace HB := qHB HB hb; (try clear hb))); go_ret; exact ⟨qR, qB⟩
              · replace c13 := Bool.eq_false_iff.mpr c13; subst c13; rw [if_neg qff] at H; obtain rfl := qsi H; go_enter Tryd.func6, Tryd.ntmps6; go_wp2_with (first | ((with_reducible refine gds (N := 2) rfl ?_); refine qbx 2 #[.int .i64 a0_0, .string a0_1, .slice A0_2 l0_2.length c0_2, .slice A0_3 l0_3.length c0_3, .string a0_4, .slice A0_5 l0_5.length c0_5, .slice A0_6 l0_6.length c0_6, .slice A0_7 l0_7.length c0_7] 27 ?_; intro gb494 hg w52 hbox hb; have BK494 := qK (hbox); have GW494 := qK ((qW : w.heap.size ≤ gb494)); have GE494 := GW494; replace HB := qHB HB hb; clear hb hbox hg) | ((with_reducible refine gds (N := 3) rfl ?_); refine qbx 3 #[.int .i64 a1_0, .string a1_1, .slice A1_2 l1_2.length c1_2, .slice A1_3 l1_3.length c1_3, .string a1_4, .slice A1_5 l1_5.length c1_5, .slice A1_6 l1_6.length c1_6, .slice A1_7 l1_7.length c1_7] 27 ?_; intro gb495 hg w53 hbox hb; have BK495 := qK (hbox); have GW495 := qK ((qW : w.heap.size ≤ gb495)); have GE495 := GW495; replace HB := qHB HB hb; have NB494_495 := qK (qlt BK494 hg); have NB495_494 := qK (qgt BK494 hg); replace BK494 := qbb BK494 hb; clear hb hbox hg; have hnb54 := NB494_495.out; have hnc54 := NB495_494.out; have hz55 := qz8 BK494.out; have hz56 := qz8 BK495.out) | ((with_reducible refine gcl (f := 17) rfl ?_); refine gL 19 Tryd.func17 #[.slice A0_2 l0_2.length c0_2, .slice A1_2 l1_2.length c1_2] ?_; (with_reducible refine (laws_eqColumnS.calls k _ _ l0_2 _ _ l1_2 true _ ?_ ?_ ?_ ?_ A5.out).mono ?_); exact qC HR0_2; exact HC0_2.out; exact qC HR1_2; exact HC1_2.out; rintro e w57 ⟨rfl, hb⟩; refine ⟨_, rfl, ?_⟩; replace BK494 := qbb BK494 hb; replace BK495 := qbb BK495 hb; replace HB := qHB HB hb; (try clear hb); have hz58 := qz8 BK494.out; have hz59 := qz8 BK495.out) | ((with_reducible refine gcl (f := 18) rfl ?_); refine gL 25 Tryd.func18 #[.slice A0_3 l0_3.length c0_3, .slice A1_3 l1_3.length c1_3] ?_; (with_reducible refine (laws_eqValueS.calls k _ _ l0_3 _ _ l1_3 true _ ?_ ?_ ?_ ?_ A7.out).mono ?_); exact qC HR0_3; exact HC0_3.out; exact qC HR1_3; exact HC1_3.out; rintro e w60 ⟨rfl, hb⟩; refine ⟨_, rfl, ?_⟩; replace BK494 := qbb BK494 hb; replace BK495 := qbb BK495 hb; replace HB := qHB HB hb; (try clear hb); have hz61 := qz8 BK494.out; have hz62 := qz8 BK495.out) | ((with_reducible refine gcl (f := 19) rfl ?_); refine gL 36 Tryd.func19 #[.slice A0_5 l0_5.length c0_5, .slice A1_5 l1_5.length c1_5] ?_; (with_reducible refine (laws_eqItemS.calls k _ _ l0_5 _ _ l1_5 true _ ?_ ?_ ?_ ?_ A10.out).mono ?_); exact qC HR0_5; exact HC0_5.out; exact qC HR1_5; exact HC1_5.out; rintro e w63 ⟨rfl, hb⟩; refine ⟨_, rfl, ?_⟩; replace BK494 := qbb BK494 hb; replace BK495 := qbb BK495 hb; replace HB := qHB HB hb; (try clear hb); have hz64 := qz8 BK494.out; have hz65 := qz8 BK495.out) | ((with_reducible refine gcl (f := 19) rfl ?_); refine gL 42 Tryd.func19 #[.slice A0_6 l0_6.length c0_6, .slice A1_6 l1_6.length c1_6] ?_; (with_reducible refine (laws_eqItemS.calls k _ _ l0_6 _ _ l1_6 false _ ?_ ?_ ?_ ?_ A12.out).mono ?_); exact qC HR0_6; exact HC0_6.out; exact qC HR1_6; exact HC1_6.out; rintro e w66 ⟨rfl, hb⟩; refine ⟨_, rfl, ?_⟩; replace BK494 := qbb BK494 hb; replace BK495 := qbb BK495 hb; replace HB := qHB HB hb; (try clear hb))); go_ret; exact ⟨qR, qB⟩
            · replace c11 := Bool.eq_false_iff.mpr c11; subst c11; rw [if_neg qff] at H; obtain rfl := qsi H; go_enter Tryd.func6, Tryd.ntmps6; go_wp2_with (first | ((with_reducible refine gds (N := 2) rfl ?_); refine qbx 2 #[.int .i64 a0_0, .string a0_1, .slice A0_2 l0_2.length c0_2, .slice A0_3 l0_3.length c0_3, .string a0_4, .slice A0_5 l0_5.length c0_5, .slice A0_6 l0_6.length c0_6, .slice A0_7 l0_7.length c0_7] 27 ?_; intro gb494 hg w67 hbox hb; have BK494 := qK (hbox); have GW494 := qK ((qW : w.heap.size ≤ gb494)); have GE494 := GW494; replace HB := qHB HB hb; clear hb hbox hg) | ((with_reducible refine gds (N := 3) rfl ?_); refine qbx 3 #[.int .i64 a1_0, .string a1_1, .slice A1_2 l1_2.length c1_2, .slice A1_3 l1_3.length c1_3, .string a1_4, .slice A1_5 l1_5.length c1_5, .slice A1_6 l1_6.length c1_6, .slice A1_7 l1_7.length c1_7] 27 ?_; intro gb495 hg w68 hbox hb; have BK495 := qK (hbox); have GW495 := qK ((qW : w.heap.size ≤ gb495)); have GE495 := GW495; replace HB := qHB HB hb; have NB494_495 := qK (qlt BK494 hg); have NB495_494 := qK (qgt BK494 hg); replace BK494 := qbb BK494 hb; clear hb hbox hg; have hnb69 := NB494_495.out; have hnc69 := NB495_494.out; have hz70 := qz8 BK494.out; have hz71 := qz8 BK495.out) | ((with_reducible refine gcl (f := 17) rfl ?_); refine gL 19 Tryd.func17 #[.slice A0_2 l0_2.length c0_2, .slice A1_2 l1_2.length c1_2] ?_; (with_reducible refine (laws_eqColumnS.calls k _ _ l0_2 _ _ l1_2 true _ ?_ ?_ ?_ ?_ A5.out).mono ?_); exact qC HR0_2; exact HC0_2.out; exact qC HR1_2; exact HC1_2.out; rintro e w72 ⟨rfl, hb⟩; refine ⟨_, rfl, ?_⟩; replace BK494 := qbb BK494 hb; replace BK495 := qbb BK495 hb; replace HB := qHB HB hb; (try clear hb); have hz73 := qz8 BK494.out; have hz74 := qz8 BK495.out) | ((with_reducible refine gcl (f := 18) rfl ?_); refine gL 25 Tryd.func18 #[.slice A0_3 l0_3.length c0_3, .slice A1_3 l1_3.length c1_3] ?_; (with_reducible refine (laws_eqValueS.calls k _ _ l0_3 _ _ l1_3 true _ ?_ ?_ ?_ ?_ A7.out).mono ?_); exact qC HR0_3; exact HC0_3.out; exact qC HR1_3; exact HC1_3.out; rintro e w75 ⟨rfl, hb⟩; refine ⟨_, rfl, ?_⟩; replace BK494 := qbb BK494 hb; replace BK495 := qbb BK495 hb; replace HB := qHB HB hb; (try clear hb); have hz76 := qz8 BK494.out; have hz77 := qz8 BK495.out) | ((with_reducible refine gcl (f := 19) rfl ?_); refine gL 36 Tryd.func19 #[.slice A0_5 l0_5.length c0_5, .slice A1_5 l1_5.length c1_5] ?_; (with_reducible refine (laws_eqItemS.calls k _ _ l0_5 _ _ l1_5 false _ ?_ ?_ ?_ ?_ A10.out).mono ?_); exact qC HR0_5; exact HC0_5.out; exact qC HR1_5; exact HC1_5.out; rintro e w78 ⟨rfl, hb⟩; refine ⟨_, rfl, ?_⟩; replace BK494 := qbb BK494 hb; replace BK495 := qbb BK495 hb; replace HB := qHB HB hb; (try clear hb))); go_ret; exact ⟨qR, qB⟩
          · rw [if_neg c9] at H; obtain ⟨c9b0, c9b1⟩ := qn c9; obtain rfl := qsi H; go_enter Tryd.func6, Tryd.ntmps6; go_wp2_with (first | ((with_reducible refine gds (N := 2) rfl ?_); refine qbx 2 #[.int .i64 a0_0, .string a0_1, .slice A0_2 l0_2.length c0_2, .slice A0_3 l0_3.length c0_3, .string a0_4, .slice A0_5 l0_5.length c0_5, .slice A0_6 l0_6.length c0_6, .slice A0_7 l0_7.length c0_7] 27 ?_; intro gb494 hg w79 hbox hb; have BK494 := qK (hbox); have GW494 := qK ((qW : w.heap.size ≤ gb494)); have GE494 := GW494; replace HB := qHB HB hb; clear hb hbox hg) | ((with_reducible refine gds (N := 3) rfl ?_); refine qbx 3 #[.int .i64 a1_0, .string a1_1, .slice A1_2 l1_2.length c1_2, .slice A1_3 l1_3.length c1_3, .string a1_4, .slice A1_5 l1_5.length c1_5, .slice A1_6 l1_6.length c1_6, .slice A1_7 l1_7.length c1_7] 27 ?_; intro gb495 hg w80 hbox hb; have BK495 := qK (hbox); have GW495 := qK ((qW : w.heap.size ≤ gb495)); have GE495 := GW495; replace HB := qHB HB hb; have NB494_495 := qK (qlt BK494 hg); have NB495_494 := qK (qgt BK494 hg); replace BK494 := qbb BK494 hb; clear hb hbox hg; have hnb81 := NB494_495.out; have hnc81 := NB495_494.out; have hz82 := qz8 BK494.out; have hz83 := qz8 BK495.out) | ((with_reducible refine gcl (f := 17) rfl ?_); refine gL 19 Tryd.func17 #[.slice A0_2 l0_2.length c0_2, .slice A1_2 l1_2.length c1_2] ?_; (with_reducible refine (laws_eqColumnS.calls k _ _ l0_2 _ _ l1_2 true _ ?_ ?_ ?_ ?_ A5.out).mono ?_); exact qC HR0_2; exact HC0_2.out; exact qC HR1_2; exact HC1_2.out; rintro e w84 ⟨rfl, hb⟩; refine ⟨_, rfl, ?_⟩; replace BK494 := qbb BK494 hb; replace BK495 := qbb BK495 hb; replace HB := qHB HB hb; (try clear hb); have hz85 := qz8 BK494.out; have hz86 := qz8 BK495.out) | ((with_reducible refine gcl (f := 18) rfl ?_); refine gL 25 Tryd.func18 #[.slice A0_3 l0_3.length c0_3, .slice A1_3 l1_3.length c1_3] ?_; (with_reducible refine (laws_eqValueS.calls k _ _ l0_3 _ _ l1_3 true _ ?_ ?_ ?_ ?_ A7.out).mono ?_); exact qC HR0_3; exact HC0_3.out; exact qC HR1_3; exact HC1_3.out; rintro e w87 ⟨rfl, hb⟩; refine ⟨_, rfl, ?_⟩; replace BK494 := qbb BK494 hb; replace BK495 := qbb BK495 hb; replace HB := qHB HB hb; (try clear hb); have hz88 := qz8 BK494.out; have hz89 := qz8 BK495.out)); go_ret; exact ⟨qR, qB⟩
        · replace c8 := Bool.eq_false_iff.mpr c8; subst c8; rw [if_neg qff] at H; obtain rfl := qsi H; go_enter Tryd.func6, Tryd.ntmps6; go_wp2_with (first | ((with_reducible refine gds (N := 2) rfl ?_); refine qbx 2 #[.int .i64 a0_0, .string a0_1, .slice A0_2 l0_2.length c0_2, .slice A0_3 l0_3.length c0_3, .string a0_4, .slice A0_5 l0_5.length c0_5, .slice A0_6 l0_6.length c0_6, .slice A0_7 l0_7.length c0_7] 27 ?_; intro gb494 hg w90 hbox hb; have BK494 := qK (hbox); have GW494 := qK ((qW : w.heap.size ≤ gb494)); have GE494 := GW494; replace HB := qHB HB hb; clear hb hbox hg) | ((with_reducible refine gds (N := 3) rfl ?_); refine qbx 3 #[.int .i64 a1_0, .string a1_1, .slice A1_2 l1_2.length c1_2, .slice A1_3 l1_3.length c1_3, .string a1_4, .slice A1_5 l1_5.length c1_5, .slice A1_6 l1_6.length c1_6, .slice A1_7 l1_7.length c1_7] 27 ?_; intro gb495 hg w91 hbox hb; have BK495 := qK (hbox); have GW495 := qK ((qW : w.heap.size ≤ gb495)); have GE495 := GW495; replace HB := qHB HB hb; have NB494_495 := qK (qlt BK494 hg); have NB495_494 := qK (qgt BK494 hg); replace BK494 := qbb BK494 hb; clear hb hbox hg; have hnb92 := NB494_495.out; have hnc92 := NB495_494.out; have hz93 := qz8 BK494.out; have hz94 := qz8 BK495.out) | ((with_reducible refine gcl (f := 17) rfl ?_); refine gL 19 Tryd.func17 #[.slice A0_2 l0_2.length c0_2, .slice A1_2 l1_2.length c1_2] ?_; (with_reducible refine (laws_eqColumnS.calls k _ _ l0_2 _ _ l1_2 true _ ?_ ?_ ?_ ?_ A5.out).mono ?_); exact qC HR0_2; exact HC0_2.out; exact qC HR1_2; exact HC1_2.out; rintro e w95 ⟨rfl, hb⟩; refine ⟨_, rfl, ?_⟩; replace BK494 := qbb BK494 hb; replace BK495 := qbb BK495 hb; replace HB := qHB HB hb; (try clear hb); have hz96 := qz8 BK494.out; have hz97 := qz8 BK495.out) | ((with_reducible refine gcl (f := 18) rfl ?_); refine gL 25 Tryd.func18 #[.slice A0_3 l0_3.length c0_3, .slice A1_3 l1_3.length c1_3] ?_; (with_reducible refine (laws_eqValueS.calls k _ _ l0_3 _ _ l1_3 false _ ?_ ?_ ?_ ?_ A7.out).mono ?_); exact qC HR0_3; exact HC0_3.out; exact qC HR1_3; exact HC1_3.out; rintro e w98 ⟨rfl, hb⟩; refine ⟨_, rfl, ?_⟩; replace BK494 := qbb BK494 hb; replace BK495 := qbb BK495 hb; replace HB := qHB HB hb; (try clear hb))); go_ret; exact ⟨qR, qB⟩
      · replace c6 := Bool.eq_false_iff.mpr c6; subst c6; rw [if_neg qff] at H; obtain rfl := qsi H; go_enter Tryd.func6, Tryd.ntmps6; go_wp2_with (first | ((with_reducible refine gds (N := 2) rfl ?_); refine qbx 2 #[.int .i64 a0_0, .string a0_1, .slice A0_2 l0_2.length c0_2, .slice A0_3 l0_3.length c0_3, .string a0_4, .slice A0_5 l0_5.length c0_5, .slice A0_6 l0_6.length c0_6, .slice A0_7 l0_7.length c0_7] 27 ?_; intro gb494 hg w99 hbox hb; have BK494 := qK (hbox); have GW494 := qK ((qW : w.heap.size ≤ gb494)); have GE494 := GW494; replace HB := qHB HB hb; clear hb hbox hg) | ((with_reducible refine gds (N := 3) rfl ?_); refine qbx 3 #[.int .i64 a1_0, .string a1_1, .slice A1_2 l1_2.length c1_2, .slice A1_3 l1_3.length c1_3, .string a1_4, .slice A1_5 l1_5.length c1_5, .slice A1_6 l1_6.length c1_6, .slice A1_7 l1_7.length c1_7] 27 ?_; intro gb495 hg w100 hbox hb; have BK495 := qK (hbox); have GW495 := qK ((qW : w.heap.size ≤ gb495)); have GE495 := GW495; replace HB := qHB HB hb; have NB494_495 := qK (qlt BK494 hg); have NB495_494 := qK (qgt BK494 hg); replace BK494 := qbb BK494 hb; clear hb hbox hg; have hnb101 := NB494_495.out; have hnc101 := NB495_494.out; have hz102 := qz8 BK494.out; have hz103 := qz8 BK495.out) | ((with_reducible refine gcl (f := 17) rfl ?_); refine gL 19 Tryd.func17 #[.slice A0_2 l0_2.length c0_2, .slice A1_2 l1_2.length c1_2] ?_; (with_reducible refine (laws_eqColumnS.calls k _ _ l0_2 _ _ l1_2 false _ ?_ ?_ ?_ ?_ A5.out).mono ?_); exact qC HR0_2; exact HC0_2.out; exact qC HR1_2; exact HC1_2.out; rintro e w104 ⟨rfl, hb⟩; refine ⟨_, rfl, ?_⟩; replace BK494 := qbb BK494 hb; replace BK495 := qbb BK495 hb; replace HB := qHB HB hb; (try clear hb))); go_ret; exact ⟨qR, qB⟩
    · rw [if_neg c4] at H; obtain ⟨c4b0, c4b1⟩ := qn c4; obtain rfl := qsi H; go_enter Tryd.func6, Tryd.ntmps6; go_wp2_with (first | ((with_reducible refine gds (N := 2) rfl ?_); refine qbx 2 #[.int .i64 a0_0, .string a0_1, .slice A0_2 l0_2.length c0_2, .slice A0_3 l0_3.length c0_3, .string a0_4, .slice A0_5 l0_5.length c0_5, .slice A0_6 l0_6.length c0_6, .slice A0_7 l0_7.length c0_7] 27 ?_; intro gb494 hg w105 hbox hb; have BK494 := qK (hbox); have GW494 := qK ((qW : w.heap.size ≤ gb494)); have GE494 := GW494; replace HB := qHB HB hb; clear hb hbox hg) | ((with_reducible refine gds (N := 3) rfl ?_); refine qbx 3 #[.int .i64 a1_0, .string a1_1, .slice A1_2 l1_2.length c1_2, .slice A1_3 l1_3.length c1_3, .string a1_4, .slice A1_5 l1_5.length c1_5, .slice A1_6 l1_6.length c1_6, .slice A1_7 l1_7.length c1_7] 27 ?_; intro gb495 hg w106 hbox hb; have BK495 := qK (hbox); have GW495 := qK ((qW : w.heap.size ≤ gb495)); have GE495 := GW495; replace HB := qHB HB hb; have NB494_495 := qK (qlt BK494 hg); have NB495_494 := qK (qgt BK494 hg); replace BK494 := qbb BK494 hb; clear hb hbox hg; have hnb107 := NB494_495.out; have hnc107 := NB495_494.out; have hz108 := qz8 BK494.out; have hz109 := qz8 BK495.out)); go_ret; exact ⟨qR, qB⟩
  · rw [if_neg c3] at H; obtain ⟨c3b0, c3b1⟩ := qn c3; obtain rfl := qsi H; go_enter Tryd.func6, Tryd.ntmps6; go_wp2_with (first | ((with_reducible refine gds (N := 2) rfl ?_); refine qbx 2 #[.int .i64 a0_0, .string a0_1, .slice A0_2 l0_2.length c0_2, .slice A0_3 l0_3.length c0_3, .string a0_4, .slice A0_5 l0_5.length c0_5, .slice A0_6 l0_6.length c0_6, .slice A0_7 l0_7.length c0_7] 27 ?_; intro gb494 hg w110 hbox hb; have BK494 := qK (hbox); have GW494 := qK ((qW : w.heap.size ≤ gb494)); have GE494 := GW494; replace HB := qHB HB hb; clear hb hbox hg) | ((with_reducible refine gds (N := 3) rfl ?_); refine qbx 3 #[.int .i64 a1_0, .string a1_1, .slice A1_2 l1_2.length c1_2, .slice A1_3 l1_3.length c1_3, .string a1_4, .slice A1_5 l1_5.length c1_5, .slice A1_6 l1_6.length c1_6, .slice A1_7 l1_7.length c1_7] 27 ?_; intro gb495 hg w111 hbox hb; have BK495 := qK (hbox); have GW495 := qK ((qW : w.heap.size ≤ gb495)); have GE495 := GW495; replace HB := qHB HB hb; have NB494_495 := qK (qlt BK494 hg); have NB495_494 := qK (qgt BK494 hg); replace BK494 := qbb BK494 hb; clear hb hbox hg; have hnb112 := NB494_495.out; have hnc112 := NB495_494.out; have hz113 := qz8 BK494.out; have hz114 := qz8 BK495.out)); go_ret; exact ⟨qR, qB⟩
def laws_markText.l0 : Nat → Int → ByteArray → Option (ByteArray)
  | 0, _, _ => none
  | k + 1, x0, x3 => if x0 > 0 then ((some (([(wrap64 (48 + (Int.tmod x0 10))) % 256] : List Int) : List Int)).bind fun y501 => (if (strOfNums y501).size + x3.size ≤ 9223372036854775807 then (laws_markText.l0 k (wrap64 (Int.tdiv x0 10)) ((strOfNums y501) ++ x3)) else (none))) else (if 1 + x3.size ≤ 9223372036854775807 then (some ((⟨#[109]⟩ : ByteArray) ++ x3)) else (none))
def laws_markText.f (k : Nat) (a0 : Int) : Option (ByteArray) := if a0 ≤ 0 then (some (⟨#[109, 48]⟩ : ByteArray)) else (laws_markText.l0 k a0 (⟨#[]⟩ : ByteArray))
theorem laws_markText.mono_l : ∀ k, (∀ y0 y1, LeO (laws_markText.l0 k y0 y1) (laws_markText.l0 (k + 1) y0 y1))
  | 0 => fun _ _ r h => by simp [laws_markText.l0] at h
  | k + 1 => by
    have ih0 := laws_markText.mono_l k
    · intro y0 y1
      unfold laws_markText.l0
      repeat' first
        | (with_reducible first | exact ih0 .. | exact LeO.refl _ | exact LeO.none _ | refine LeO.ite ?_ ?_ | refine LeO.bind ?_ (fun _ => ?_))
        | exact ih0 .. | exact LeO.none _ | refine LeO.ite ?_ ?_ | refine LeO.bind ?_ (fun _ => ?_)
theorem laws_markText.mono : ∀ a0 k, LeO (laws_markText.f k a0) (laws_markText.f (k + 1) a0) := by
  intro a0 k
  have ih0 := laws_markText.mono_l k
  unfold laws_markText.f
  repeat' first
    | (with_reducible first | exact ih0 .. | exact LeO.refl _ | exact LeO.none _ | refine LeO.ite ?_ ?_ | refine LeO.bind ?_ (fun _ => ?_))
    | exact ih0 .. | exact LeO.none _ | refine LeO.ite ?_ ?_ | refine LeO.bind ?_ (fun _ => ?_)
set_option maxHeartbeats 8000000 in
set_option maxRecDepth 100000 in
theorem laws_markText.calls (k : Nat) (a0 : Int) (r : ByteArray) (w : World) (h : laws_markText.f k a0 = some r) :
    Calls Tryd.prog 44 #[.int .i64 a0] w fun e w' => e = .returned (.string r) ∧ Below w.heap.size w w' := by
  have HB := qK (Below.refl w.heap.size w); have H : (if a0 ≤ 0 then (some (⟨#[109, 48]⟩ : ByteArray)) else (laws_markText.l0 k a0 (⟨#[]⟩ : ByteArray))) = some r := h; clear h; by_cases c2 : a0 ≤ 0
  · rw [if_pos c2] at H; have c2b0 := decide_eq_true c2; clear c2; obtain rfl := qsi H; go_enter Tryd.func44, Tryd.ntmps44; go_wp2; go_ret; exact ⟨qR, qB⟩
  · rw [if_neg c2] at H; have c2b0 := decide_eq_false c2; clear c2; have H' := qK H; clear H; go_enter Tryd.func44, Tryd.ntmps44; go_wp2; go_loopg [0, 3] k (fun kq v0 v3 w' => ∃ (x0_1 : Int) (x3_1 : ByteArray), v0 = .int .i64 x0_1 ∧ v3 = .string x3_1 ∧ Aside0 (laws_markText.l0 kq x0_1 x3_1 = some r) ∧ Aside0 (kq ≤ k) ∧ Aside0 (Below w.heap.size w w'))
    case atStart => exact ⟨(a0), ((⟨#[]⟩ : ByteArray)), qS, qS, H', ⟨Nat.le_refl _⟩, ⟨qB⟩⟩
    case round =>
      clear H'; (try clear c2); (try clear c2b0); obtain ⟨x0_1, x3_1, rfl, rfl, HA, HK1, HB⟩ := hrel
      cases gk with
      | zero => exact absurd HA.out (by simp [laws_markText.l0])
      | succ k1 =>
        have H := HA.out; clear HA; simp only [laws_markText.l0] at H; by_cases c3 : x0_1 > 0
        · rw [if_pos c3] at H; have c3b0 : decide (0 < x0_1) = true := decide_eq_true c3; clear c3; obtain ⟨y501, hy_⟩ : ∃ y_ : List Int, y_ = (([(wrap64 (48 + (Int.tmod x0_1 10))) % 256] : List Int)) := ⟨_, rfl⟩; replace H : (if (strOfNums y501).size + x3_1.size ≤ 9223372036854775807 then (laws_markText.l0 k1 (wrap64 (Int.tdiv x0_1 10)) ((strOfNums y501) ++ x3_1)) else (none)) = some r := qh; have Ny501 := qK hy_; clear hy_; by_cases c4 : (strOfNums y501).size + x3_1.size ≤ 9223372036854775807
          · rw [if_pos c4] at H; have c4b0 := eq_true c4; have c4b1 := decide_eq_true c4; (try have c4b2 : (9223372036854775807 < (strOfNums y501).size + x3_1.size) = False := eq_false (Nat.not_lt.2 c4)); have H' := qK H; clear H; go_wp2_with (first | ((with_reducible refine gds (N := 12) rfl ?_); refine Kd.R_lit (Kd.int .u8) _ 5 ?hg (N := 12) ?hd (xs := ([(wrap64 (48 + (Int.tmod x0_1 10))) % 256] : List Int)) (inner := [.int .u8 ((wrap64 (48 + (Int.tmod x0_1 10))) % 256)]) (ok := fun _ => True) (okp := fun _ => True) ?hr ?hp (fun _ hk => hk) trivial (Below.refl _ _) (Nat.le_refl _) (by simp) ?_; (case hd => rfl); (case hg => rfl); (case hr => first | (go_simp; done) | (go_simp; rfl)); (case hp => exact (Reps.one (show Kd.M (Kd.int .u8) _ _ _ ((wrap64 (48 + (Int.tmod x0_1 10))) % 256) [.int .u8 ((wrap64 (48 + (Int.tmod x0_1 10))) % 256)] from rfl) (Reps.none _ _))); intro v502 w5 ho6 hb hg_ hnew_; clear hg_ hnew_; (first | rw [← Ny501.out] at ho6 | (simp only [Int.reduceToNat] at ho6; rw [← Ny501.out] at ho6)); have HO503 := qK (Kd.Rlo ho6 (bsz qB)); replace HB := qHB HB hb; clear hb ho6; have hcv7 := own_string (P := Tryd.prog) Tryd.underlying62 Tryd.underlying5 Tryd.underlying9 (Kd.own_of_R HO503.out))); go_roundg k1
            case measure => have := HK1.out; omega
            case rel => exact ⟨(wrap64 (Int.tdiv x0_1 10)), ((strOfNums y501) ++ x3_1), qS, qS, H', ⟨by have := HK1.out; omega⟩, ⟨qB⟩⟩
          · rw [if_neg c4] at H; exact absurd H (by simp)
        · rw [if_neg c3] at H; have c3b0 : decide (0 < x0_1) = false := decide_eq_false c3; clear c3; by_cases c8 : 1 + x3_1.size ≤ 9223372036854775807
          · rw [if_pos c8] at H; have c8b0 := eq_true c8; have c8b1 := decide_eq_true c8; (try have c8b2 : (9223372036854775807 < 1 + x3_1.size) = False := eq_false (Nat.not_lt.2 c8)); obtain rfl := qsi H; go_wp2; go_ret; exact ⟨qR, qB⟩
          · rw [if_neg c8] at H; exact absurd H (by simp)
def laws_markColumnS.l0 : Nat → List (S39) → Int → Int → Option (Int × (List (S39)))
  | 0, _, _, _ => none
  | k + 1, x0, x1, x5 => if x5 < (x0.length : Int) then ((laws_markText.f k x1).bind fun t504 => (if 0 ≤ x5 then ((some (x0.set (x5 : Int).toNat (⟨t504, (rd_T39 x0 x5).f1⟩ : S39) : List (S39))).bind fun y505 => (laws_markColumnS.l0 k (y505.set (x5 : Int).toNat (⟨(rd_T39 y505 x5).f0, wrap64 (x1 + 1)⟩ : S39)) (wrap64 ((wrap64 (x1 + 1)) + 1)) (wrap64 (x5 + 1)))) else (none))) else (some (x1, x0))
def laws_markColumnS.f (k : Nat) (l0 : List (S39)) (a1 : Int) : Option (Int × (List (S39))) := laws_markColumnS.l0 k l0 a1 0
theorem laws_markColumnS.mono_l : ∀ k, (∀ y0 y1 y2, LeO (laws_markColumnS.l0 k y0 y1 y2) (laws_markColumnS.l0 (k + 1) y0 y1 y2))
  | 0 => fun _ _ _ r h => by simp [laws_markColumnS.l0] at h
  | k + 1 => by
    have ih0 := laws_markColumnS.mono_l k
    · intro y0 y1 y2
      unfold laws_markColumnS.l0
      repeat' first
        | (with_reducible first | exact ih0 .. | exact laws_markText.mono .. | exact LeO.refl _ | exact LeO.none _ | refine LeO.ite ?_ ?_ | refine LeO.bind ?_ (fun _ => ?_))
        | exact ih0 .. | exact laws_markText.mono .. | exact LeO.none _ | refine LeO.ite ?_ ?_ | refine LeO.bind ?_ (fun _ => ?_)
theorem laws_markColumnS.mono : ∀ a0 a1 k, LeO (laws_markColumnS.f k a0 a1) (laws_markColumnS.f (k + 1) a0 a1) := by
  intro a0 a1 k
  have ih0 := laws_markColumnS.mono_l k
  unfold laws_markColumnS.f
  repeat' first
    | (with_reducible first | exact ih0 .. | exact laws_markText.mono .. | exact LeO.refl _ | exact LeO.none _ | refine LeO.ite ?_ ?_ | refine LeO.bind ?_ (fun _ => ?_))
    | exact ih0 .. | exact laws_markText.mono .. | exact LeO.none _ | refine LeO.ite ?_ ?_ | refine LeO.bind ?_ (fun _ => ?_)
set_option maxHeartbeats 8000000 in
set_option maxRecDepth 100000 in
theorem laws_markColumnS.calls (k : Nat) (P0_ : Nat → Prop) (u9000_ : Value) (l0 : List (S39)) (a1 : Int) (r1 : Int) (r2 : List (S39)) (w0 w : World) (hB : Below w0.heap.size w0 w) (ho0 : Kd.R k39 39 w w0.heap.size P0_ u9000_ l0) (h : laws_markColumnS.f k l0 a1 = some (r1, r2)) :
    Calls Tryd.prog 21 #[u9000_, .int .i64 a1] w fun e w' => e = .returned (.int .i64 r1) ∧ Kd.R k39 39 w' w0.heap.size (fun k_ => (P0_ k_ ∨ w.heap.size ≤ k_)) u9000_ r2 ∧ Below w0.heap.size w0 w' ∧ Kept w w' (fun k_ => P0_ k_) := by
  have HO0 := qK (show Kd.R k39 39 w w0.heap.size (fun k_ => (P0_ k_ ∨ w.heap.size ≤ k_)) u9000_ l0 from Kd.Rmo ho0 (fun k_ hk => (.inl hk))); have HK := qK (Kept.refl w (fun k_ => P0_ k_)); have HW0 := qK hB.size; have HB := qK hB; clear hB; have H : (laws_markColumnS.l0 k l0 a1 0) = some (r1, r2) := h; clear h; have H' := qK H; clear H; go_enter Tryd.func21, Tryd.ntmps21; go_wp2; go_loopg [1, 5] k (fun kq v1 v5 w' => ∃ (x0_1 : List (S39)) (x1_1 : Int) (x5_1 : Int), v1 = .int .i64 x1_1 ∧ v5 = .int .i64 x5_1 ∧ Aside0 (laws_markColumnS.l0 kq x0_1 x1_1 x5_1 = some (r1, r2)) ∧ Aside0 (kq ≤ k) ∧ Aside0 (Kd.R k39 39 w' w0.heap.size (fun k_ => (P0_ k_ ∨ w.heap.size ≤ k_)) u9000_ x0_1) ∧ Aside0 (Kept w w' (fun k_ => P0_ k_)) ∧ Aside0 (Below w0.heap.size w0 w'))
  case atStart => exact ⟨(l0), (a1), (0), qS, qS, H', ⟨Nat.le_refl _⟩, ⟨by (with_reducible repeat (first | apply Kd.Ral | apply Kd.RdN | apply Kd.R_drew)); exact HO0.out⟩, ⟨by repeat (first | (with_reducible first | exact HK.out | apply Kept.alloc | apply Kept.drewN | apply Kept.drew) | exact HK.out)⟩, ⟨qB⟩⟩
  case round =>
    clear H'; obtain ⟨x0_1, x1_1, x5_1, rfl, rfl, HA, HK1, HO_0, HK, HB⟩ := hrel
    cases gk with
    | zero => exact absurd HA.out (by simp [laws_markColumnS.l0])
    | succ k1 =>
      have H := HA.out; clear HA; simp only [laws_markColumnS.l0] at H; by_cases c3 : x5_1 < (x0_1.length : Int)
      · rw [if_pos c3] at H; have c3b0 := decide_eq_true c3; clear c3; obtain ⟨t504, A4, H⟩ := qbi H; by_cases c5 : 0 ≤ x5_1
        · rw [if_pos c5] at H; have c5b0 := decide_eq_true c5; clear c5; obtain ⟨y505, hy_⟩ : ∃ y_ : List (S39), y_ = (x0_1.set (x5_1 : Int).toNat (⟨t504, (rd_T39 x0_1 x5_1).f1⟩ : S39)) := ⟨_, rfl⟩; replace H : (laws_markColumnS.l0 k1 (y505.set (x5_1 : Int).toNat (⟨(rd_T39 y505 x5_1).f0, wrap64 (x1_1 + 1)⟩ : S39)) (wrap64 ((wrap64 (x1_1 + 1)) + 1)) (wrap64 (x5_1 + 1))) = some (r1, r2) := qh; have Ny505 := qK hy_; clear hy_; obtain ⟨y506, hy_⟩ : ∃ y_ : List (S39), y_ = (y505.set (x5_1 : Int).toNat (⟨(rd_T39 y505 x5_1).f0, wrap64 (x1_1 + 1)⟩ : S39)) := ⟨_, rfl⟩; replace H : (laws_markColumnS.l0 k1 y506 (wrap64 ((wrap64 (x1_1 + 1)) + 1)) (wrap64 (x5_1 + 1))) = some (r1, r2) := qh; have Ny506 := qK hy_; clear hy_; have H' := qK H; clear H; obtain ⟨Ao8, co8, eo8⟩ := Kd.R_slice HO_0.out; subst eo8; go_wp2_with (first | ((with_reducible refine gcl (f := 44) rfl ?_); refine gL 15 Tryd.func44 #[.int .i64 x1_1] ?_; (with_reducible refine (laws_markText.calls k1 x1_1 t504 _ A4.out).mono ?_); rintro e w9 ⟨rfl, hb⟩; refine ⟨_, rfl, ?_⟩; replace HO_0 := qK (Kd.Rbe (qRb HO_0) hb); replace HK := qK (Kept.below (S := (fun k_ => P0_ k_)) (by repeat (first | (with_reducible first | exact HK.out | apply Kept.alloc | apply Kept.drewN | apply Kept.drew) | exact HK.out)) hb); replace HB := qHB HB hb; (try clear hb); (try clear hk); have p6 : 0 ≤ (x5_1 : Int) := of_decide_eq_true qa; have q6 : (x5_1 : Int) < ((x0_1.length : Int) : Int) := of_decide_eq_true qa; obtain ⟨go6, co6, eo6, gb6, gl6, cl6, HG6⟩ := Kd.R_form HO_0.out (by omega); (first | cases eo6 | (injection eo6 with ea_ en_ ec_; (first | subst ea_ | (injection ea_ with ea_; subst ea_)); subst ec_; clear en_)); have GB6 := qK gb6; have GG6 := qK HG6; clear gb6 gl6 HG6; have HMgo6 := qK (show (P0_ go6 ∨ w.heap.size ≤ go6) from (HO_0.out.1 _ rfl)); obtain ⟨ce6, hcl6, hM6, hcc6, hfr6⟩ := Kd.R_elem HO_0.out z39 (x5_1 : Int) p6 q6; obtain rfl := k39_openM hM6; have hx6_0 : w9.cell? ⟨go6, (x5_1 : Int).toNat * 2, none⟩ = some (.string ((rd_T39 x0_1 x5_1).f0)) := hcc6 0 _ rfl; have hx6_1 : w9.cell? ⟨go6, (x5_1 : Int).toNat * 2 + 1, none⟩ = some (.int .i64 ((rd_T39 x0_1 x5_1).f1)) := hcc6 1 _ rfl; have hf6_0 : w9.frozen? ⟨go6, (x5_1 : Int).toNat * 2, none⟩ = false := hfr6 0; have hf6_1 : w9.frozen? ⟨go6, (x5_1 : Int).toNat * 2 + 1, none⟩ = false := hfr6 1; clear hcl6 hcc6 hfr6; (try clear hM6); replace p6 := eq_true p6; replace q6 := eq_true q6; have HX10 := qK (show Kd.R k39 39 w9 w0.heap.size (fun k_ => (P0_ k_ ∨ w.heap.size ≤ k_)) (.slice (some ⟨go6, 0, none⟩) x0_1.length co8) x0_1 from (qRb HO_0)); obtain ⟨ce10, hcl10, hM10, hcc10, hfr10⟩ := Kd.R_elem HX10.out z39 (x5_1 : Int) (of_decide_eq_true qa) (by have h_ : (x5_1 : Int) < ((x0_1.length : Int) : Int) := of_decide_eq_true qa; first | exact h_ | (have e_ := (Kd.R_reads' HO_0.out).1; omega) | simpa using h_); obtain rfl := k39_openM hM10; have HP10 := Kd.R_seg HX10.out (x5_1 : Int) (of_decide_eq_true qa) (by have h_ : (x5_1 : Int) < ((x0_1.length : Int) : Int) := of_decide_eq_true qa; first | exact h_ | (have e_ := (Kd.R_reads' HO_0.out).1; omega) | simpa using h_) (seg := [.string t504]) (j := 0) hcl10 hcc10 (show 1 ≤ 2 from by decide) (x' := (⟨t504, (rd_T39 x0_1 x5_1).f1⟩ : S39)) (k39_mkM _ _ _ (⟨t504, (rd_T39 x0_1 x5_1).f1⟩ : S39) ) (fun _ hk => hk); have hx10_0 := hcc10 0 _ rfl; (try simp only [show (k39).sz = 2 from rfl, Nat.mul_one, Nat.add_zero] at hx10_0); have hf10_0 := hfr10 0; (try simp only [show (k39).sz = 2 from rfl, Nat.mul_one, Nat.add_zero] at hf10_0); clear hcl10 hcc10 hfr10; (try clear hM10)) | ((with_reducible refine gst (t := 9) (p := 17) rfl ?_); refine ste (t := 9) (p := 17) (v := ?vo_w11) (w1 := (w9.setCell ⟨go6, (x5_1 : Int).toNat * 2, none⟩ (.string t504))) ?hg ?ho ?hn ?hr ?_; (case ho => rfl); (case hg => rfl); (case hn => rfl); (case hr => first | (go_simp; done) | (go_simp; rfl)); intro w11 hw; have hg : w9.grownBy w11 (some go6) := (by rw [hw]; exact HP10.2); have hp_ : Kd.R k39 39 w11 w0.heap.size (fun k_ => (P0_ k_ ∨ w.heap.size ≤ k_)) (.slice (some ⟨go6, 0, none⟩) x0_1.length co8) y505 := (by rw [hw, Ny505.out]; exact HP10.1); clear HP10; replace HB := qK ((by rw [hw]; exact bse (HB.out) GB6.out : Below w0.heap.size w0 w11)); replace HK := qK (Kept.of_grown (S := (fun k_ => P0_ k_)) hg (by repeat (first | (with_reducible first | exact HK.out | apply Kept.alloc | apply Kept.drewN | apply Kept.drew) | exact HK.out)) (fun k_ e_ => (HO_0.out.1 k_ e_))); replace HO_0 := qK (hp_); clear hg hw hp_; have p7 : 0 ≤ (x5_1 : Int) := of_decide_eq_true qa; have q7 : (x5_1 : Int) < ((x0_1.length : Int) : Int) := of_decide_eq_true qa; obtain ⟨ce7, hcl7, hM7, hcc7, hfr7⟩ := Kd.R_elem HO_0.out z39 (x5_1 : Int) p7 q7; obtain rfl := k39_openM hM7; have hx7_0 : w11.cell? ⟨go6, (x5_1 : Int).toNat * 2, none⟩ = some (.string ((rd_T39 y505 x5_1).f0)) := hcc7 0 _ rfl; have hx7_1 : w11.cell? ⟨go6, (x5_1 : Int).toNat * 2 + 1, none⟩ = some (.int .i64 ((rd_T39 y505 x5_1).f1)) := hcc7 1 _ rfl; have hf7_0 : w11.frozen? ⟨go6, (x5_1 : Int).toNat * 2, none⟩ = false := hfr7 0; have hf7_1 : w11.frozen? ⟨go6, (x5_1 : Int).toNat * 2 + 1, none⟩ = false := hfr7 1; clear hcl7 hcc7 hfr7; (try clear hM7); replace p7 := eq_true p7; replace q7 := eq_true q7; have HX12 := qK (show Kd.R k39 39 w11 w0.heap.size (fun k_ => (P0_ k_ ∨ w.heap.size ≤ k_)) (.slice (some ⟨go6, 0, none⟩) x0_1.length co8) y505 from (qRb HO_0)); obtain ⟨ce12, hcl12, hM12, hcc12, hfr12⟩ := Kd.R_elem HX12.out z39 (x5_1 : Int) (of_decide_eq_true qa) (by have h_ : (x5_1 : Int) < ((x0_1.length : Int) : Int) := of_decide_eq_true qa; first | exact h_ | (have e_ := (Kd.R_reads' HO_0.out).1; omega) | simpa using h_); obtain rfl := k39_openM hM12; have HP12 := Kd.R_seg HX12.out (x5_1 : Int) (of_decide_eq_true qa) (by have h_ : (x5_1 : Int) < ((x0_1.length : Int) : Int) := of_decide_eq_true qa; first | exact h_ | (have e_ := (Kd.R_reads' HO_0.out).1; omega) | simpa using h_) (seg := [.int .i64 (wrap64 (x1_1 + 1))]) (j := 1) hcl12 hcc12 (show 2 ≤ 2 from by decide) (x' := (⟨(rd_T39 y505 x5_1).f0, wrap64 (x1_1 + 1)⟩ : S39)) (k39_mkM _ _ _ (⟨(rd_T39 y505 x5_1).f0, wrap64 (x1_1 + 1)⟩ : S39) ) (fun _ hk => hk); have hx12_1 := hcc12 1 _ rfl; (try simp only [show (k39).sz = 2 from rfl, Nat.mul_one, Nat.add_zero] at hx12_1); have hf12_1 := hfr12 1; (try simp only [show (k39).sz = 2 from rfl, Nat.mul_one, Nat.add_zero] at hf12_1); clear hcl12 hcc12 hfr12; (try clear hM12)) | ((with_reducible refine gst (t := 3) (p := 24) rfl ?_); refine ste (t := 3) (p := 24) (v := ?vo_w13) (w1 := (w11.setCell ⟨go6, (x5_1 : Int).toNat * 2 + 1, none⟩ (.int .i64 (wrap64 (x1_1 + 1))))) ?hg ?ho ?hn ?hr ?_; (case ho => rfl); (case hg => rfl); (case hn => rfl); (case hr => first | (go_simp; done) | (go_simp; rfl)); intro w13 hw; have hg : w11.grownBy w13 (some go6) := (by rw [hw]; exact HP12.2); have hp_ : Kd.R k39 39 w13 w0.heap.size (fun k_ => (P0_ k_ ∨ w.heap.size ≤ k_)) (.slice (some ⟨go6, 0, none⟩) x0_1.length co8) y506 := (by rw [hw, Ny506.out]; exact HP12.1); clear HP12; replace HB := qK ((by rw [hw]; exact bse (HB.out) GB6.out : Below w0.heap.size w0 w13)); replace HK := qK (Kept.of_grown (S := (fun k_ => P0_ k_)) hg (by repeat (first | (with_reducible first | exact HK.out | apply Kept.alloc | apply Kept.drewN | apply Kept.drew) | exact HK.out)) (fun k_ e_ => (HO_0.out.1 k_ e_))); replace HO_0 := qK (hp_); clear hg hw hp_)); go_roundg k1
          case measure => have := HK1.out; omega
          case rel => exact ⟨(y506), (wrap64 ((wrap64 (x1_1 + 1)) + 1)), (wrap64 (x5_1 + 1)), qS, qS, H', ⟨by have := HK1.out; omega⟩, ⟨by (with_reducible repeat (first | apply Kd.Ral | apply Kd.RdN | apply Kd.R_drew)); exact HO_0.out⟩, ⟨by repeat (first | (with_reducible first | exact HK.out | apply Kept.alloc | apply Kept.drewN | apply Kept.drew) | exact HK.out)⟩, ⟨qB⟩⟩
        · rw [if_neg c5] at H; exact absurd H (by simp)
      · rw [if_neg c3] at H; have c3b0 := decide_eq_false c3; clear c3; simp only [Option.some.injEq, Prod.mk.injEq] at H; obtain ⟨rfl, rfl⟩ := H; obtain ⟨Ao14, co14, eo14⟩ := Kd.R_slice HO_0.out; subst eo14; go_wp2; go_ret; exact ⟨qR, by (with_reducible repeat (first | apply Kd.Ral | apply Kd.RdN | apply Kd.R_drew)); exact HO_0.out, qB, by repeat (first | (with_reducible first | exact HK.out | apply Kept.alloc | apply Kept.drewN | apply Kept.drew) | exact HK.out)⟩
def laws_markValueS.l0 : Nat → List (S41) → Int → Int → Option (Int × (List (S41)))
  | 0, _, _, _ => none
  | k + 1, x0, x1, x5 => if x5 < (x0.length : Int) then (if 0 ≤ x5 then ((some (x0.set (x5 : Int).toNat (⟨x1, (rd_T41 x0 x5).f1, (rd_T41 x0 x5).f2⟩ : S41) : List (S41))).bind fun y507 => ((some (y507.set (x5 : Int).toNat (⟨(rd_T41 y507 x5).f0, wrap64 (x1 + 1), (rd_T41 y507 x5).f2⟩ : S41) : List (S41))).bind fun y508 => ((laws_markText.f k (wrap64 ((wrap64 (x1 + 1)) + 1))).bind fun t509 => (laws_markValueS.l0 k (y508.set (x5 : Int).toNat (⟨(rd_T41 y508 x5).f0, (rd_T41 y508 x5).f1, t509⟩ : S41)) (wrap64 ((wrap64 ((wrap64 (x1 + 1)) + 1)) + 1)) (wrap64 (x5 + 1)))))) else (none)) else (some (x1, x0))
def laws_markValueS.f (k : Nat) (l0 : List (S41)) (a1 : Int) : Option (Int × (List (S41))) := laws_markValueS.l0 k l0 a1 0
theorem laws_markValueS.mono_l : ∀ k, (∀ y0 y1 y2, LeO (laws_markValueS.l0 k y0 y1 y2) (laws_markValueS.l0 (k + 1) y0 y1 y2))
  | 0 => fun _ _ _ r h => by simp [laws_markValueS.l0] at h
  | k + 1 => by
    have ih0 := laws_markValueS.mono_l k
    · intro y0 y1 y2
      unfold laws_markValueS.l0
      repeat' first
        | (with_reducible first | exact ih0 .. | exact laws_markText.mono .. | exact LeO.refl _ | exact LeO.none _ | refine LeO.ite ?_ ?_ | refine LeO.bind ?_ (fun _ => ?_))
        | exact ih0 .. | exact laws_markText.mono .. | exact LeO.none _ | refine LeO.ite ?_ ?_ | refine LeO.bind ?_ (fun _ => ?_)
theorem laws_markValueS.mono : ∀ a0 a1 k, LeO (laws_markValueS.f k a0 a1) (laws_markValueS.f (k + 1) a0 a1) := by
  intro a0 a1 k
  have ih0 := laws_markValueS.mono_l k
  unfold laws_markValueS.f
  repeat' first
    | (with_reducible first | exact ih0 .. | exact laws_markText.mono .. | exact LeO.refl _ | exact LeO.none _ | refine LeO.ite ?_ ?_ | refine LeO.bind ?_ (fun _ => ?_))
    | exact ih0 .. | exact laws_markText.mono .. | exact LeO.none _ | refine LeO.ite ?_ ?_ | refine LeO.bind ?_ (fun _ => ?_)
set_option maxHeartbeats 8000000 in
set_option maxRecDepth 100000 in
theorem laws_markValueS.calls (k : Nat) (P0_ : Nat → Prop) (u9000_ : Value) (l0 : List (S41)) (a1 : Int) (r1 : Int) (r2 : List (S41)) (w0 w : World) (hB : Below w0.heap.size w0 w) (ho0 : Kd.R k41 41 w w0.heap.size P0_ u9000_ l0) (h : laws_markValueS.f k l0 a1 = some (r1, r2)) :
    Calls Tryd.prog 22 #[u9000_, .int .i64 a1] w fun e w' => e = .returned (.int .i64 r1) ∧ Kd.R k41 41 w' w0.heap.size (fun k_ => (P0_ k_ ∨ w.heap.size ≤ k_)) u9000_ r2 ∧ Below w0.heap.size w0 w' ∧ Kept w w' (fun k_ => P0_ k_) := by
  have HO0 := qK (show Kd.R k41 41 w w0.heap.size (fun k_ => (P0_ k_ ∨ w.heap.size ≤ k_)) u9000_ l0 from Kd.Rmo ho0 (fun k_ hk => (.inl hk))); have HK := qK (Kept.refl w (fun k_ => P0_ k_)); have HW0 := qK hB.size; have HB := qK hB; clear hB; have H : (laws_markValueS.l0 k l0 a1 0) = some (r1, r2) := h; clear h; have H' := qK H; clear H; go_enter Tryd.func22, Tryd.ntmps22; go_wp2; go_loopg [1, 5] k (fun kq v1 v5 w' => ∃ (x0_1 : List (S41)) (x1_1 : Int) (x5_1 : Int), v1 = .int .i64 x1_1 ∧ v5 = .int .i64 x5_1 ∧ Aside0 (laws_markValueS.l0 kq x0_1 x1_1 x5_1 = some (r1, r2)) ∧ Aside0 (kq ≤ k) ∧ Aside0 (Kd.R k41 41 w' w0.heap.size (fun k_ => (P0_ k_ ∨ w.heap.size ≤ k_)) u9000_ x0_1) ∧ Aside0 (Kept w w' (fun k_ => P0_ k_)) ∧ Aside0 (Below w0.heap.size w0 w'))
  case atStart => exact ⟨(l0), (a1), (0), qS, qS, H', ⟨Nat.le_refl _⟩, ⟨by (with_reducible repeat (first | apply Kd.Ral | apply Kd.RdN | apply Kd.R_drew)); exact HO0.out⟩, ⟨by repeat (first | (with_reducible first | exact HK.out | apply Kept.alloc | apply Kept.drewN | apply Kept.drew) | exact HK.out)⟩, ⟨qB⟩⟩
  case round =>
    clear H'; obtain ⟨x0_1, x1_1, x5_1, rfl, rfl, HA, HK1, HO_0, HK, HB⟩ := hrel
    cases gk with
    | zero => exact absurd HA.out (by simp [laws_markValueS.l0])
    | succ k1 =>
      have H := HA.out; clear HA; simp only [laws_markValueS.l0] at H; by_cases c3 : x5_1 < (x0_1.length : Int)
      · rw [if_pos c3] at H; have c3b0 := decide_eq_true c3; clear c3; by_cases c4 : 0 ≤ x5_1
        · rw [if_pos c4] at H; have c4b0 := decide_eq_true c4; clear c4; obtain ⟨y507, hy_⟩ : ∃ y_ : List (S41), y_ = (x0_1.set (x5_1 : Int).toNat (⟨x1_1, (rd_T41 x0_1 x5_1).f1, (rd_T41 x0_1 x5_1).f2⟩ : S41)) := ⟨_, rfl⟩; replace H : ((some (y507.set (x5_1 : Int).toNat (⟨(rd_T41 y507 x5_1).f0, wrap64 (x1_1 + 1), (rd_T41 y507 x5_1).f2⟩ : S41) : List (S41))).bind fun y508 => ((laws_markText.f k1 (wrap64 ((wrap64 (x1_1 + 1)) + 1))).bind fun t509 => (laws_markValueS.l0 k1 (y508.set (x5_1 : Int).toNat (⟨(rd_T41 y508 x5_1).f0, (rd_T41 y508 x5_1).f1, t509⟩ : S41)) (wrap64 ((wrap64 ((wrap64 (x1_1 + 1)) + 1)) + 1)) (wrap64 (x5_1 + 1))))) = some (r1, r2) := qh; have Ny507 := qK hy_; clear hy_; obtain ⟨y508, hy_⟩ : ∃ y_ : List (S41), y_ = (y507.set (x5_1 : Int).toNat (⟨(rd_T41 y507 x5_1).f0, wrap64 (x1_1 + 1), (rd_T41 y507 x5_1).f2⟩ : S41)) := ⟨_, rfl⟩; replace H : ((laws_markText.f k1 (wrap64 ((wrap64 (x1_1 + 1)) + 1))).bind fun t509 => (laws_markValueS.l0 k1 (y508.set (x5_1 : Int).toNat (⟨(rd_T41 y508 x5_1).f0, (rd_T41 y508 x5_1).f1, t509⟩ : S41)) (wrap64 ((wrap64 ((wrap64 (x1_1 + 1)) + 1)) + 1)) (wrap64 (x5_1 + 1)))) = some (r1, r2) := qh; have Ny508 := qK hy_; clear hy_; obtain ⟨t509, A7, H⟩ := qbi H; obtain ⟨y510, hy_⟩ : ∃ y_ : List (S41), y_ = (y508.set (x5_1 : Int).toNat (⟨(rd_T41 y508 x5_1).f0, (rd_T41 y508 x5_1).f1, t509⟩ : S41)) := ⟨_, rfl⟩; replace H : (laws_markValueS.l0 k1 y510 (wrap64 ((wrap64 ((wrap64 (x1_1 + 1)) + 1)) + 1)) (wrap64 (x5_1 + 1))) = some (r1, r2) := qh; have Ny510 := qK hy_; clear hy_; have H' := qK H; clear H; obtain ⟨Ao9, co9, eo9⟩ := Kd.R_slice HO_0.out; subst eo9; have p5 : 0 ≤ (x5_1 : Int) := of_decide_eq_true qa; have q5 : (x5_1 : Int) < ((x0_1.length : Int) : Int) := of_decide_eq_true qa; obtain ⟨go5, co5, eo5, gb5, gl5, cl5, HG5⟩ := Kd.R_form HO_0.out (by omega); (first | cases eo5 | (injection eo5 with ea_ en_ ec_; (first | subst ea_ | (injection ea_ with ea_; subst ea_)); subst ec_; clear en_)); have GB5 := qK gb5; have GG5 := qK HG5; clear gb5 gl5 HG5; have HMgo5 := qK (show (P0_ go5 ∨ w.heap.size ≤ go5) from (HO_0.out.1 _ rfl)); obtain ⟨ce5, hcl5, hM5, hcc5, hfr5⟩ := Kd.R_elem HO_0.out z41 (x5_1 : Int) p5 q5; obtain rfl := k41_openM hM5; have hx5_0 : wr.cell? ⟨go5, (x5_1 : Int).toNat * 3, none⟩ = some (.int .i64 ((rd_T41 x0_1 x5_1).f0)) := hcc5 0 _ rfl; have hx5_1 : wr.cell? ⟨go5, (x5_1 : Int).toNat * 3 + 1, none⟩ = some (.int .i64 ((rd_T41 x0_1 x5_1).f1)) := hcc5 1 _ rfl; have hx5_2 : wr.cell? ⟨go5, (x5_1 : Int).toNat * 3 + 2, none⟩ = some (.string ((rd_T41 x0_1 x5_1).f2)) := hcc5 2 _ rfl; have hf5_0 : wr.frozen? ⟨go5, (x5_1 : Int).toNat * 3, none⟩ = false := hfr5 0; have hf5_1 : wr.frozen? ⟨go5, (x5_1 : Int).toNat * 3 + 1, none⟩ = false := hfr5 1; have hf5_2 : wr.frozen? ⟨go5, (x5_1 : Int).toNat * 3 + 2, none⟩ = false := hfr5 2; clear hcl5 hcc5 hfr5; (try clear hM5); replace p5 := eq_true p5; replace q5 := eq_true q5; have HX10 := qK (show Kd.R k41 41 wr w0.heap.size (fun k_ => (P0_ k_ ∨ w.heap.size ≤ k_)) (.slice (some ⟨go5, 0, none⟩) x0_1.length co9) x0_1 from (qRb HO_0)); obtain ⟨ce10, hcl10, hM10, hcc10, hfr10⟩ := Kd.R_elem HX10.out z41 (x5_1 : Int) (of_decide_eq_true qa) (by have h_ : (x5_1 : Int) < ((x0_1.length : Int) : Int) := of_decide_eq_true qa; first | exact h_ | (have e_ := (Kd.R_reads' HO_0.out).1; omega) | simpa using h_); obtain rfl := k41_openM hM10; have HP10 := Kd.R_seg HX10.out (x5_1 : Int) (of_decide_eq_true qa) (by have h_ : (x5_1 : Int) < ((x0_1.length : Int) : Int) := of_decide_eq_true qa; first | exact h_ | (have e_ := (Kd.R_reads' HO_0.out).1; omega) | simpa using h_) (seg := [.int .i64 x1_1]) (j := 0) hcl10 hcc10 (show 1 ≤ 3 from by decide) (x' := (⟨x1_1, (rd_T41 x0_1 x5_1).f1, (rd_T41 x0_1 x5_1).f2⟩ : S41)) (k41_mkM _ _ _ (⟨x1_1, (rd_T41 x0_1 x5_1).f1, (rd_T41 x0_1 x5_1).f2⟩ : S41) ) (fun _ hk => hk); have hx10_0 := hcc10 0 _ rfl; (try simp only [show (k41).sz = 3 from rfl, Nat.mul_one, Nat.add_zero] at hx10_0); have hf10_0 := hfr10 0; (try simp only [show (k41).sz = 3 from rfl, Nat.mul_one, Nat.add_zero] at hf10_0); clear hcl10 hcc10 hfr10; (try clear hM10); go_wp2_with (first | ((with_reducible refine gst (t := 3) (p := 16) rfl ?_); refine ste (t := 3) (p := 16) (v := ?vo_w11) (w1 := (wr.setCell ⟨go5, (x5_1 : Int).toNat * 3, none⟩ (.int .i64 x1_1))) ?hg ?ho ?hn ?hr ?_; (case ho => rfl); (case hg => rfl); (case hn => rfl); (case hr => first | (go_simp; done) | (go_simp; rfl)); intro w11 hw; have hg : wr.grownBy w11 (some go5) := (by rw [hw]; exact HP10.2); have hp_ : Kd.R k41 41 w11 w0.heap.size (fun k_ => (P0_ k_ ∨ w.heap.size ≤ k_)) (.slice (some ⟨go5, 0, none⟩) x0_1.length co9) y507 := (by rw [hw, Ny507.out]; exact HP10.1); clear HP10; replace HB := qK ((by rw [hw]; exact bse (HB.out) GB5.out : Below w0.heap.size w0 w11)); replace HK := qK (Kept.of_grown (S := (fun k_ => P0_ k_)) hg (by repeat (first | (with_reducible first | exact HK.out | apply Kept.alloc | apply Kept.drewN | apply Kept.drew) | exact HK.out)) (fun k_ e_ => (HO_0.out.1 k_ e_))); replace HO_0 := qK (hp_); clear hg hw hp_; have p6 : 0 ≤ (x5_1 : Int) := of_decide_eq_true qa; have q6 : (x5_1 : Int) < ((x0_1.length : Int) : Int) := of_decide_eq_true qa; obtain ⟨ce6, hcl6, hM6, hcc6, hfr6⟩ := Kd.R_elem HO_0.out z41 (x5_1 : Int) p6 q6; obtain rfl := k41_openM hM6; have hx6_0 : w11.cell? ⟨go5, (x5_1 : Int).toNat * 3, none⟩ = some (.int .i64 ((rd_T41 y507 x5_1).f0)) := hcc6 0 _ rfl; have hx6_1 : w11.cell? ⟨go5, (x5_1 : Int).toNat * 3 + 1, none⟩ = some (.int .i64 ((rd_T41 y507 x5_1).f1)) := hcc6 1 _ rfl; have hx6_2 : w11.cell? ⟨go5, (x5_1 : Int).toNat * 3 + 2, none⟩ = some (.string ((rd_T41 y507 x5_1).f2)) := hcc6 2 _ rfl; have hf6_0 : w11.frozen? ⟨go5, (x5_1 : Int).toNat * 3, none⟩ = false := hfr6 0; have hf6_1 : w11.frozen? ⟨go5, (x5_1 : Int).toNat * 3 + 1, none⟩ = false := hfr6 1; have hf6_2 : w11.frozen? ⟨go5, (x5_1 : Int).toNat * 3 + 2, none⟩ = false := hfr6 2; clear hcl6 hcc6 hfr6; (try clear hM6); replace p6 := eq_true p6; replace q6 := eq_true q6; have HX12 := qK (show Kd.R k41 41 w11 w0.heap.size (fun k_ => (P0_ k_ ∨ w.heap.size ≤ k_)) (.slice (some ⟨go5, 0, none⟩) x0_1.length co9) y507 from (qRb HO_0)); obtain ⟨ce12, hcl12, hM12, hcc12, hfr12⟩ := Kd.R_elem HX12.out z41 (x5_1 : Int) (of_decide_eq_true qa) (by have h_ : (x5_1 : Int) < ((x0_1.length : Int) : Int) := of_decide_eq_true qa; first | exact h_ | (have e_ := (Kd.R_reads' HO_0.out).1; omega) | simpa using h_); obtain rfl := k41_openM hM12; have HP12 := Kd.R_seg HX12.out (x5_1 : Int) (of_decide_eq_true qa) (by have h_ : (x5_1 : Int) < ((x0_1.length : Int) : Int) := of_decide_eq_true qa; first | exact h_ | (have e_ := (Kd.R_reads' HO_0.out).1; omega) | simpa using h_) (seg := [.int .i64 (wrap64 (x1_1 + 1))]) (j := 1) hcl12 hcc12 (show 2 ≤ 3 from by decide) (x' := (⟨(rd_T41 y507 x5_1).f0, wrap64 (x1_1 + 1), (rd_T41 y507 x5_1).f2⟩ : S41)) (k41_mkM _ _ _ (⟨(rd_T41 y507 x5_1).f0, wrap64 (x1_1 + 1), (rd_T41 y507 x5_1).f2⟩ : S41) ) (fun _ hk => hk); have hx12_1 := hcc12 1 _ rfl; (try simp only [show (k41).sz = 3 from rfl, Nat.mul_one, Nat.add_zero] at hx12_1); have hf12_1 := hfr12 1; (try simp only [show (k41).sz = 3 from rfl, Nat.mul_one, Nat.add_zero] at hf12_1); clear hcl12 hcc12 hfr12; (try clear hM12)) | ((with_reducible refine gst (t := 3) (p := 23) rfl ?_); refine ste (t := 3) (p := 23) (v := ?vo_w13) (w1 := (w11.setCell ⟨go5, (x5_1 : Int).toNat * 3 + 1, none⟩ (.int .i64 (wrap64 (x1_1 + 1))))) ?hg ?ho ?hn ?hr ?_; (case ho => rfl); (case hg => rfl); (case hn => rfl); (case hr => first | (go_simp; done) | (go_simp; rfl)); intro w13 hw; have hg : w11.grownBy w13 (some go5) := (by rw [hw]; exact HP12.2); have hp_ : Kd.R k41 41 w13 w0.heap.size (fun k_ => (P0_ k_ ∨ w.heap.size ≤ k_)) (.slice (some ⟨go5, 0, none⟩) x0_1.length co9) y508 := (by rw [hw, Ny508.out]; exact HP12.1); clear HP12; replace HB := qK ((by rw [hw]; exact bse (HB.out) GB5.out : Below w0.heap.size w0 w13)); replace HK := qK (Kept.of_grown (S := (fun k_ => P0_ k_)) hg (by repeat (first | (with_reducible first | exact HK.out | apply Kept.alloc | apply Kept.drewN | apply Kept.drew) | exact HK.out)) (fun k_ e_ => (HO_0.out.1 k_ e_))); replace HO_0 := qK (hp_); clear hg hw hp_) | ((with_reducible refine gcl (f := 44) rfl ?_); refine gL 29 Tryd.func44 #[.int .i64 (wrap64 ((wrap64 (x1_1 + 1)) + 1))] ?_; (with_reducible refine (laws_markText.calls k1 (wrap64 ((wrap64 (x1_1 + 1)) + 1)) t509 _ A7.out).mono ?_); rintro e w14 ⟨rfl, hb⟩; refine ⟨_, rfl, ?_⟩; replace HO_0 := qK (Kd.Rbe (qRb HO_0) hb); replace HK := qK (Kept.below (S := (fun k_ => P0_ k_)) (by repeat (first | (with_reducible first | exact HK.out | apply Kept.alloc | apply Kept.drewN | apply Kept.drew) | exact HK.out)) hb); replace HB := qHB HB hb; (try clear hb); (try clear hk); have p8 : 0 ≤ (x5_1 : Int) := of_decide_eq_true qa; have q8 : (x5_1 : Int) < ((x0_1.length : Int) : Int) := of_decide_eq_true qa; obtain ⟨ce8, hcl8, hM8, hcc8, hfr8⟩ := Kd.R_elem HO_0.out z41 (x5_1 : Int) p8 q8; obtain rfl := k41_openM hM8; have hx8_0 : w14.cell? ⟨go5, (x5_1 : Int).toNat * 3, none⟩ = some (.int .i64 ((rd_T41 y508 x5_1).f0)) := hcc8 0 _ rfl; have hx8_1 : w14.cell? ⟨go5, (x5_1 : Int).toNat * 3 + 1, none⟩ = some (.int .i64 ((rd_T41 y508 x5_1).f1)) := hcc8 1 _ rfl; have hx8_2 : w14.cell? ⟨go5, (x5_1 : Int).toNat * 3 + 2, none⟩ = some (.string ((rd_T41 y508 x5_1).f2)) := hcc8 2 _ rfl; have hf8_0 : w14.frozen? ⟨go5, (x5_1 : Int).toNat * 3, none⟩ = false := hfr8 0; have hf8_1 : w14.frozen? ⟨go5, (x5_1 : Int).toNat * 3 + 1, none⟩ = false := hfr8 1; have hf8_2 : w14.frozen? ⟨go5, (x5_1 : Int).toNat * 3 + 2, none⟩ = false := hfr8 2; clear hcl8 hcc8 hfr8; (try clear hM8); replace p8 := eq_true p8; replace q8 := eq_true q8; have HX15 := qK (show Kd.R k41 41 w14 w0.heap.size (fun k_ => (P0_ k_ ∨ w.heap.size ≤ k_)) (.slice (some ⟨go5, 0, none⟩) x0_1.length co9) y508 from (qRb HO_0)); obtain ⟨ce15, hcl15, hM15, hcc15, hfr15⟩ := Kd.R_elem HX15.out z41 (x5_1 : Int) (of_decide_eq_true qa) (by have h_ : (x5_1 : Int) < ((x0_1.length : Int) : Int) := of_decide_eq_true qa; first | exact h_ | (have e_ := (Kd.R_reads' HO_0.out).1; omega) | simpa using h_); obtain rfl := k41_openM hM15; have HP15 := Kd.R_seg HX15.out (x5_1 : Int) (of_decide_eq_true qa) (by have h_ : (x5_1 : Int) < ((x0_1.length : Int) : Int) := of_decide_eq_true qa; first | exact h_ | (have e_ := (Kd.R_reads' HO_0.out).1; omega) | simpa using h_) (seg := [.string t509]) (j := 2) hcl15 hcc15 (show 3 ≤ 3 from by decide) (x' := (⟨(rd_T41 y508 x5_1).f0, (rd_T41 y508 x5_1).f1, t509⟩ : S41)) (k41_mkM _ _ _ (⟨(rd_T41 y508 x5_1).f0, (rd_T41 y508 x5_1).f1, t509⟩ : S41) ) (fun _ hk => hk); have hx15_2 := hcc15 2 _ rfl; (try simp only [show (k41).sz = 3 from rfl, Nat.mul_one, Nat.add_zero] at hx15_2); have hf15_2 := hfr15 2; (try simp only [show (k41).sz = 3 from rfl, Nat.mul_one, Nat.add_zero] at hf15_2); clear hcl15 hcc15 hfr15; (try clear hM15)) | ((with_reducible refine gst (t := 9) (p := 31) rfl ?_); refine ste (t := 9) (p := 31) (v := ?vo_w16) (w1 := (w14.setCell ⟨go5, (x5_1 : Int).toNat * 3 + 2, none⟩ (.string t509))) ?hg ?ho ?hn ?hr ?_; (case ho => rfl); (case hg => rfl); (case hn => rfl); (case hr => first | (go_simp; done) | (go_simp; rfl)); intro w16 hw; have hg : w14.grownBy w16 (some go5) := (by rw [hw]; exact HP15.2); have hp_ : Kd.R k41 41 w16 w0.heap.size (fun k_ => (P0_ k_ ∨ w.heap.size ≤ k_)) (.slice (some ⟨go5, 0, none⟩) x0_1.length co9) y510 := (by rw [hw, Ny510.out]; exact HP15.1); clear HP15; replace HB := qK ((by rw [hw]; exact bse (HB.out) GB5.out : Below w0.heap.size w0 w16)); replace HK := qK (Kept.of_grown (S := (fun k_ => P0_ k_)) hg (by repeat (first | (with_reducible first | exact HK.out | apply Kept.alloc | apply Kept.drewN | apply Kept.drew) | exact HK.out)) (fun k_ e_ => (HO_0.out.1 k_ e_))); replace HO_0 := qK (hp_); clear hg hw hp_)); go_roundg k1
          case measure => have := HK1.out; omega
          case rel => exact ⟨(y510), (wrap64 ((wrap64 ((wrap64 (x1_1 + 1)) + 1)) + 1)), (wrap64 (x5_1 + 1)), qS, qS, H', ⟨by have := HK1.out; omega⟩, ⟨by (with_reducible repeat (first | apply Kd.Ral | apply Kd.RdN | apply Kd.R_drew)); exact HO_0.out⟩, ⟨by repeat (first | (with_reducible first | exact HK.out | apply Kept.alloc | apply Kept.drewN | apply Kept.drew) | exact HK.out)⟩, ⟨qB⟩⟩
        · rw [if_neg c4] at H; exact absurd H (by simp)
      · rw [if_neg c3] at H; have c3b0 := decide_eq_false c3; clear c3; simp only [Option.some.injEq, Prod.mk.injEq] at H; obtain ⟨rfl, rfl⟩ := H; obtain ⟨Ao17, co17, eo17⟩ := Kd.R_slice HO_0.out; subst eo17; go_wp2; go_ret; exact ⟨qR, by (with_reducible repeat (first | apply Kd.Ral | apply Kd.RdN | apply Kd.R_drew)); exact HO_0.out, qB, by repeat (first | (with_reducible first | exact HK.out | apply Kept.alloc | apply Kept.drewN | apply Kept.drew) | exact HK.out)⟩
def laws_markItemS.l0 : Nat → List (S57) → Int → Int → Option (Int × (List (S57)))
  | 0, _, _, _ => none
  | k + 1, x0, x1, x5 => if x5 < (x0.length : Int) then (if 0 ≤ x5 then ((some (x0.set (x5 : Int).toNat (⟨x1, (rd_T57 x0 x5).f1, (rd_T57 x0 x5).f2⟩ : S57) : List (S57))).bind fun y511 => ((some (y511.set (x5 : Int).toNat (⟨(rd_T57 y511 x5).f0, wrap64 (x1 + 1), (rd_T57 y511 x5).f2⟩ : S57) : List (S57))).bind fun y512 => ((laws_markText.f k (wrap64 ((wrap64 (x1 + 1)) + 1))).bind fun t513 => (laws_markItemS.l0 k (y512.set (x5 : Int).toNat (⟨(rd_T57 y512 x5).f0, (rd_T57 y512 x5).f1, t513⟩ : S57)) (wrap64 ((wrap64 ((wrap64 (x1 + 1)) + 1)) + 1)) (wrap64 (x5 + 1)))))) else (none)) else (some (x1, x0))
def laws_markItemS.f (k : Nat) (l0 : List (S57)) (a1 : Int) : Option (Int × (List (S57))) := laws_markItemS.l0 k l0 a1 0
theorem laws_markItemS.mono_l : ∀ k, (∀ y0 y1 y2, LeO (laws_markItemS.l0 k y0 y1 y2) (laws_markItemS.l0 (k + 1) y0 y1 y2))
  | 0 => fun _ _ _ r h => by simp [laws_markItemS.l0] at h
  | k + 1 => by
    have ih0 := laws_markItemS.mono_l k
    · intro y0 y1 y2
      unfold laws_markItemS.l0
      repeat' first
        | (with_reducible first | exact ih0 .. | exact laws_markText.mono .. | exact LeO.refl _ | exact LeO.none _ | refine LeO.ite ?_ ?_ | refine LeO.bind ?_ (fun _ => ?_))
        | exact ih0 .. | exact laws_markText.mono .. | exact LeO.none _ | refine LeO.ite ?_ ?_ | refine LeO.bind ?_ (fun _ => ?_)
theorem laws_markItemS.mono : ∀ a0 a1 k, LeO (laws_markItemS.f k a0 a1) (laws_markItemS.f (k + 1) a0 a1) := by
  intro a0 a1 k
  have ih0 := laws_markItemS.mono_l k
  unfold laws_markItemS.f
  repeat' first
    | (with_reducible first | exact ih0 .. | exact laws_markText.mono .. | exact LeO.refl _ | exact LeO.none _ | refine LeO.ite ?_ ?_ | refine LeO.bind ?_ (fun _ => ?_))
    | exact ih0 .. | exact laws_markText.mono .. | exact LeO.none _ | refine LeO.ite ?_ ?_ | refine LeO.bind ?_ (fun _ => ?_)
set_option maxHeartbeats 8000000 in
set_option maxRecDepth 100000 in
theorem laws_markItemS.calls (k : Nat) (P0_ : Nat → Prop) (u9000_ : Value) (l0 : List (S57)) (a1 : Int) (r1 : Int) (r2 : List (S57)) (w0 w : World) (hB : Below w0.heap.size w0 w) (ho0 : Kd.R k57 57 w w0.heap.size P0_ u9000_ l0) (h : laws_markItemS.f k l0 a1 = some (r1, r2)) :
    Calls Tryd.prog 23 #[u9000_, .int .i64 a1] w fun e w' => e = .returned (.int .i64 r1) ∧ Kd.R k57 57 w' w0.heap.size (fun k_ => (P0_ k_ ∨ w.heap.size ≤ k_)) u9000_ r2 ∧ Below w0.heap.size w0 w' ∧ Kept w w' (fun k_ => P0_ k_) := by
  have HO0 := qK (show Kd.R k57 57 w w0.heap.size (fun k_ => (P0_ k_ ∨ w.heap.size ≤ k_)) u9000_ l0 from Kd.Rmo ho0 (fun k_ hk => (.inl hk))); have HK := qK (Kept.refl w (fun k_ => P0_ k_)); have HW0 := qK hB.size; have HB := qK hB; clear hB; have H : (laws_markItemS.l0 k l0 a1 0) = some (r1, r2) := h; clear h; have H' := qK H; clear H; go_enter Tryd.func23, Tryd.ntmps23; go_wp2; go_loopg [1, 5] k (fun kq v1 v5 w' => ∃ (x0_1 : List (S57)) (x1_1 : Int) (x5_1 : Int), v1 = .int .i64 x1_1 ∧ v5 = .int .i64 x5_1 ∧ Aside0 (laws_markItemS.l0 kq x0_1 x1_1 x5_1 = some (r1, r2)) ∧ Aside0 (kq ≤ k) ∧ Aside0 (Kd.R k57 57 w' w0.heap.size (fun k_ => (P0_ k_ ∨ w.heap.size ≤ k_)) u9000_ x0_1) ∧ Aside0 (Kept w w' (fun k_ => P0_ k_)) ∧ Aside0 (Below w0.heap.size w0 w'))
  case atStart => exact ⟨(l0), (a1), (0), qS, qS, H', ⟨Nat.le_refl _⟩, ⟨by (with_reducible repeat (first | apply Kd.Ral | apply Kd.RdN | apply Kd.R_drew)); exact HO0.out⟩, ⟨by repeat (first | (with_reducible first | exact HK.out | apply Kept.alloc | apply Kept.drewN | apply Kept.drew) | exact HK.out)⟩, ⟨qB⟩⟩
  case round =>
    clear H'; obtain ⟨x0_1, x1_1, x5_1, rfl, rfl, HA, HK1, HO_0, HK, HB⟩ := hrel
    cases gk with
    | zero => exact absurd HA.out (by simp [laws_markItemS.l0])
    | succ k1 =>
      have H := HA.out; clear HA; simp only [laws_markItemS.l0] at H; by_cases c3 : x5_1 < (x0_1.length : Int)
      · rw [if_pos c3] at H; have c3b0 := decide_eq_true c3; clear c3; by_cases c4 : 0 ≤ x5_1
        · rw [if_pos c4] at H; have c4b0 := decide_eq_true c4; clear c4; obtain ⟨y511, hy_⟩ : ∃ y_ : List (S57), y_ = (x0_1.set (x5_1 : Int).toNat (⟨x1_1, (rd_T57 x0_1 x5_1).f1, (rd_T57 x0_1 x5_1).f2⟩ : S57)) := ⟨_, rfl⟩; replace H : ((some (y511.set (x5_1 : Int).toNat (⟨(rd_T57 y511 x5_1).f0, wrap64 (x1_1 + 1), (rd_T57 y511 x5_1).f2⟩ : S57) : List (S57))).bind fun y512 => ((laws_markText.f k1 (wrap64 ((wrap64 (x1_1 + 1)) + 1))).bind fun t513 => (laws_markItemS.l0 k1 (y512.set (x5_1 : Int).toNat (⟨(rd_T57 y512 x5_1).f0, (rd_T57 y512 x5_1).f1, t513⟩ : S57)) (wrap64 ((wrap64 ((wrap64 (x1_1 + 1)) + 1)) + 1)) (wrap64 (x5_1 + 1))))) = some (r1, r2) := qh; have Ny511 := qK hy_; clear hy_; obtain ⟨y512, hy_⟩ : ∃ y_ : List (S57), y_ = (y511.set (x5_1 : Int).toNat (⟨(rd_T57 y511 x5_1).f0, wrap64 (x1_1 + 1), (rd_T57 y511 x5_1).f2⟩ : S57)) := ⟨_, rfl⟩; replace H : ((laws_markText.f k1 (wrap64 ((wrap64 (x1_1 + 1)) + 1))).bind fun t513 => (laws_markItemS.l0 k1 (y512.set (x5_1 : Int).toNat (⟨(rd_T57 y512 x5_1).f0, (rd_T57 y512 x5_1).f1, t513⟩ : S57)) (wrap64 ((wrap64 ((wrap64 (x1_1 + 1)) + 1)) + 1)) (wrap64 (x5_1 + 1)))) = some (r1, r2) := qh; have Ny512 := qK hy_; clear hy_; obtain ⟨t513, A7, H⟩ := qbi H; obtain ⟨y514, hy_⟩ : ∃ y_ : List (S57), y_ = (y512.set (x5_1 : Int).toNat (⟨(rd_T57 y512 x5_1).f0, (rd_T57 y512 x5_1).f1, t513⟩ : S57)) := ⟨_, rfl⟩; replace H : (laws_markItemS.l0 k1 y514 (wrap64 ((wrap64 ((wrap64 (x1_1 + 1)) + 1)) + 1)) (wrap64 (x5_1 + 1))) = some (r1, r2) := qh; have Ny514 := qK hy_; clear hy_; have H' := qK H; clear H; obtain ⟨Ao9, co9, eo9⟩ := Kd.R_slice HO_0.out; subst eo9; have p5 : 0 ≤ (x5_1 : Int) := of_decide_eq_true qa; have q5 : (x5_1 : Int) < ((x0_1.length : Int) : Int) := of_decide_eq_true qa; obtain ⟨go5, co5, eo5, gb5, gl5, cl5, HG5⟩ := Kd.R_form HO_0.out (by omega); (first | cases eo5 | (injection eo5 with ea_ en_ ec_; (first | subst ea_ | (injection ea_ with ea_; subst ea_)); subst ec_; clear en_)); have GB5 := qK gb5; have GG5 := qK HG5; clear gb5 gl5 HG5; have HMgo5 := qK (show (P0_ go5 ∨ w.heap.size ≤ go5) from (HO_0.out.1 _ rfl)); obtain ⟨ce5, hcl5, hM5, hcc5, hfr5⟩ := Kd.R_elem HO_0.out z57 (x5_1 : Int) p5 q5; obtain rfl := k57_openM hM5; have hx5_0 : wr.cell? ⟨go5, (x5_1 : Int).toNat * 3, none⟩ = some (.int .i64 ((rd_T57 x0_1 x5_1).f0)) := hcc5 0 _ rfl; have hx5_1 : wr.cell? ⟨go5, (x5_1 : Int).toNat * 3 + 1, none⟩ = some (.int .i64 ((rd_T57 x0_1 x5_1).f1)) := hcc5 1 _ rfl; have hx5_2 : wr.cell? ⟨go5, (x5_1 : Int).toNat * 3 + 2, none⟩ = some (.string ((rd_T57 x0_1 x5_1).f2)) := hcc5 2 _ rfl; have hf5_0 : wr.frozen? ⟨go5, (x5_1 : Int).toNat * 3, none⟩ = false := hfr5 0; have hf5_1 : wr.frozen? ⟨go5, (x5_1 : Int).toNat * 3 + 1, none⟩ = false := hfr5 1; have hf5_2 : wr.frozen? ⟨go5, (x5_1 : Int).toNat * 3 + 2, none⟩ = false := hfr5 2; clear hcl5 hcc5 hfr5; (try clear hM5); replace p5 := eq_true p5; replace q5 := eq_true q5; have HX10 := qK (show Kd.R k57 57 wr w0.heap.size (fun k_ => (P0_ k_ ∨ w.heap.size ≤ k_)) (.slice (some ⟨go5, 0, none⟩) x0_1.length co9) x0_1 from (qRb HO_0)); obtain ⟨ce10, hcl10, hM10, hcc10, hfr10⟩ := Kd.R_elem HX10.out z57 (x5_1 : Int) (of_decide_eq_true qa) (by have h_ : (x5_1 : Int) < ((x0_1.length : Int) : Int) := of_decide_eq_true qa; first | exact h_ | (have e_ := (Kd.R_reads' HO_0.out).1; omega) | simpa using h_); obtain rfl := k57_openM hM10; have HP10 := Kd.R_seg HX10.out (x5_1 : Int) (of_decide_eq_true qa) (by have h_ : (x5_1 : Int) < ((x0_1.length : Int) : Int) := of_decide_eq_true qa; first | exact h_ | (have e_ := (Kd.R_reads' HO_0.out).1; omega) | simpa using h_) (seg := [.int .i64 x1_1]) (j := 0) hcl10 hcc10 (show 1 ≤ 3 from by decide) (x' := (⟨x1_1, (rd_T57 x0_1 x5_1).f1, (rd_T57 x0_1 x5_1).f2⟩ : S57)) (k57_mkM _ _ _ (⟨x1_1, (rd_T57 x0_1 x5_1).f1, (rd_T57 x0_1 x5_1).f2⟩ : S57) ) (fun _ hk => hk); have hx10_0 := hcc10 0 _ rfl; (try simp only [show (k57).sz = 3 from rfl, Nat.mul_one, Nat.add_zero] at hx10_0); have hf10_0 := hfr10 0; (try simp only [show (k57).sz = 3 from rfl, Nat.mul_one, Nat.add_zero] at hf10_0); clear hcl10 hcc10 hfr10; (try clear hM10); go_wp2_with (first | ((with_reducible refine gst (t := 3) (p := 16) rfl ?_); refine ste (t := 3) (p := 16) (v := ?vo_w11) (w1 := (wr.setCell ⟨go5, (x5_1 : Int).toNat * 3, none⟩ (.int .i64 x1_1))) ?hg ?ho ?hn ?hr ?_; (case ho => rfl); (case hg => rfl); (case hn => rfl); (case hr => first | (go_simp; done) | (go_simp; rfl)); intro w11 hw; have hg : wr.grownBy w11 (some go5) := (by rw [hw]; exact HP10.2); have hp_ : Kd.R k57 57 w11 w0.heap.size (fun k_ => (P0_ k_ ∨ w.heap.size ≤ k_)) (.slice (some ⟨go5, 0, none⟩) x0_1.length co9) y511 := (by rw [hw, Ny511.out]; exact HP10.1); clear HP10; replace HB := qK ((by rw [hw]; exact bse (HB.out) GB5.out : Below w0.heap.size w0 w11)); replace HK := qK (Kept.of_grown (S := (fun k_ => P0_ k_)) hg (by repeat (first | (with_reducible first | exact HK.out | apply Kept.alloc | apply Kept.drewN | apply Kept.drew) | exact HK.out)) (fun k_ e_ => (HO_0.out.1 k_ e_))); replace HO_0 := qK (hp_); clear hg hw hp_; have p6 : 0 ≤ (x5_1 : Int) := of_decide_eq_true qa; have q6 : (x5_1 : Int) < ((x0_1.length : Int) : Int) := of_decide_eq_true qa; obtain ⟨ce6, hcl6, hM6, hcc6, hfr6⟩ := Kd.R_elem HO_0.out z57 (x5_1 : Int) p6 q6; obtain rfl := k57_openM hM6; have hx6_0 : w11.cell? ⟨go5, (x5_1 : Int).toNat * 3, none⟩ = some (.int .i64 ((rd_T57 y511 x5_1).f0)) := hcc6 0 _ rfl; have hx6_1 : w11.cell? ⟨go5, (x5_1 : Int).toNat * 3 + 1, none⟩ = some (.int .i64 ((rd_T57 y511 x5_1).f1)) := hcc6 1 _ rfl; have hx6_2 : w11.cell? ⟨go5, (x5_1 : Int).toNat * 3 + 2, none⟩ = some (.string ((rd_T57 y511 x5_1).f2)) := hcc6 2 _ rfl; have hf6_0 : w11.frozen? ⟨go5, (x5_1 : Int).toNat * 3, none⟩ = false := hfr6 0; have hf6_1 : w11.frozen? ⟨go5, (x5_1 : Int).toNat * 3 + 1, none⟩ = false := hfr6 1; have hf6_2 : w11.frozen? ⟨go5, (x5_1 : Int).toNat * 3 + 2, none⟩ = false := hfr6 2; clear hcl6 hcc6 hfr6; (try clear hM6); replace p6 := eq_true p6; replace q6 := eq_true q6; have HX12 := qK (show Kd.R k57 57 w11 w0.heap.size (fun k_ => (P0_ k_ ∨ w.heap.size ≤ k_)) (.slice (some ⟨go5, 0, none⟩) x0_1.length co9) y511 from (qRb HO_0)); obtain ⟨ce12, hcl12, hM12, hcc12, hfr12⟩ := Kd.R_elem HX12.out z57 (x5_1 : Int) (of_decide_eq_true qa) (by have h_ : (x5_1 : Int) < ((x0_1.length : Int) : Int) := of_decide_eq_true qa; first | exact h_ | (have e_ := (Kd.R_reads' HO_0.out).1; omega) | simpa using h_); obtain rfl := k57_openM hM12; have HP12 := Kd.R_seg HX12.out (x5_1 : Int) (of_decide_eq_true qa) (by have h_ : (x5_1 : Int) < ((x0_1.length : Int) : Int) := of_decide_eq_true qa; first | exact h_ | (have e_ := (Kd.R_reads' HO_0.out).1; omega) | simpa using h_) (seg := [.int .i64 (wrap64 (x1_1 + 1))]) (j := 1) hcl12 hcc12 (show 2 ≤ 3 from by decide) (x' := (⟨(rd_T57 y511 x5_1).f0, wrap64 (x1_1 + 1), (rd_T57 y511 x5_1).f2⟩ : S57)) (k57_mkM _ _ _ (⟨(rd_T57 y511 x5_1).f0, wrap64 (x1_1 + 1), (rd_T57 y511 x5_1).f2⟩ : S57) ) (fun _ hk => hk); have hx12_1 := hcc12 1 _ rfl; (try simp only [show (k57).sz = 3 from rfl, Nat.mul_one, Nat.add_zero] at hx12_1); have hf12_1 := hfr12 1; (try simp only [show (k57).sz = 3 from rfl, Nat.mul_one, Nat.add_zero] at hf12_1); clear hcl12 hcc12 hfr12; (try clear hM12)) | ((with_reducible refine gst (t := 3) (p := 23) rfl ?_); refine ste (t := 3) (p := 23) (v := ?vo_w13) (w1 := (w11.setCell ⟨go5, (x5_1 : Int).toNat * 3 + 1, none⟩ (.int .i64 (wrap64 (x1_1 + 1))))) ?hg ?ho ?hn ?hr ?_; (case ho => rfl); (case hg => rfl); (case hn => rfl); (case hr => first | (go_simp; done) | (go_simp; rfl)); intro w13 hw; have hg : w11.grownBy w13 (some go5) := (by rw [hw]; exact HP12.2); have hp_ : Kd.R k57 57 w13 w0.heap.size (fun k_ => (P0_ k_ ∨ w.heap.size ≤ k_)) (.slice (some ⟨go5, 0, none⟩) x0_1.length co9) y512 := (by rw [hw, Ny512.out]; exact HP12.1); clear HP12; replace HB := qK ((by rw [hw]; exact bse (HB.out) GB5.out : Below w0.heap.size w0 w13)); replace HK := qK (Kept.of_grown (S := (fun k_ => P0_ k_)) hg (by repeat (first | (with_reducible first | exact HK.out | apply Kept.alloc | apply Kept.drewN | apply Kept.drew) | exact HK.out)) (fun k_ e_ => (HO_0.out.1 k_ e_))); replace HO_0 := qK (hp_); clear hg hw hp_) | ((with_reducible refine gcl (f := 44) rfl ?_); refine gL 29 Tryd.func44 #[.int .i64 (wrap64 ((wrap64 (x1_1 + 1)) + 1))] ?_; (with_reducible refine (laws_markText.calls k1 (wrap64 ((wrap64 (x1_1 + 1)) + 1)) t513 _ A7.out).mono ?_); rintro e w14 ⟨rfl, hb⟩; refine ⟨_, rfl, ?_⟩; replace HO_0 := qK (Kd.Rbe (qRb HO_0) hb); replace HK := qK (Kept.below (S := (fun k_ => P0_ k_)) (by repeat (first | (with_reducible first | exact HK.out | apply Kept.alloc | apply Kept.drewN | apply Kept.drew) | exact HK.out)) hb); replace HB := qHB HB hb; (try clear hb); (try clear hk); have p8 : 0 ≤ (x5_1 : Int) := of_decide_eq_true qa; have q8 : (x5_1 : Int) < ((x0_1.length : Int) : Int) := of_decide_eq_true qa; obtain ⟨ce8, hcl8, hM8, hcc8, hfr8⟩ := Kd.R_elem HO_0.out z57 (x5_1 : Int) p8 q8; obtain rfl := k57_openM hM8; have hx8_0 : w14.cell? ⟨go5, (x5_1 : Int).toNat * 3, none⟩ = some (.int .i64 ((rd_T57 y512 x5_1).f0)) := hcc8 0 _ rfl; have hx8_1 : w14.cell? ⟨go5, (x5_1 : Int).toNat * 3 + 1, none⟩ = some (.int .i64 ((rd_T57 y512 x5_1).f1)) := hcc8 1 _ rfl; have hx8_2 : w14.cell? ⟨go5, (x5_1 : Int).toNat * 3 + 2, none⟩ = some (.string ((rd_T57 y512 x5_1).f2)) := hcc8 2 _ rfl; have hf8_0 : w14.frozen? ⟨go5, (x5_1 : Int).toNat * 3, none⟩ = false := hfr8 0; have hf8_1 : w14.frozen? ⟨go5, (x5_1 : Int).toNat * 3 + 1, none⟩ = false := hfr8 1; have hf8_2 : w14.frozen? ⟨go5, (x5_1 : Int).toNat * 3 + 2, none⟩ = false := hfr8 2; clear hcl8 hcc8 hfr8; (try clear hM8); replace p8 := eq_true p8; replace q8 := eq_true q8; have HX15 := qK (show Kd.R k57 57 w14 w0.heap.size (fun k_ => (P0_ k_ ∨ w.heap.size ≤ k_)) (.slice (some ⟨go5, 0, none⟩) x0_1.length co9) y512 from (qRb HO_0)); obtain ⟨ce15, hcl15, hM15, hcc15, hfr15⟩ := Kd.R_elem HX15.out z57 (x5_1 : Int) (of_decide_eq_true qa) (by have h_ : (x5_1 : Int) < ((x0_1.length : Int) : Int) := of_decide_eq_true qa; first | exact h_ | (have e_ := (Kd.R_reads' HO_0.out).1; omega) | simpa using h_); obtain rfl := k57_openM hM15; have HP15 := Kd.R_seg HX15.out (x5_1 : Int) (of_decide_eq_true qa) (by have h_ : (x5_1 : Int) < ((x0_1.length : Int) : Int) := of_decide_eq_true qa; first | exact h_ | (have e_ := (Kd.R_reads' HO_0.out).1; omega) | simpa using h_) (seg := [.string t513]) (j := 2) hcl15 hcc15 (show 3 ≤ 3 from by decide) (x' := (⟨(rd_T57 y512 x5_1).f0, (rd_T57 y512 x5_1).f1, t513⟩ : S57)) (k57_mkM _ _ _ (⟨(rd_T57 y512 x5_1).f0, (rd_T57 y512 x5_1).f1, t513⟩ : S57) ) (fun _ hk => hk); have hx15_2 := hcc15 2 _ rfl; (try simp only [show (k57).sz = 3 from rfl, Nat.mul_one, Nat.add_zero] at hx15_2); have hf15_2 := hfr15 2; (try simp only [show (k57).sz = 3 from rfl, Nat.mul_one, Nat.add_zero] at hf15_2); clear hcl15 hcc15 hfr15; (try clear hM15)) | ((with_reducible refine gst (t := 9) (p := 31) rfl ?_); refine ste (t := 9) (p := 31) (v := ?vo_w16) (w1 := (w14.setCell ⟨go5, (x5_1 : Int).toNat * 3 + 2, none⟩ (.string t513))) ?hg ?ho ?hn ?hr ?_; (case ho => rfl); (case hg => rfl); (case hn => rfl); (case hr => first | (go_simp; done) | (go_simp; rfl)); intro w16 hw; have hg : w14.grownBy w16 (some go5) := (by rw [hw]; exact HP15.2); have hp_ : Kd.R k57 57 w16 w0.heap.size (fun k_ => (P0_ k_ ∨ w.heap.size ≤ k_)) (.slice (some ⟨go5, 0, none⟩) x0_1.length co9) y514 := (by rw [hw, Ny514.out]; exact HP15.1); clear HP15; replace HB := qK ((by rw [hw]; exact bse (HB.out) GB5.out : Below w0.heap.size w0 w16)); replace HK := qK (Kept.of_grown (S := (fun k_ => P0_ k_)) hg (by repeat (first | (with_reducible first | exact HK.out | apply Kept.alloc | apply Kept.drewN | apply Kept.drew) | exact HK.out)) (fun k_ e_ => (HO_0.out.1 k_ e_))); replace HO_0 := qK (hp_); clear hg hw hp_)); go_roundg k1
          case measure => have := HK1.out; omega
          case rel => exact ⟨(y514), (wrap64 ((wrap64 ((wrap64 (x1_1 + 1)) + 1)) + 1)), (wrap64 (x5_1 + 1)), qS, qS, H', ⟨by have := HK1.out; omega⟩, ⟨by (with_reducible repeat (first | apply Kd.Ral | apply Kd.RdN | apply Kd.R_drew)); exact HO_0.out⟩, ⟨by repeat (first | (with_reducible first | exact HK.out | apply Kept.alloc | apply Kept.drewN | apply Kept.drew) | exact HK.out)⟩, ⟨qB⟩⟩
        · rw [if_neg c4] at H; exact absurd H (by simp)
      · rw [if_neg c3] at H; have c3b0 := decide_eq_false c3; clear c3; simp only [Option.some.injEq, Prod.mk.injEq] at H; obtain ⟨rfl, rfl⟩ := H; obtain ⟨Ao17, co17, eo17⟩ := Kd.R_slice HO_0.out; subst eo17; go_wp2; go_ret; exact ⟨qR, by (with_reducible repeat (first | apply Kd.Ral | apply Kd.RdN | apply Kd.R_drew)); exact HO_0.out, qB, by repeat (first | (with_reducible first | exact HK.out | apply Kept.alloc | apply Kept.drewN | apply Kept.drew) | exact HK.out)⟩
end Go.Proofs.YtbpfdjbnfkclcaaDoor.L
end
section
namespace Go.Proofs.YtbpfdjbnfkclcaaDoor.L
open Go.RowKit Go.Proofs.YtbpfdjbnfkclcaaDoorW.PrintWords Go.Proofs.YtbpfdjbnfkclcaaDoorW.PrintLast Go.Proofs.YtbpfdjbnfkclcaaDoorW.PrintMore
attribute [local go_sem] max2_int min2_int max_two min_two max_three min_three max_four min_four
set_option linter.unusedVariables false
set_option linter.unusedSimpArgs false
def laws_heldColumnS.l0 : Nat → List (S39) → Int → Int → Option (Int)
  | 0, _, _, _ => none
  | k + 1, x0, x1, x5 => if x5 < (x0.length : Int) then (if 0 ≤ x5 then ((laws_markText.f k x1).bind fun t516 => (if ((rd_T39 x0 x5).f0).toList = t516.toList then (if ((rd_T39 x0 x5).f1) = (wrap64 (x1 + 1)) then (laws_heldColumnS.l0 k x0 (wrap64 ((wrap64 (x1 + 1)) + 1)) (wrap64 (x5 + 1))) else (some (-1))) else (some (-1)))) else (none)) else (some x1)
def laws_heldColumnS.f (k : Nat) (l0 : List (S39)) (a1 : Int) : Option (Int) := laws_heldColumnS.l0 k l0 a1 0
theorem laws_heldColumnS.mono_l : ∀ k, (∀ y0 y1 y2, LeO (laws_heldColumnS.l0 k y0 y1 y2) (laws_heldColumnS.l0 (k + 1) y0 y1 y2))
  | 0 => fun _ _ _ r h => by simp [laws_heldColumnS.l0] at h
  | k + 1 => by
    have ih0 := laws_heldColumnS.mono_l k
    · intro y0 y1 y2
      unfold laws_heldColumnS.l0
      repeat' first
        | (with_reducible first | exact ih0 .. | exact laws_markText.mono .. | exact LeO.refl _ | exact LeO.none _ | refine LeO.ite ?_ ?_ | refine LeO.bind ?_ (fun _ => ?_))
        | exact ih0 .. | exact laws_markText.mono .. | exact LeO.none _ | refine LeO.ite ?_ ?_ | refine LeO.bind ?_ (fun _ => ?_)
theorem laws_heldColumnS.mono : ∀ a0 a1 k, LeO (laws_heldColumnS.f k a0 a1) (laws_heldColumnS.f (k + 1) a0 a1) := by
  intro a0 a1 k
  have ih0 := laws_heldColumnS.mono_l k
  unfold laws_heldColumnS.f
  repeat' first
    | (with_reducible first | exact ih0 .. | exact laws_markText.mono .. | exact LeO.refl _ | exact LeO.none _ | refine LeO.ite ?_ ?_ | refine LeO.bind ?_ (fun _ => ?_))
    | exact ih0 .. | exact laws_markText.mono .. | exact LeO.none _ | refine LeO.ite ?_ ?_ | refine LeO.bind ?_ (fun _ => ?_)
def laws_heldColumnS.T4 : Bool × List (List Nat × List Nat) := (true, [([], []), ([], []), ([0, 1], [0, 1]), ([2], [2]), ([3], [3]), ([], []), ([5], [5]), ([4, 6], [4, 6])])
def laws_heldColumnS.B4 : List Nat := [0, 0, 3, 7, 15, 0, 32, 127]
theorem laws_heldColumnS.tab4 : rtab .any (opsOf Tryd.f25 4) = laws_heldColumnS.T4 := by kernel_rfl
theorem laws_heldColumnS.bits4 : waitsOk laws_heldColumnS.T4.2 laws_heldColumnS.B4 = true := by kernel_rfl
set_option maxHeartbeats 8000000 in
set_option maxRecDepth 100000 in
theorem laws_heldColumnS.calls (k : Nat) (A0 : Option Addr) (c0 : Nat) (l0 : List (S39)) (a1 : Int) (r : Int) (w : World) (hr0 : Kd.C k39 w A0 l0.length l0) (hc0 : l0.length ≤ c0) (h : laws_heldColumnS.f k l0 a1 = some r) :
    Calls Tryd.prog 25 #[.slice A0 l0.length c0, .int .i64 a1] w fun e w' => e = .returned (.int .i64 r) ∧ Below w.heap.size w w' := by
  have HR0 := qK hr0; have HC0 := qK hc0; clear hr0 hc0; have HB := qK (Below.refl w.heap.size w); have H : (laws_heldColumnS.l0 k l0 a1 0) = some r := h; clear h; have H' := qK H; clear H; go_enter Tryd.func25, Tryd.ntmps25; go_wp2; go_loopg [1, 5] k (fun kq v1 v5 w' => ∃ (x1_1 : Int) (x5_1 : Int), v1 = .int .i64 x1_1 ∧ v5 = .int .i64 x5_1 ∧ Aside0 (laws_heldColumnS.l0 kq l0 x1_1 x5_1 = some r) ∧ Aside0 (kq ≤ k) ∧ Aside0 (Below w.heap.size w w'))
  case atStart => exact ⟨(a1), (0), qS, qS, H', ⟨Nat.le_refl _⟩, ⟨qB⟩⟩
  case round =>
    clear H'; obtain ⟨x1_1, x5_1, rfl, rfl, HA, HK1, HB⟩ := hrel
    cases gk with
    | zero => exact absurd HA.out (by simp [laws_heldColumnS.l0])
    | succ k1 =>
      have H := HA.out; clear HA; simp only [laws_heldColumnS.l0] at H; by_cases c3 : x5_1 < (l0.length : Int)
      · rw [if_pos c3] at H; have c3b0 := decide_eq_true c3; clear c3; by_cases c4 : 0 ≤ x5_1
        · rw [if_pos c4] at H; have c4b0 := decide_eq_true c4; clear c4; obtain ⟨t516, A5, H⟩ := qbi H; by_cases c6 : ((rd_T39 l0 x5_1).f0).toList = t516.toList
          · rw [if_pos c6] at H; obtain ⟨c6b0, c6b1⟩ := qe c6; clear c6; by_cases c7 : ((rd_T39 l0 x5_1).f1) = (wrap64 (x1_1 + 1))
            · rw [if_pos c7] at H; obtain ⟨c7b0, c7b1⟩ := qe c7; clear c7; have H' := qK H; clear H; (try go_wp2); replace HB := qK (bd1 HB.out); have p515 : 0 ≤ (x5_1 : Int) := of_decide_eq_true qa; have q515 : x5_1 < (l0.length : Int) := of_decide_eq_true qa; obtain ⟨ad515, e515, hx515_0, hx515_1⟩ := at_T39 HR0.out x5_1 p515 q515; have hw515_1 := hx515_1; have hw515_0 := hx515_0; cases e515; replace hx515_0 := qcl HB hx515_0; replace hx515_1 := qcl HB hx515_1; replace p515 := eq_true p515; replace q515 := eq_true q515; refine qs 8 (fun w' => w'.cell? (ad515.add ((x5_1).toNat * 2)) = some (.string ((rd_T39 l0 x5_1).f0)) ∧ w'.cell? ⟨(ad515.add ((x5_1).toNat * 2)).block, (ad515.add ((x5_1).toNat * 2)).off + 1, none⟩ = some (.int .i64 ((rd_T39 l0 x5_1).f1))) (ds := []) ⟨((HB.out.cell (World.block_lt_of_cell? w _ hw515_0)).trans hw515_0), ((HB.out.cell (World.block_lt_of_cell? w _ hw515_1)).trans hw515_1)⟩ (fun hHeld => ?_); refine with_tabW laws_heldColumnS.tab4 laws_heldColumnS.bits4 (fun HT_ HW_ => ?_); generalize wr.drew = w8 at HB hx515_0 hx515_1 hHeld ⊢; refine qp 0 12 ?_; refine qp 1 13 ?_; refine qp 2 14 ?_; refine qp 3 15 ?_; refine qp 5 17 ?_; refine qt 4 16 ?_; refine qo 6 18 (fun K hK => ?_); refine gG Tryd.func44 #[.int .i64 x1_1] ?_; (with_reducible refine (laws_markText.calls k1 x1_1 t516 _ A5.out).mono ?_); rintro e w9 ⟨rfl, hb⟩; refine ⟨_, rfl, ?_⟩; replace HB := qHB HB hb; (try clear hb); refine hK.out _ _ ⟨((HB.out.cell (World.block_lt_of_cell? w _ hw515_0)).trans hw515_0), ((HB.out.cell (World.block_lt_of_cell? w _ hw515_1)).trans hw515_1)⟩ (fun hHeld => ?_); clear hK K; refine norm_ (a' := ?_) ?_ ?_; rotate_left
              · show Act.put _ (some 18) _ = _; simp only [Act.put, List.setIfInBounds_toArray, List.set_cons_zero, List.set_cons_succ, i64_w, i32_w]; rfl
              refine qp 7 19 ?_; refine done_ (done_of HT_.out (by kernel_rfl)) ?_; have p517 : 0 ≤ (x5_1 : Int) := of_decide_eq_true qa; have q517 : x5_1 < (l0.length : Int) := of_decide_eq_true qa; obtain ⟨ad517, e517, hx517_0, hx517_1⟩ := at_T39 HR0.out x5_1 p517 q517; obtain rfl : ad515 = ad517 := (by injection e517); replace hx517_0 := qcl HB hx517_0; replace hx517_1 := qcl HB hx517_1; replace p517 := eq_true p517; replace q517 := eq_true q517; (try go_wp2); go_roundg k1
              case measure => have := HK1.out; omega
              case rel => exact ⟨(wrap64 ((wrap64 (x1_1 + 1)) + 1)), (wrap64 (x5_1 + 1)), qS, qS, H', ⟨by have := HK1.out; omega⟩, ⟨qB⟩⟩
            · rw [if_neg c7] at H; obtain ⟨c7b0, c7b1⟩ := qn c7; obtain rfl := qsi H; (try go_wp2); replace HB := qK (bd1 HB.out); have p515 : 0 ≤ (x5_1 : Int) := of_decide_eq_true qa; have q515 : x5_1 < (l0.length : Int) := of_decide_eq_true qa; obtain ⟨ad515, e515, hx515_0, hx515_1⟩ := at_T39 HR0.out x5_1 p515 q515; have hw515_1 := hx515_1; have hw515_0 := hx515_0; cases e515; replace hx515_0 := qcl HB hx515_0; replace hx515_1 := qcl HB hx515_1; replace p515 := eq_true p515; replace q515 := eq_true q515; refine qs 8 (fun w' => w'.cell? (ad515.add ((x5_1).toNat * 2)) = some (.string ((rd_T39 l0 x5_1).f0)) ∧ w'.cell? ⟨(ad515.add ((x5_1).toNat * 2)).block, (ad515.add ((x5_1).toNat * 2)).off + 1, none⟩ = some (.int .i64 ((rd_T39 l0 x5_1).f1))) (ds := []) ⟨((HB.out.cell (World.block_lt_of_cell? w _ hw515_0)).trans hw515_0), ((HB.out.cell (World.block_lt_of_cell? w _ hw515_1)).trans hw515_1)⟩ (fun hHeld => ?_); refine with_tabW laws_heldColumnS.tab4 laws_heldColumnS.bits4 (fun HT_ HW_ => ?_); generalize wr.drew = w10 at HB hx515_0 hx515_1 hHeld ⊢; refine qp 0 12 ?_; refine qp 1 13 ?_; refine qp 2 14 ?_; refine qp 3 15 ?_; refine qp 5 17 ?_; refine qt 4 16 ?_; refine qo 6 18 (fun K hK => ?_); refine gG Tryd.func44 #[.int .i64 x1_1] ?_; (with_reducible refine (laws_markText.calls k1 x1_1 t516 _ A5.out).mono ?_); rintro e w11 ⟨rfl, hb⟩; refine ⟨_, rfl, ?_⟩; replace HB := qHB HB hb; (try clear hb); refine hK.out _ _ ⟨((HB.out.cell (World.block_lt_of_cell? w _ hw515_0)).trans hw515_0), ((HB.out.cell (World.block_lt_of_cell? w _ hw515_1)).trans hw515_1)⟩ (fun hHeld => ?_); clear hK K; refine norm_ (a' := ?_) ?_ ?_; rotate_left
              · show Act.put _ (some 18) _ = _; simp only [Act.put, List.setIfInBounds_toArray, List.set_cons_zero, List.set_cons_succ, i64_w, i32_w]; rfl
              refine qp 7 19 ?_; refine done_ (done_of HT_.out (by kernel_rfl)) ?_; have p517 : 0 ≤ (x5_1 : Int) := of_decide_eq_true qa; have q517 : x5_1 < (l0.length : Int) := of_decide_eq_true qa; obtain ⟨ad517, e517, hx517_0, hx517_1⟩ := at_T39 HR0.out x5_1 p517 q517; obtain rfl : ad515 = ad517 := (by injection e517); replace hx517_0 := qcl HB hx517_0; replace hx517_1 := qcl HB hx517_1; replace p517 := eq_true p517; replace q517 := eq_true q517; (try go_wp2); go_ret; exact ⟨qR, qB⟩
          · rw [if_neg c6] at H; obtain ⟨c6b0, c6b1⟩ := qn c6; obtain rfl := qsi H; (try go_wp2); replace HB := qK (bd1 HB.out); have p515 : 0 ≤ (x5_1 : Int) := of_decide_eq_true qa; have q515 : x5_1 < (l0.length : Int) := of_decide_eq_true qa; obtain ⟨ad515, e515, hx515_0, hx515_1⟩ := at_T39 HR0.out x5_1 p515 q515; have hw515_1 := hx515_1; have hw515_0 := hx515_0; cases e515; replace hx515_0 := qcl HB hx515_0; replace hx515_1 := qcl HB hx515_1; replace p515 := eq_true p515; replace q515 := eq_true q515; refine qs 8 (fun w' => w'.cell? (ad515.add ((x5_1).toNat * 2)) = some (.string ((rd_T39 l0 x5_1).f0)) ∧ w'.cell? ⟨(ad515.add ((x5_1).toNat * 2)).block, (ad515.add ((x5_1).toNat * 2)).off + 1, none⟩ = some (.int .i64 ((rd_T39 l0 x5_1).f1))) (ds := []) ⟨((HB.out.cell (World.block_lt_of_cell? w _ hw515_0)).trans hw515_0), ((HB.out.cell (World.block_lt_of_cell? w _ hw515_1)).trans hw515_1)⟩ (fun hHeld => ?_); refine with_tabW laws_heldColumnS.tab4 laws_heldColumnS.bits4 (fun HT_ HW_ => ?_); generalize wr.drew = w12 at HB hx515_0 hx515_1 hHeld ⊢; refine qp 0 12 ?_; refine qp 1 13 ?_; refine qp 2 14 ?_; refine qp 3 15 ?_; refine qp 5 17 ?_; refine qt 4 16 ?_; refine qo 6 18 (fun K hK => ?_); refine gG Tryd.func44 #[.int .i64 x1_1] ?_; (with_reducible refine (laws_markText.calls k1 x1_1 t516 _ A5.out).mono ?_); rintro e w13 ⟨rfl, hb⟩; refine ⟨_, rfl, ?_⟩; replace HB := qHB HB hb; (try clear hb); refine hK.out _ _ ⟨((HB.out.cell (World.block_lt_of_cell? w _ hw515_0)).trans hw515_0), ((HB.out.cell (World.block_lt_of_cell? w _ hw515_1)).trans hw515_1)⟩ (fun hHeld => ?_); clear hK K; refine norm_ (a' := ?_) ?_ ?_; rotate_left
            · show Act.put _ (some 18) _ = _; simp only [Act.put, List.setIfInBounds_toArray, List.set_cons_zero, List.set_cons_succ, i64_w, i32_w]; rfl
            refine qp 7 19 ?_; refine done_ (done_of HT_.out (by kernel_rfl)) ?_; (try go_wp2); go_ret; exact ⟨qR, qB⟩
        · rw [if_neg c4] at H; exact absurd H (by simp)
      · rw [if_neg c3] at H; have c3b0 := decide_eq_false c3; clear c3; obtain rfl := qsi H; go_wp2; go_ret; exact ⟨qR, qB⟩
def laws_heldValueS.l0 : Nat → List (S41) → Int → Int → Option (Int)
  | 0, _, _, _ => none
  | k + 1, x0, x1, x5 => if x5 < (x0.length : Int) then (if 0 ≤ x5 then (if ((rd_T41 x0 x5).f0) = x1 then (if ((rd_T41 x0 x5).f1) = (wrap64 (x1 + 1)) then ((laws_markText.f k (wrap64 ((wrap64 (x1 + 1)) + 1))).bind fun t521 => (if ((rd_T41 x0 x5).f2).toList = t521.toList then (laws_heldValueS.l0 k x0 (wrap64 ((wrap64 ((wrap64 (x1 + 1)) + 1)) + 1)) (wrap64 (x5 + 1))) else (some (-1)))) else (some (-1))) else (some (-1))) else (none)) else (some x1)
def laws_heldValueS.f (k : Nat) (l0 : List (S41)) (a1 : Int) : Option (Int) := laws_heldValueS.l0 k l0 a1 0
theorem laws_heldValueS.mono_l : ∀ k, (∀ y0 y1 y2, LeO (laws_heldValueS.l0 k y0 y1 y2) (laws_heldValueS.l0 (k + 1) y0 y1 y2))
  | 0 => fun _ _ _ r h => by simp [laws_heldValueS.l0] at h
  | k + 1 => by
    have ih0 := laws_heldValueS.mono_l k
    · intro y0 y1 y2
      unfold laws_heldValueS.l0
      repeat' first
        | (with_reducible first | exact ih0 .. | exact laws_markText.mono .. | exact LeO.refl _ | exact LeO.none _ | refine LeO.ite ?_ ?_ | refine LeO.bind ?_ (fun _ => ?_))
        | exact ih0 .. | exact laws_markText.mono .. | exact LeO.none _ | refine LeO.ite ?_ ?_ | refine LeO.bind ?_ (fun _ => ?_)
theorem laws_heldValueS.mono : ∀ a0 a1 k, LeO (laws_heldValueS.f k a0 a1) (laws_heldValueS.f (k + 1) a0 a1) := by
  intro a0 a1 k
  have ih0 := laws_heldValueS.mono_l k
  unfold laws_heldValueS.f
  repeat' first
    | (with_reducible first | exact ih0 .. | exact laws_markText.mono .. | exact LeO.refl _ | exact LeO.none _ | refine LeO.ite ?_ ?_ | refine LeO.bind ?_ (fun _ => ?_))
    | exact ih0 .. | exact laws_markText.mono .. | exact LeO.none _ | refine LeO.ite ?_ ?_ | refine LeO.bind ?_ (fun _ => ?_)
def laws_heldValueS.T10 : Bool × List (List Nat × List Nat) := (true, [([], []), ([], []), ([0, 1], [0, 1]), ([2], [2]), ([3], [3]), ([], []), ([5], [5]), ([4, 6], [4, 6])])
def laws_heldValueS.B10 : List Nat := [0, 0, 3, 7, 15, 0, 32, 127]
theorem laws_heldValueS.tab10 : rtab .any (opsOf Tryd.f26 10) = laws_heldValueS.T10 := by kernel_rfl
theorem laws_heldValueS.bits10 : waitsOk laws_heldValueS.T10.2 laws_heldValueS.B10 = true := by kernel_rfl
set_option maxHeartbeats 8000000 in
set_option maxRecDepth 100000 in
theorem laws_heldValueS.calls (k : Nat) (A0 : Option Addr) (c0 : Nat) (l0 : List (S41)) (a1 : Int) (r : Int) (w : World) (hr0 : Kd.C k41 w A0 l0.length l0) (hc0 : l0.length ≤ c0) (h : laws_heldValueS.f k l0 a1 = some r) :
    Calls Tryd.prog 26 #[.slice A0 l0.length c0, .int .i64 a1] w fun e w' => e = .returned (.int .i64 r) ∧ Below w.heap.size w w' := by
  have HR0 := qK hr0; have HC0 := qK hc0; clear hr0 hc0; have HB := qK (Below.refl w.heap.size w); have H : (laws_heldValueS.l0 k l0 a1 0) = some r := h; clear h; have H' := qK H; clear H; go_enter Tryd.func26, Tryd.ntmps26; go_wp2; go_loopg [1, 5] k (fun kq v1 v5 w' => ∃ (x1_1 : Int) (x5_1 : Int), v1 = .int .i64 x1_1 ∧ v5 = .int .i64 x5_1 ∧ Aside0 (laws_heldValueS.l0 kq l0 x1_1 x5_1 = some r) ∧ Aside0 (kq ≤ k) ∧ Aside0 (Below w.heap.size w w'))
  case atStart => exact ⟨(a1), (0), qS, qS, H', ⟨Nat.le_refl _⟩, ⟨qB⟩⟩
  case round =>
    clear H'; obtain ⟨x1_1, x5_1, rfl, rfl, HA, HK1, HB⟩ := hrel
    cases gk with
    | zero => exact absurd HA.out (by simp [laws_heldValueS.l0])
    | succ k1 =>
      have H := HA.out; clear HA; simp only [laws_heldValueS.l0] at H; by_cases c3 : x5_1 < (l0.length : Int)
      · rw [if_pos c3] at H; have c3b0 := decide_eq_true c3; clear c3; by_cases c4 : 0 ≤ x5_1
        · rw [if_pos c4] at H; have c4b0 := decide_eq_true c4; clear c4; by_cases c5 : ((rd_T41 l0 x5_1).f0) = x1_1
          · rw [if_pos c5] at H; obtain ⟨c5b0, c5b1⟩ := qe c5; clear c5; by_cases c6 : ((rd_T41 l0 x5_1).f1) = (wrap64 (x1_1 + 1))
            · rw [if_pos c6] at H; obtain ⟨c6b0, c6b1⟩ := qe c6; clear c6; obtain ⟨t521, A7, H⟩ := qbi H; by_cases c8 : ((rd_T41 l0 x5_1).f2).toList = t521.toList
              · rw [if_pos c8] at H; obtain ⟨c8b0, c8b1⟩ := qe c8; clear c8; have H' := qK H; clear H; have p518 : 0 ≤ (x5_1 : Int) := of_decide_eq_true qa; have q518 : x5_1 < (l0.length : Int) := of_decide_eq_true qa; obtain ⟨ad518, e518, hx518_0, hx518_1, hx518_2⟩ := at_T41 HR0.out x5_1 p518 q518; cases e518; replace hx518_0 := qcl HB hx518_0; replace hx518_1 := qcl HB hx518_1; replace hx518_2 := qcl HB hx518_2; replace p518 := eq_true p518; replace q518 := eq_true q518; have p519 : 0 ≤ (x5_1 : Int) := of_decide_eq_true qa; have q519 : x5_1 < (l0.length : Int) := of_decide_eq_true qa; obtain ⟨ad519, e519, hx519_0, hx519_1, hx519_2⟩ := at_T41 HR0.out x5_1 p519 q519; obtain rfl : ad518 = ad519 := (by injection e519); replace hx519_0 := qcl HB hx519_0; replace hx519_1 := qcl HB hx519_1; replace hx519_2 := qcl HB hx519_2; replace p519 := eq_true p519; replace q519 := eq_true q519; (try go_wp2); replace HB := qK (bd1 HB.out); have p520 : 0 ≤ (x5_1 : Int) := of_decide_eq_true qa; have q520 : x5_1 < (l0.length : Int) := of_decide_eq_true qa; obtain ⟨ad520, e520, hx520_0, hx520_1, hx520_2⟩ := at_T41 HR0.out x5_1 p520 q520; have hw520_2 := hx520_2; have hw520_1 := hx520_1; have hw520_0 := hx520_0; obtain rfl : ad518 = ad520 := (by injection e520); replace hx520_0 := qcl HB hx520_0; replace hx520_1 := qcl HB hx520_1; replace hx520_2 := qcl HB hx520_2; replace p520 := eq_true p520; replace q520 := eq_true q520; refine qs 8 (fun w' => w'.cell? (ad518.add ((x5_1).toNat * 3)) = some (.int .i64 ((rd_T41 l0 x5_1).f0)) ∧ w'.cell? ⟨(ad518.add ((x5_1).toNat * 3)).block, (ad518.add ((x5_1).toNat * 3)).off + 1, none⟩ = some (.int .i64 ((rd_T41 l0 x5_1).f1)) ∧ w'.cell? ⟨(ad518.add ((x5_1).toNat * 3)).block, (ad518.add ((x5_1).toNat * 3)).off + 2, none⟩ = some (.string ((rd_T41 l0 x5_1).f2))) (ds := []) ⟨((HB.out.cell (World.block_lt_of_cell? w _ hw520_0)).trans hw520_0), ((HB.out.cell (World.block_lt_of_cell? w _ hw520_1)).trans hw520_1), ((HB.out.cell (World.block_lt_of_cell? w _ hw520_2)).trans hw520_2)⟩ (fun hHeld => ?_); refine with_tabW laws_heldValueS.tab10 laws_heldValueS.bits10 (fun HT_ HW_ => ?_); generalize wr.drew = w9 at HB hx520_0 hx520_1 hx520_2 hHeld ⊢; refine qp 0 30 ?_; refine qp 1 31 ?_; refine qp 2 32 ?_; refine qp 3 33 ?_; refine qp 5 35 ?_; refine qt 4 34 ?_; refine qo 6 36 (fun K hK => ?_); refine gG Tryd.func44 #[.int .i64 (wrap64 ((wrap64 (x1_1 + 1)) + 1))] ?_; (with_reducible refine (laws_markText.calls k1 (wrap64 ((wrap64 (x1_1 + 1)) + 1)) t521 _ A7.out).mono ?_); rintro e w10 ⟨rfl, hb⟩; refine ⟨_, rfl, ?_⟩; replace HB := qHB HB hb; (try clear hb); refine hK.out _ _ ⟨((HB.out.cell (World.block_lt_of_cell? w _ hw520_0)).trans hw520_0), ((HB.out.cell (World.block_lt_of_cell? w _ hw520_1)).trans hw520_1), ((HB.out.cell (World.block_lt_of_cell? w _ hw520_2)).trans hw520_2)⟩ (fun hHeld => ?_); clear hK K; refine norm_ (a' := ?_) ?_ ?_; rotate_left
                · show Act.put _ (some 36) _ = _; simp only [Act.put, List.setIfInBounds_toArray, List.set_cons_zero, List.set_cons_succ, i64_w, i32_w]; rfl
                refine qp 7 37 ?_; refine done_ (done_of HT_.out (by kernel_rfl)) ?_; (try go_wp2); go_roundg k1
                case measure => have := HK1.out; omega
                case rel => exact ⟨(wrap64 ((wrap64 ((wrap64 (x1_1 + 1)) + 1)) + 1)), (wrap64 (x5_1 + 1)), qS, qS, H', ⟨by have := HK1.out; omega⟩, ⟨qB⟩⟩
              · rw [if_neg c8] at H; obtain ⟨c8b0, c8b1⟩ := qn c8; obtain rfl := qsi H; have p518 : 0 ≤ (x5_1 : Int) := of_decide_eq_true qa; have q518 : x5_1 < (l0.length : Int) := of_decide_eq_true qa; obtain ⟨ad518, e518, hx518_0, hx518_1, hx518_2⟩ := at_T41 HR0.out x5_1 p518 q518; cases e518; replace hx518_0 := qcl HB hx518_0; replace hx518_1 := qcl HB hx518_1; replace hx518_2 := qcl HB hx518_2; replace p518 := eq_true p518; replace q518 := eq_true q518; have p519 : 0 ≤ (x5_1 : Int) := of_decide_eq_true qa; have q519 : x5_1 < (l0.length : Int) := of_decide_eq_true qa; obtain ⟨ad519, e519, hx519_0, hx519_1, hx519_2⟩ := at_T41 HR0.out x5_1 p519 q519; obtain rfl : ad518 = ad519 := (by injection e519); replace hx519_0 := qcl HB hx519_0; replace hx519_1 := qcl HB hx519_1; replace hx519_2 := qcl HB hx519_2; replace p519 := eq_true p519; replace q519 := eq_true q519; (try go_wp2); replace HB := qK (bd1 HB.out); have p520 : 0 ≤ (x5_1 : Int) := of_decide_eq_true qa; have q520 : x5_1 < (l0.length : Int) := of_decide_eq_true qa; obtain ⟨ad520, e520, hx520_0, hx520_1, hx520_2⟩ := at_T41 HR0.out x5_1 p520 q520; have hw520_2 := hx520_2; have hw520_1 := hx520_1; have hw520_0 := hx520_0; obtain rfl : ad518 = ad520 := (by injection e520); replace hx520_0 := qcl HB hx520_0; replace hx520_1 := qcl HB hx520_1; replace hx520_2 := qcl HB hx520_2; replace p520 := eq_true p520; replace q520 := eq_true q520; refine qs 8 (fun w' => w'.cell? (ad518.add ((x5_1).toNat * 3)) = some (.int .i64 ((rd_T41 l0 x5_1).f0)) ∧ w'.cell? ⟨(ad518.add ((x5_1).toNat * 3)).block, (ad518.add ((x5_1).toNat * 3)).off + 1, none⟩ = some (.int .i64 ((rd_T41 l0 x5_1).f1)) ∧ w'.cell? ⟨(ad518.add ((x5_1).toNat * 3)).block, (ad518.add ((x5_1).toNat * 3)).off + 2, none⟩ = some (.string ((rd_T41 l0 x5_1).f2))) (ds := []) ⟨((HB.out.cell (World.block_lt_of_cell? w _ hw520_0)).trans hw520_0), ((HB.out.cell (World.block_lt_of_cell? w _ hw520_1)).trans hw520_1), ((HB.out.cell (World.block_lt_of_cell? w _ hw520_2)).trans hw520_2)⟩ (fun hHeld => ?_); refine with_tabW laws_heldValueS.tab10 laws_heldValueS.bits10 (fun HT_ HW_ => ?_); generalize wr.drew = w11 at HB hx520_0 hx520_1 hx520_2 hHeld ⊢; refine qp 0 30 ?_; refine qp 1 31 ?_; refine qp 2 32 ?_; refine qp 3 33 ?_; refine qp 5 35 ?_; refine qt 4 34 ?_; refine qo 6 36 (fun K hK => ?_); refine gG Tryd.func44 #[.int .i64 (wrap64 ((wrap64 (x1_1 + 1)) + 1))] ?_; (with_reducible refine (laws_markText.calls k1 (wrap64 ((wrap64 (x1_1 + 1)) + 1)) t521 _ A7.out).mono ?_); rintro e w12 ⟨rfl, hb⟩; refine ⟨_, rfl, ?_⟩; replace HB := qHB HB hb; (try clear hb); refine hK.out _ _ ⟨((HB.out.cell (World.block_lt_of_cell? w _ hw520_0)).trans hw520_0), ((HB.out.cell (World.block_lt_of_cell? w _ hw520_1)).trans hw520_1), ((HB.out.cell (World.block_lt_of_cell? w _ hw520_2)).trans hw520_2)⟩ (fun hHeld => ?_); clear hK K; refine norm_ (a' := ?_) ?_ ?_; rotate_left
                · show Act.put _ (some 36) _ = _; simp only [Act.put, List.setIfInBounds_toArray, List.set_cons_zero, List.set_cons_succ, i64_w, i32_w]; rfl
                refine qp 7 37 ?_; refine done_ (done_of HT_.out (by kernel_rfl)) ?_; (try go_wp2); go_ret; exact ⟨qR, qB⟩
            · rw [if_neg c6] at H; obtain ⟨c6b0, c6b1⟩ := qn c6; obtain rfl := qsi H; have p518 : 0 ≤ (x5_1 : Int) := of_decide_eq_true qa; have q518 : x5_1 < (l0.length : Int) := of_decide_eq_true qa; obtain ⟨ad518, e518, hx518_0, hx518_1, hx518_2⟩ := at_T41 HR0.out x5_1 p518 q518; cases e518; replace hx518_0 := qcl HB hx518_0; replace hx518_1 := qcl HB hx518_1; replace hx518_2 := qcl HB hx518_2; replace p518 := eq_true p518; replace q518 := eq_true q518; have p519 : 0 ≤ (x5_1 : Int) := of_decide_eq_true qa; have q519 : x5_1 < (l0.length : Int) := of_decide_eq_true qa; obtain ⟨ad519, e519, hx519_0, hx519_1, hx519_2⟩ := at_T41 HR0.out x5_1 p519 q519; obtain rfl : ad518 = ad519 := (by injection e519); replace hx519_0 := qcl HB hx519_0; replace hx519_1 := qcl HB hx519_1; replace hx519_2 := qcl HB hx519_2; replace p519 := eq_true p519; replace q519 := eq_true q519; go_wp2; go_ret; exact ⟨qR, qB⟩
          · rw [if_neg c5] at H; obtain ⟨c5b0, c5b1⟩ := qn c5; obtain rfl := qsi H; have p518 : 0 ≤ (x5_1 : Int) := of_decide_eq_true qa; have q518 : x5_1 < (l0.length : Int) := of_decide_eq_true qa; obtain ⟨ad518, e518, hx518_0, hx518_1, hx518_2⟩ := at_T41 HR0.out x5_1 p518 q518; cases e518; replace hx518_0 := qcl HB hx518_0; replace hx518_1 := qcl HB hx518_1; replace hx518_2 := qcl HB hx518_2; replace p518 := eq_true p518; replace q518 := eq_true q518; go_wp2; go_ret; exact ⟨qR, qB⟩
        · rw [if_neg c4] at H; exact absurd H (by simp)
      · rw [if_neg c3] at H; have c3b0 := decide_eq_false c3; clear c3; obtain rfl := qsi H; go_wp2; go_ret; exact ⟨qR, qB⟩
def laws_heldItemS.l0 : Nat → List (S57) → Int → Int → Option (Int)
  | 0, _, _, _ => none
  | k + 1, x0, x1, x5 => if x5 < (x0.length : Int) then (if 0 ≤ x5 then (if ((rd_T57 x0 x5).f0) = x1 then (if ((rd_T57 x0 x5).f1) = (wrap64 (x1 + 1)) then ((laws_markText.f k (wrap64 ((wrap64 (x1 + 1)) + 1))).bind fun t525 => (if ((rd_T57 x0 x5).f2).toList = t525.toList then (laws_heldItemS.l0 k x0 (wrap64 ((wrap64 ((wrap64 (x1 + 1)) + 1)) + 1)) (wrap64 (x5 + 1))) else (some (-1)))) else (some (-1))) else (some (-1))) else (none)) else (some x1)
def laws_heldItemS.f (k : Nat) (l0 : List (S57)) (a1 : Int) : Option (Int) := laws_heldItemS.l0 k l0 a1 0
theorem laws_heldItemS.mono_l : ∀ k, (∀ y0 y1 y2, LeO (laws_heldItemS.l0 k y0 y1 y2) (laws_heldItemS.l0 (k + 1) y0 y1 y2))
  | 0 => fun _ _ _ r h => by simp [laws_heldItemS.l0] at h
  | k + 1 => by
    have ih0 := laws_heldItemS.mono_l k
    · intro y0 y1 y2
      unfold laws_heldItemS.l0
      repeat' first
        | (with_reducible first | exact ih0 .. | exact laws_markText.mono .. | exact LeO.refl _ | exact LeO.none _ | refine LeO.ite ?_ ?_ | refine LeO.bind ?_ (fun _ => ?_))
        | exact ih0 .. | exact laws_markText.mono .. | exact LeO.none _ | refine LeO.ite ?_ ?_ | refine LeO.bind ?_ (fun _ => ?_)
theorem laws_heldItemS.mono : ∀ a0 a1 k, LeO (laws_heldItemS.f k a0 a1) (laws_heldItemS.f (k + 1) a0 a1) := by
  intro a0 a1 k
  have ih0 := laws_heldItemS.mono_l k
  unfold laws_heldItemS.f
  repeat' first
    | (with_reducible first | exact ih0 .. | exact laws_markText.mono .. | exact LeO.refl _ | exact LeO.none _ | refine LeO.ite ?_ ?_ | refine LeO.bind ?_ (fun _ => ?_))
    | exact ih0 .. | exact laws_markText.mono .. | exact LeO.none _ | refine LeO.ite ?_ ?_ | refine LeO.bind ?_ (fun _ => ?_)
def laws_heldItemS.T10 : Bool × List (List Nat × List Nat) := (true, [([], []), ([], []), ([0, 1], [0, 1]), ([2], [2]), ([3], [3]), ([], []), ([5], [5]), ([4, 6], [4, 6])])
def laws_heldItemS.B10 : List Nat := [0, 0, 3, 7, 15, 0, 32, 127]
theorem laws_heldItemS.tab10 : rtab .any (opsOf Tryd.f27 10) = laws_heldItemS.T10 := by kernel_rfl
theorem laws_heldItemS.bits10 : waitsOk laws_heldItemS.T10.2 laws_heldItemS.B10 = true := by kernel_rfl
set_option maxHeartbeats 8000000 in
set_option maxRecDepth 100000 in
theorem laws_heldItemS.calls (k : Nat) (A0 : Option Addr) (c0 : Nat) (l0 : List (S57)) (a1 : Int) (r : Int) (w : World) (hr0 : Kd.C k57 w A0 l0.length l0) (hc0 : l0.length ≤ c0) (h : laws_heldItemS.f k l0 a1 = some r) :
    Calls Tryd.prog 27 #[.slice A0 l0.length c0, .int .i64 a1] w fun e w' => e = .returned (.int .i64 r) ∧ Below w.heap.size w w' := by
  have HR0 := qK hr0; have HC0 := qK hc0; clear hr0 hc0; have HB := qK (Below.refl w.heap.size w); have H : (laws_heldItemS.l0 k l0 a1 0) = some r := h; clear h; have H' := qK H; clear H; go_enter Tryd.func27, Tryd.ntmps27; go_wp2; go_loopg [1, 5] k (fun kq v1 v5 w' => ∃ (x1_1 : Int) (x5_1 : Int), v1 = .int .i64 x1_1 ∧ v5 = .int .i64 x5_1 ∧ Aside0 (laws_heldItemS.l0 kq l0 x1_1 x5_1 = some r) ∧ Aside0 (kq ≤ k) ∧ Aside0 (Below w.heap.size w w'))
  case atStart => exact ⟨(a1), (0), qS, qS, H', ⟨Nat.le_refl _⟩, ⟨qB⟩⟩
  case round =>
    clear H'; obtain ⟨x1_1, x5_1, rfl, rfl, HA, HK1, HB⟩ := hrel
    cases gk with
    | zero => exact absurd HA.out (by simp [laws_heldItemS.l0])
    | succ k1 =>
      have H := HA.out; clear HA; simp only [laws_heldItemS.l0] at H; by_cases c3 : x5_1 < (l0.length : Int)
      · rw [if_pos c3] at H; have c3b0 := decide_eq_true c3; clear c3; by_cases c4 : 0 ≤ x5_1
        · rw [if_pos c4] at H; have c4b0 := decide_eq_true c4; clear c4; by_cases c5 : ((rd_T57 l0 x5_1).f0) = x1_1
          · rw [if_pos c5] at H; obtain ⟨c5b0, c5b1⟩ := qe c5; clear c5; by_cases c6 : ((rd_T57 l0 x5_1).f1) = (wrap64 (x1_1 + 1))
            · rw [if_pos c6] at H; obtain ⟨c6b0, c6b1⟩ := qe c6; clear c6; obtain ⟨t525, A7, H⟩ := qbi H; by_cases c8 : ((rd_T57 l0 x5_1).f2).toList = t525.toList
              · rw [if_pos c8] at H; obtain ⟨c8b0, c8b1⟩ := qe c8; clear c8; have H' := qK H; clear H; have p522 : 0 ≤ (x5_1 : Int) := of_decide_eq_true qa; have q522 : x5_1 < (l0.length : Int) := of_decide_eq_true qa; obtain ⟨ad522, e522, hx522_0, hx522_1, hx522_2⟩ := at_T57 HR0.out x5_1 p522 q522; cases e522; replace hx522_0 := qcl HB hx522_0; replace hx522_1 := qcl HB hx522_1; replace hx522_2 := qcl HB hx522_2; replace p522 := eq_true p522; replace q522 := eq_true q522; have p523 : 0 ≤ (x5_1 : Int) := of_decide_eq_true qa; have q523 : x5_1 < (l0.length : Int) := of_decide_eq_true qa; obtain ⟨ad523, e523, hx523_0, hx523_1, hx523_2⟩ := at_T57 HR0.out x5_1 p523 q523; obtain rfl : ad522 = ad523 := (by injection e523); replace hx523_0 := qcl HB hx523_0; replace hx523_1 := qcl HB hx523_1; replace hx523_2 := qcl HB hx523_2; replace p523 := eq_true p523; replace q523 := eq_true q523; (try go_wp2); replace HB := qK (bd1 HB.out); have p524 : 0 ≤ (x5_1 : Int) := of_decide_eq_true qa; have q524 : x5_1 < (l0.length : Int) := of_decide_eq_true qa; obtain ⟨ad524, e524, hx524_0, hx524_1, hx524_2⟩ := at_T57 HR0.out x5_1 p524 q524; have hw524_2 := hx524_2; have hw524_1 := hx524_1; have hw524_0 := hx524_0; obtain rfl : ad522 = ad524 := (by injection e524); replace hx524_0 := qcl HB hx524_0; replace hx524_1 := qcl HB hx524_1; replace hx524_2 := qcl HB hx524_2; replace p524 := eq_true p524; replace q524 := eq_true q524; refine qs 8 (fun w' => w'.cell? (ad522.add ((x5_1).toNat * 3)) = some (.int .i64 ((rd_T57 l0 x5_1).f0)) ∧ w'.cell? ⟨(ad522.add ((x5_1).toNat * 3)).block, (ad522.add ((x5_1).toNat * 3)).off + 1, none⟩ = some (.int .i64 ((rd_T57 l0 x5_1).f1)) ∧ w'.cell? ⟨(ad522.add ((x5_1).toNat * 3)).block, (ad522.add ((x5_1).toNat * 3)).off + 2, none⟩ = some (.string ((rd_T57 l0 x5_1).f2))) (ds := []) ⟨((HB.out.cell (World.block_lt_of_cell? w _ hw524_0)).trans hw524_0), ((HB.out.cell (World.block_lt_of_cell? w _ hw524_1)).trans hw524_1), ((HB.out.cell (World.block_lt_of_cell? w _ hw524_2)).trans hw524_2)⟩ (fun hHeld => ?_); refine with_tabW laws_heldItemS.tab10 laws_heldItemS.bits10 (fun HT_ HW_ => ?_); generalize wr.drew = w9 at HB hx524_0 hx524_1 hx524_2 hHeld ⊢; refine qp 0 30 ?_; refine qp 1 31 ?_; refine qp 2 32 ?_; refine qp 3 33 ?_; refine qp 5 35 ?_; refine qt 4 34 ?_; refine qo 6 36 (fun K hK => ?_); refine gG Tryd.func44 #[.int .i64 (wrap64 ((wrap64 (x1_1 + 1)) + 1))] ?_; (with_reducible refine (laws_markText.calls k1 (wrap64 ((wrap64 (x1_1 + 1)) + 1)) t525 _ A7.out).mono ?_); rintro e w10 ⟨rfl, hb⟩; refine ⟨_, rfl, ?_⟩; replace HB := qHB HB hb; (try clear hb); refine hK.out _ _ ⟨((HB.out.cell (World.block_lt_of_cell? w _ hw524_0)).trans hw524_0), ((HB.out.cell (World.block_lt_of_cell? w _ hw524_1)).trans hw524_1), ((HB.out.cell (World.block_lt_of_cell? w _ hw524_2)).trans hw524_2)⟩ (fun hHeld => ?_); clear hK K; refine norm_ (a' := ?_) ?_ ?_; rotate_left
                · show Act.put _ (some 36) _ = _; simp only [Act.put, List.setIfInBounds_toArray, List.set_cons_zero, List.set_cons_succ, i64_w, i32_w]; rfl
                refine qp 7 37 ?_; refine done_ (done_of HT_.out (by kernel_rfl)) ?_; (try go_wp2); go_roundg k1
                case measure => have := HK1.out; omega
                case rel => exact ⟨(wrap64 ((wrap64 ((wrap64 (x1_1 + 1)) + 1)) + 1)), (wrap64 (x5_1 + 1)), qS, qS, H', ⟨by have := HK1.out; omega⟩, ⟨qB⟩⟩
              · rw [if_neg c8] at H; obtain ⟨c8b0, c8b1⟩ := qn c8; obtain rfl := qsi H; have p522 : 0 ≤ (x5_1 : Int) := of_decide_eq_true qa; have q522 : x5_1 < (l0.length : Int) := of_decide_eq_true qa; obtain ⟨ad522, e522, hx522_0, hx522_1, hx522_2⟩ := at_T57 HR0.out x5_1 p522 q522; cases e522; replace hx522_0 := qcl HB hx522_0; replace hx522_1 := qcl HB hx522_1; replace hx522_2 := qcl HB hx522_2; replace p522 := eq_true p522; replace q522 := eq_true q522; have p523 : 0 ≤ (x5_1 : Int) := of_decide_eq_true qa; have q523 : x5_1 < (l0.length : Int) := of_decide_eq_true qa; obtain ⟨ad523, e523, hx523_0, hx523_1, hx523_2⟩ := at_T57 HR0.out x5_1 p523 q523; obtain rfl : ad522 = ad523 := (by injection e523); replace hx523_0 := qcl HB hx523_0; replace hx523_1 := qcl HB hx523_1; replace hx523_2 := qcl HB hx523_2; replace p523 := eq_true p523; replace q523 := eq_true q523; (try go_wp2); replace HB := qK (bd1 HB.out); have p524 : 0 ≤ (x5_1 : Int) := of_decide_eq_true qa; have q524 : x5_1 < (l0.length : Int) := of_decide_eq_true qa; obtain ⟨ad524, e524, hx524_0, hx524_1, hx524_2⟩ := at_T57 HR0.out x5_1 p524 q524; have hw524_2 := hx524_2; have hw524_1 := hx524_1; have hw524_0 := hx524_0; obtain rfl : ad522 = ad524 := (by injection e524); replace hx524_0 := qcl HB hx524_0; replace hx524_1 := qcl HB hx524_1; replace hx524_2 := qcl HB hx524_2; replace p524 := eq_true p524; replace q524 := eq_true q524; refine qs 8 (fun w' => w'.cell? (ad522.add ((x5_1).toNat * 3)) = some (.int .i64 ((rd_T57 l0 x5_1).f0)) ∧ w'.cell? ⟨(ad522.add ((x5_1).toNat * 3)).block, (ad522.add ((x5_1).toNat * 3)).off + 1, none⟩ = some (.int .i64 ((rd_T57 l0 x5_1).f1)) ∧ w'.cell? ⟨(ad522.add ((x5_1).toNat * 3)).block, (ad522.add ((x5_1).toNat * 3)).off + 2, none⟩ = some (.string ((rd_T57 l0 x5_1).f2))) (ds := []) ⟨((HB.out.cell (World.block_lt_of_cell? w _ hw524_0)).trans hw524_0), ((HB.out.cell (World.block_lt_of_cell? w _ hw524_1)).trans hw524_1), ((HB.out.cell (World.block_lt_of_cell? w _ hw524_2)).trans hw524_2)⟩ (fun hHeld => ?_); refine with_tabW laws_heldItemS.tab10 laws_heldItemS.bits10 (fun HT_ HW_ => ?_); generalize wr.drew = w11 at HB hx524_0 hx524_1 hx524_2 hHeld ⊢; refine qp 0 30 ?_; refine qp 1 31 ?_; refine qp 2 32 ?_; refine qp 3 33 ?_; refine qp 5 35 ?_; refine qt 4 34 ?_; refine qo 6 36 (fun K hK => ?_); refine gG Tryd.func44 #[.int .i64 (wrap64 ((wrap64 (x1_1 + 1)) + 1))] ?_; (with_reducible refine (laws_markText.calls k1 (wrap64 ((wrap64 (x1_1 + 1)) + 1)) t525 _ A7.out).mono ?_); rintro e w12 ⟨rfl, hb⟩; refine ⟨_, rfl, ?_⟩; replace HB := qHB HB hb; (try clear hb); refine hK.out _ _ ⟨((HB.out.cell (World.block_lt_of_cell? w _ hw524_0)).trans hw524_0), ((HB.out.cell (World.block_lt_of_cell? w _ hw524_1)).trans hw524_1), ((HB.out.cell (World.block_lt_of_cell? w _ hw524_2)).trans hw524_2)⟩ (fun hHeld => ?_); clear hK K; refine norm_ (a' := ?_) ?_ ?_; rotate_left
                · show Act.put _ (some 36) _ = _; simp only [Act.put, List.setIfInBounds_toArray, List.set_cons_zero, List.set_cons_succ, i64_w, i32_w]; rfl
                refine qp 7 37 ?_; refine done_ (done_of HT_.out (by kernel_rfl)) ?_; (try go_wp2); go_ret; exact ⟨qR, qB⟩
            · rw [if_neg c6] at H; obtain ⟨c6b0, c6b1⟩ := qn c6; obtain rfl := qsi H; have p522 : 0 ≤ (x5_1 : Int) := of_decide_eq_true qa; have q522 : x5_1 < (l0.length : Int) := of_decide_eq_true qa; obtain ⟨ad522, e522, hx522_0, hx522_1, hx522_2⟩ := at_T57 HR0.out x5_1 p522 q522; cases e522; replace hx522_0 := qcl HB hx522_0; replace hx522_1 := qcl HB hx522_1; replace hx522_2 := qcl HB hx522_2; replace p522 := eq_true p522; replace q522 := eq_true q522; have p523 : 0 ≤ (x5_1 : Int) := of_decide_eq_true qa; have q523 : x5_1 < (l0.length : Int) := of_decide_eq_true qa; obtain ⟨ad523, e523, hx523_0, hx523_1, hx523_2⟩ := at_T57 HR0.out x5_1 p523 q523; obtain rfl : ad522 = ad523 := (by injection e523); replace hx523_0 := qcl HB hx523_0; replace hx523_1 := qcl HB hx523_1; replace hx523_2 := qcl HB hx523_2; replace p523 := eq_true p523; replace q523 := eq_true q523; go_wp2; go_ret; exact ⟨qR, qB⟩
          · rw [if_neg c5] at H; obtain ⟨c5b0, c5b1⟩ := qn c5; obtain rfl := qsi H; have p522 : 0 ≤ (x5_1 : Int) := of_decide_eq_true qa; have q522 : x5_1 < (l0.length : Int) := of_decide_eq_true qa; obtain ⟨ad522, e522, hx522_0, hx522_1, hx522_2⟩ := at_T57 HR0.out x5_1 p522 q522; cases e522; replace hx522_0 := qcl HB hx522_0; replace hx522_1 := qcl HB hx522_1; replace hx522_2 := qcl HB hx522_2; replace p522 := eq_true p522; replace q522 := eq_true q522; go_wp2; go_ret; exact ⟨qR, qB⟩
        · rw [if_neg c4] at H; exact absurd H (by simp)
      · rw [if_neg c3] at H; have c3b0 := decide_eq_false c3; clear c3; obtain rfl := qsi H; go_wp2; go_ret; exact ⟨qR, qB⟩
def laws_heldItemSS.l0 : Nat → List (List (S57)) → Int → Int → Option (Int)
  | 0, _, _, _ => none
  | k + 1, x0, x1, x5 => if x5 < (x0.length : Int) then (if 0 ≤ x5 then ((laws_heldItemS.f k (rd_L5 x0 x5) x1).bind fun t527 => (if t527 < 0 then (some (-1)) else (laws_heldItemSS.l0 k x0 t527 (wrap64 (x5 + 1))))) else (none)) else (some x1)
def laws_heldItemSS.f (k : Nat) (l0 : List (List (S57))) (a1 : Int) : Option (Int) := laws_heldItemSS.l0 k l0 a1 0
theorem laws_heldItemSS.mono_l : ∀ k, (∀ y0 y1 y2, LeO (laws_heldItemSS.l0 k y0 y1 y2) (laws_heldItemSS.l0 (k + 1) y0 y1 y2))
  | 0 => fun _ _ _ r h => by simp [laws_heldItemSS.l0] at h
  | k + 1 => by
    have ih0 := laws_heldItemSS.mono_l k
    · intro y0 y1 y2
      unfold laws_heldItemSS.l0
      repeat' first
        | (with_reducible first | exact ih0 .. | exact laws_heldItemS.mono .. | exact LeO.refl _ | exact LeO.none _ | refine LeO.ite ?_ ?_ | refine LeO.bind ?_ (fun _ => ?_))
        | exact ih0 .. | exact laws_heldItemS.mono .. | exact LeO.none _ | refine LeO.ite ?_ ?_ | refine LeO.bind ?_ (fun _ => ?_)
theorem laws_heldItemSS.mono : ∀ a0 a1 k, LeO (laws_heldItemSS.f k a0 a1) (laws_heldItemSS.f (k + 1) a0 a1) := by
  intro a0 a1 k
  have ih0 := laws_heldItemSS.mono_l k
  unfold laws_heldItemSS.f
  repeat' first
    | (with_reducible first | exact ih0 .. | exact laws_heldItemS.mono .. | exact LeO.refl _ | exact LeO.none _ | refine LeO.ite ?_ ?_ | refine LeO.bind ?_ (fun _ => ?_))
    | exact ih0 .. | exact laws_heldItemS.mono .. | exact LeO.none _ | refine LeO.ite ?_ ?_ | refine LeO.bind ?_ (fun _ => ?_)
set_option maxHeartbeats 8000000 in
set_option maxRecDepth 100000 in
theorem laws_heldItemSS.calls (k : Nat) (A0 : Option Addr) (c0 : Nat) (l0 : List (List (S57))) (a1 : Int) (r : Int) (w : World) (hr0 : Kd.C (Kd.slice 57 k57) w A0 l0.length l0) (hc0 : l0.length ≤ c0) (h : laws_heldItemSS.f k l0 a1 = some r) :
    Calls Tryd.prog 28 #[.slice A0 l0.length c0, .int .i64 a1] w fun e w' => e = .returned (.int .i64 r) ∧ Below w.heap.size w w' := by
  have HR0 := qK hr0; have HC0 := qK hc0; clear hr0 hc0; have HB := qK (Below.refl w.heap.size w); have H : (laws_heldItemSS.l0 k l0 a1 0) = some r := h; clear h; have H' := qK H; clear H; go_enter Tryd.func28, Tryd.ntmps28; go_wp2; go_loopg [1, 5] k (fun kq v1 v5 w' => ∃ (x1_1 : Int) (x5_1 : Int), v1 = .int .i64 x1_1 ∧ v5 = .int .i64 x5_1 ∧ Aside0 (laws_heldItemSS.l0 kq l0 x1_1 x5_1 = some r) ∧ Aside0 (kq ≤ k) ∧ Aside0 (Below w.heap.size w w'))
  case atStart => exact ⟨(a1), (0), qS, qS, H', ⟨Nat.le_refl _⟩, ⟨qB⟩⟩
  case round =>
    clear H'; obtain ⟨x1_1, x5_1, rfl, rfl, HA, HK1, HB⟩ := hrel
    cases gk with
    | zero => exact absurd HA.out (by simp [laws_heldItemSS.l0])
    | succ k1 =>
      have H := HA.out; clear HA; simp only [laws_heldItemSS.l0] at H; by_cases c3 : x5_1 < (l0.length : Int)
      · rw [if_pos c3] at H; have c3b0 := decide_eq_true c3; clear c3; by_cases c4 : 0 ≤ x5_1
        · rw [if_pos c4] at H; have c4b0 := decide_eq_true c4; clear c4; obtain ⟨t527, A5, H⟩ := qbi H; by_cases c6 : t527 < 0
          · rw [if_pos c6] at H; have c6b0 := decide_eq_true c6; clear c6; obtain rfl := qsi H; have p526 : 0 ≤ (x5_1 : Int) := of_decide_eq_true qa; have q526 : x5_1 < (l0.length : Int) := of_decide_eq_true qa; obtain ⟨ad526, A526_0, c526_0, e526, hx526_0, hl526_0, hi526_0⟩ := at_L5 HR0.out x5_1 p526 q526; cases e526; replace hx526_0 := qcl HB hx526_0; have HR526_0 := qK hi526_0; have HC526_0 := qK hl526_0; clear hi526_0 hl526_0; replace p526 := eq_true p526; replace q526 := eq_true q526; go_wp2_with (first | ((with_reducible refine gcl (f := 27) rfl ?_); refine gL 17 Tryd.func27 #[.slice A526_0 (rd_L5 l0 x5_1).length c526_0, .int .i64 x1_1] ?_; (with_reducible refine (laws_heldItemS.calls k1 _ _ (rd_L5 l0 x5_1) x1_1 t527 _ ?_ ?_ A5.out).mono ?_); exact qC HR526_0; exact HC526_0.out; rintro e w7 ⟨rfl, hb⟩; refine ⟨_, rfl, ?_⟩; replace HB := qHB HB hb; (try clear hb))); go_ret; exact ⟨qR, qB⟩
          · rw [if_neg c6] at H; have c6b0 := decide_eq_false c6; clear c6; have H' := qK H; clear H; have p526 : 0 ≤ (x5_1 : Int) := of_decide_eq_true qa; have q526 : x5_1 < (l0.length : Int) := of_decide_eq_true qa; obtain ⟨ad526, A526_0, c526_0, e526, hx526_0, hl526_0, hi526_0⟩ := at_L5 HR0.out x5_1 p526 q526; cases e526; replace hx526_0 := qcl HB hx526_0; have HR526_0 := qK hi526_0; have HC526_0 := qK hl526_0; clear hi526_0 hl526_0; replace p526 := eq_true p526; replace q526 := eq_true q526; go_wp2_with (first | ((with_reducible refine gcl (f := 27) rfl ?_); refine gL 17 Tryd.func27 #[.slice A526_0 (rd_L5 l0 x5_1).length c526_0, .int .i64 x1_1] ?_; (with_reducible refine (laws_heldItemS.calls k1 _ _ (rd_L5 l0 x5_1) x1_1 t527 _ ?_ ?_ A5.out).mono ?_); exact qC HR526_0; exact HC526_0.out; rintro e w8 ⟨rfl, hb⟩; refine ⟨_, rfl, ?_⟩; replace HB := qHB HB hb; (try clear hb))); go_roundg k1
            case measure => have := HK1.out; omega
            case rel => exact ⟨(t527), (wrap64 (x5_1 + 1)), qS, qS, H', ⟨by have := HK1.out; omega⟩, ⟨qB⟩⟩
        · rw [if_neg c4] at H; exact absurd H (by simp)
      · rw [if_neg c3] at H; have c3b0 := decide_eq_false c3; clear c3; obtain rfl := qsi H; go_wp2; go_ret; exact ⟨qR, qB⟩
end Go.Proofs.YtbpfdjbnfkclcaaDoor.L
end
section
namespace Go.Proofs.YtbpfdjbnfkclcaaDoor.L
open Go.RowKit Go.Proofs.YtbpfdjbnfkclcaaDoorW.PrintWords Go.Proofs.YtbpfdjbnfkclcaaDoorW.PrintLast Go.Proofs.YtbpfdjbnfkclcaaDoorW.PrintMore
attribute [local go_sem] max2_int min2_int max_two min_two max_three min_three max_four min_four
set_option linter.unusedVariables false
set_option linter.unusedSimpArgs false
def laws_heldStm.f (k : Nat) (a0_0 : Int) (a0_1 : ByteArray) (l0_2 : List (S39)) (l0_3 : List (S41)) (a0_4 : ByteArray) (l0_5 : List (S57)) (l0_6 : List (S57)) (l0_7 : List (List (S57))) (a1 : Int) : Option (Int) := (laws_heldColumnS.f k l0_2 a1).bind fun t529 => (if t529 < 0 then (some (-1)) else ((laws_heldValueS.f k l0_3 t529).bind fun t530 => (if t530 < 0 then (some (-1)) else ((laws_heldItemS.f k l0_5 t530).bind fun t531 => (if t531 < 0 then (some (-1)) else ((laws_heldItemS.f k l0_6 t531).bind fun t532 => (if t532 < 0 then (some (-1)) else ((laws_heldItemSS.f k l0_7 t532).bind fun t533 => (if t533 < 0 then (some (-1)) else (some t533))))))))))
theorem laws_heldStm.mono : ∀ a0 a1 a2 a3 a4 a5 a6 a7 a8 k, LeO (laws_heldStm.f k a0 a1 a2 a3 a4 a5 a6 a7 a8) (laws_heldStm.f (k + 1) a0 a1 a2 a3 a4 a5 a6 a7 a8) := by
  intro a0 a1 a2 a3 a4 a5 a6 a7 a8 k
  unfold laws_heldStm.f
  repeat' first
    | (with_reducible first | exact laws_heldColumnS.mono .. | exact laws_heldItemS.mono .. | exact laws_heldItemSS.mono .. | exact laws_heldValueS.mono .. | exact LeO.refl _ | exact LeO.none _ | refine LeO.ite ?_ ?_ | refine LeO.bind ?_ (fun _ => ?_))
    | exact laws_heldColumnS.mono .. | exact laws_heldItemS.mono .. | exact laws_heldItemSS.mono .. | exact laws_heldValueS.mono .. | exact LeO.none _ | refine LeO.ite ?_ ?_ | refine LeO.bind ?_ (fun _ => ?_)
set_option maxHeartbeats 8000000 in
set_option maxRecDepth 100000 in
theorem laws_heldStm.calls (k : Nat) (a0_0 : Int) (a0_1 : ByteArray) (A0_2 : Option Addr) (c0_2 : Nat) (l0_2 : List (S39)) (A0_3 : Option Addr) (c0_3 : Nat) (l0_3 : List (S41)) (a0_4 : ByteArray) (A0_5 : Option Addr) (c0_5 : Nat) (l0_5 : List (S57)) (A0_6 : Option Addr) (c0_6 : Nat) (l0_6 : List (S57)) (A0_7 : Option Addr) (c0_7 : Nat) (l0_7 : List (List (S57))) (a1 : Int) (r : Int) (w : World) (hr0_2 : Kd.C k39 w A0_2 l0_2.length l0_2) (hc0_2 : l0_2.length ≤ c0_2) (hr0_3 : Kd.C k41 w A0_3 l0_3.length l0_3) (hc0_3 : l0_3.length ≤ c0_3) (hr0_5 : Kd.C k57 w A0_5 l0_5.length l0_5) (hc0_5 : l0_5.length ≤ c0_5) (hr0_6 : Kd.C k57 w A0_6 l0_6.length l0_6) (hc0_6 : l0_6.length ≤ c0_6) (hr0_7 : Kd.C (Kd.slice 57 k57) w A0_7 l0_7.length l0_7) (hc0_7 : l0_7.length ≤ c0_7) (h : laws_heldStm.f k a0_0 a0_1 l0_2 l0_3 a0_4 l0_5 l0_6 l0_7 a1 = some r) :
    Calls Tryd.prog 8 #[.agg #[.int .i64 a0_0, .string a0_1, .slice A0_2 l0_2.length c0_2, .slice A0_3 l0_3.length c0_3, .string a0_4, .slice A0_5 l0_5.length c0_5, .slice A0_6 l0_6.length c0_6, .slice A0_7 l0_7.length c0_7], .int .i64 a1] w fun e w' => e = .returned (.int .i64 r) ∧ Below w.heap.size w w' := by
  have hu27 := Tryd.underlying27; have HR0_2 := qK hr0_2; have HC0_2 := qK hc0_2; clear hr0_2 hc0_2; have HR0_3 := qK hr0_3; have HC0_3 := qK hc0_3; clear hr0_3 hc0_3; have HR0_5 := qK hr0_5; have HC0_5 := qK hc0_5; clear hr0_5 hc0_5; have HR0_6 := qK hr0_6; have HC0_6 := qK hc0_6; clear hr0_6 hc0_6; have HR0_7 := qK hr0_7; have HC0_7 := qK hc0_7; clear hr0_7 hc0_7; have HB := qK (Below.refl w.heap.size w); have H : ((laws_heldColumnS.f k l0_2 a1).bind fun t529 => (if t529 < 0 then (some (-1)) else ((laws_heldValueS.f k l0_3 t529).bind fun t530 => (if t530 < 0 then (some (-1)) else ((laws_heldItemS.f k l0_5 t530).bind fun t531 => (if t531 < 0 then (some (-1)) else ((laws_heldItemS.f k l0_6 t531).bind fun t532 => (if t532 < 0 then (some (-1)) else ((laws_heldItemSS.f k l0_7 t532).bind fun t533 => (if t533 < 0 then (some (-1)) else (some t533))))))))))) = some r := h; clear h; obtain ⟨t529, A3, H⟩ := qbi H; by_cases c4 : t529 < 0
  · rw [if_pos c4] at H; have c4b0 := decide_eq_true c4; clear c4; obtain rfl := qsi H; go_enter Tryd.func8, Tryd.ntmps8; go_wp2_with (first | ((with_reducible refine gds (N := 2) rfl ?_); refine qbx 2 #[.int .i64 a0_0, .string a0_1, .slice A0_2 l0_2.length c0_2, .slice A0_3 l0_3.length c0_3, .string a0_4, .slice A0_5 l0_5.length c0_5, .slice A0_6 l0_6.length c0_6, .slice A0_7 l0_7.length c0_7] 27 ?_; intro gb528 hg w5 hbox hb; have BK528 := qK (hbox); have GW528 := qK ((qW : w.heap.size ≤ gb528)); have GE528 := GW528; replace HB := qHB HB hb; clear hb hbox hg; have hz6 := qz8 BK528.out) | ((with_reducible refine gcl (f := 25) rfl ?_); refine gL 8 Tryd.func25 #[.slice A0_2 l0_2.length c0_2, .int .i64 a1] ?_; (with_reducible refine (laws_heldColumnS.calls k _ _ l0_2 a1 t529 _ ?_ ?_ A3.out).mono ?_); exact qC HR0_2; exact HC0_2.out; rintro e w7 ⟨rfl, hb⟩; refine ⟨_, rfl, ?_⟩; replace BK528 := qbb BK528 hb; replace HB := qHB HB hb; (try clear hb))); go_ret; exact ⟨qR, qB⟩
  · rw [if_neg c4] at H; have c4b0 := decide_eq_false c4; clear c4; obtain ⟨t530, A8, H⟩ := qbi H; by_cases c9 : t530 < 0
    · rw [if_pos c9] at H; have c9b0 := decide_eq_true c9; clear c9; obtain rfl := qsi H; go_enter Tryd.func8, Tryd.ntmps8; go_wp2_with (first | ((with_reducible refine gds (N := 2) rfl ?_); refine qbx 2 #[.int .i64 a0_0, .string a0_1, .slice A0_2 l0_2.length c0_2, .slice A0_3 l0_3.length c0_3, .string a0_4, .slice A0_5 l0_5.length c0_5, .slice A0_6 l0_6.length c0_6, .slice A0_7 l0_7.length c0_7] 27 ?_; intro gb528 hg w10 hbox hb; have BK528 := qK (hbox); have GW528 := qK ((qW : w.heap.size ≤ gb528)); have GE528 := GW528; replace HB := qHB HB hb; clear hb hbox hg; have hz11 := qz8 BK528.out) | ((with_reducible refine gcl (f := 25) rfl ?_); refine gL 8 Tryd.func25 #[.slice A0_2 l0_2.length c0_2, .int .i64 a1] ?_; (with_reducible refine (laws_heldColumnS.calls k _ _ l0_2 a1 t529 _ ?_ ?_ A3.out).mono ?_); exact qC HR0_2; exact HC0_2.out; rintro e w12 ⟨rfl, hb⟩; refine ⟨_, rfl, ?_⟩; replace BK528 := qbb BK528 hb; replace HB := qHB HB hb; (try clear hb); have hz13 := qz8 BK528.out) | ((with_reducible refine gcl (f := 26) rfl ?_); refine gL 14 Tryd.func26 #[.slice A0_3 l0_3.length c0_3, .int .i64 t529] ?_; (with_reducible refine (laws_heldValueS.calls k _ _ l0_3 t529 t530 _ ?_ ?_ A8.out).mono ?_); exact qC HR0_3; exact HC0_3.out; rintro e w14 ⟨rfl, hb⟩; refine ⟨_, rfl, ?_⟩; replace BK528 := qbb BK528 hb; replace HB := qHB HB hb; (try clear hb))); go_ret; exact ⟨qR, qB⟩
    · rw [if_neg c9] at H; have c9b0 := decide_eq_false c9; clear c9; obtain ⟨t531, A15, H⟩ := qbi H; by_cases c16 : t531 < 0
      · rw [if_pos c16] at H; have c16b0 := decide_eq_true c16; clear c16; obtain rfl := qsi H; go_enter Tryd.func8, Tryd.ntmps8; go_wp2_with (first | ((with_reducible refine gds (N := 2) rfl ?_); refine qbx 2 #[.int .i64 a0_0, .string a0_1, .slice A0_2 l0_2.length c0_2, .slice A0_3 l0_3.length c0_3, .string a0_4, .slice A0_5 l0_5.length c0_5, .slice A0_6 l0_6.length c0_6, .slice A0_7 l0_7.length c0_7] 27 ?_; intro gb528 hg w17 hbox hb; have BK528 := qK (hbox); have GW528 := qK ((qW : w.heap.size ≤ gb528)); have GE528 := GW528; replace HB := qHB HB hb; clear hb hbox hg; have hz18 := qz8 BK528.out) | ((with_reducible refine gcl (f := 25) rfl ?_); refine gL 8 Tryd.func25 #[.slice A0_2 l0_2.length c0_2, .int .i64 a1] ?_; (with_reducible refine (laws_heldColumnS.calls k _ _ l0_2 a1 t529 _ ?_ ?_ A3.out).mono ?_); exact qC HR0_2; exact HC0_2.out; rintro e w19 ⟨rfl, hb⟩; refine ⟨_, rfl, ?_⟩; replace BK528 := qbb BK528 hb; replace HB := qHB HB hb; (try clear hb); have hz20 := qz8 BK528.out) | ((with_reducible refine gcl (f := 26) rfl ?_); refine gL 14 Tryd.func26 #[.slice A0_3 l0_3.length c0_3, .int .i64 t529] ?_; (with_reducible refine (laws_heldValueS.calls k _ _ l0_3 t529 t530 _ ?_ ?_ A8.out).mono ?_); exact qC HR0_3; exact HC0_3.out; rintro e w21 ⟨rfl, hb⟩; refine ⟨_, rfl, ?_⟩; replace BK528 := qbb BK528 hb; replace HB := qHB HB hb; (try clear hb); have hz22 := qz8 BK528.out) | ((with_reducible refine gcl (f := 27) rfl ?_); refine gL 20 Tryd.func27 #[.slice A0_5 l0_5.length c0_5, .int .i64 t530] ?_; (with_reducible refine (laws_heldItemS.calls k _ _ l0_5 t530 t531 _ ?_ ?_ A15.out).mono ?_); exact qC HR0_5; exact HC0_5.out; rintro e w23 ⟨rfl, hb⟩; refine ⟨_, rfl, ?_⟩; replace BK528 := qbb BK528 hb; replace HB := qHB HB hb; (try clear hb))); go_ret; exact ⟨qR, qB⟩
      · rw [if_neg c16] at H; have c16b0 := decide_eq_false c16; clear c16; obtain ⟨t532, A24, H⟩ := qbi H; by_cases c25 : t532 < 0
        · rw [if_pos c25] at H; have c25b0 := decide_eq_true c25; clear c25; obtain rfl := qsi H; go_enter Tryd.func8, Tryd.ntmps8; go_wp2_with (first | ((with_reducible refine gds (N := 2) rfl ?_); refine qbx 2 #[.int .i64 a0_0, .string a0_1, .slice A0_2 l0_2.length c0_2, .slice A0_3 l0_3.length c0_3, .string a0_4, .slice A0_5 l0_5.length c0_5, .slice A0_6 l0_6.length c0_6, .slice A0_7 l0_7.length c0_7] 27 ?_; intro gb528 hg w26 hbox hb; have BK528 := qK (hbox); have GW528 := qK ((qW : w.heap.size ≤ gb528)); have GE528 := GW528; replace HB := qHB HB hb; clear hb hbox hg; have hz27 := qz8 BK528.out) | ((with_reducible refine gcl (f := 25) rfl ?_); refine gL 8 Tryd.func25 #[.slice A0_2 l0_2.length c0_2, .int .i64 a1] ?_; (with_reducible refine (laws_heldColumnS.calls k _ _ l0_2 a1 t529 _ ?_ ?_ A3.out).mono ?_); exact qC HR0_2; exact HC0_2.out; rintro e w28 ⟨rfl, hb⟩; refine ⟨_, rfl, ?_⟩; replace BK528 := qbb BK528 hb; replace HB := qHB HB hb; (try clear hb); have hz29 := qz8 BK528.out) | ((with_reducible refine gcl (f := 26) rfl ?_); refine gL 14 Tryd.func26 #[.slice A0_3 l0_3.length c0_3, .int .i64 t529] ?_; (with_reducible refine (laws_heldValueS.calls k _ _ l0_3 t529 t530 _ ?_ ?_ A8.out).mono ?_); exact qC HR0_3; exact HC0_3.out; rintro e w30 ⟨rfl, hb⟩; refine ⟨_, rfl, ?_⟩; replace BK528 := qbb BK528 hb; replace HB := qHB HB hb; (try clear hb); have hz31 := qz8 BK528.out) | ((with_reducible refine gcl (f := 27) rfl ?_); refine gL 20 Tryd.func27 #[.slice A0_5 l0_5.length c0_5, .int .i64 t530] ?_; (with_reducible refine (laws_heldItemS.calls k _ _ l0_5 t530 t531 _ ?_ ?_ A15.out).mono ?_); exact qC HR0_5; exact HC0_5.out; rintro e w32 ⟨rfl, hb⟩; refine ⟨_, rfl, ?_⟩; replace BK528 := qbb BK528 hb; replace HB := qHB HB hb; (try clear hb); have hz33 := qz8 BK528.out) | ((with_reducible refine gcl (f := 27) rfl ?_); refine gL 26 Tryd.func27 #[.slice A0_6 l0_6.length c0_6, .int .i64 t531] ?_; (with_reducible refine (laws_heldItemS.calls k _ _ l0_6 t531 t532 _ ?_ ?_ A24.out).mono ?_); exact qC HR0_6; exact HC0_6.out; rintro e w34 ⟨rfl, hb⟩; refine ⟨_, rfl, ?_⟩; replace BK528 := qbb BK528 hb; replace HB := qHB HB hb; (try clear hb))); go_ret; exact ⟨qR, qB⟩
        · rw [if_neg c25] at H; have c25b0 := decide_eq_false c25; clear c25; obtain ⟨t533, A35, H⟩ := qbi H; by_cases c36 : t533 < 0
          · rw [if_pos c36] at H; have c36b0 := decide_eq_true c36; clear c36; obtain rfl := qsi H; go_enter Tryd.func8, Tryd.ntmps8; go_wp2_with (first | ((with_reducible refine gds (N := 2) rfl ?_); refine qbx 2 #[.int .i64 a0_0, .string a0_1, .slice A0_2 l0_2.length c0_2, .slice A0_3 l0_3.length c0_3, .string a0_4, .slice A0_5 l0_5.length c0_5, .slice A0_6 l0_6.length c0_6, .slice A0_7 l0_7.length c0_7] 27 ?_; intro gb528 hg w37 hbox hb; have BK528 := qK (hbox); have GW528 := qK ((qW : w.heap.size ≤ gb528)); have GE528 := GW528; replace HB := qHB HB hb; clear hb hbox hg; have hz38 := qz8 BK528.out) | ((with_reducible refine gcl (f := 25) rfl ?_); refine gL 8 Tryd.func25 #[.slice A0_2 l0_2.length c0_2, .int .i64 a1] ?_; (with_reducible refine (laws_heldColumnS.calls k _ _ l0_2 a1 t529 _ ?_ ?_ A3.out).mono ?_); exact qC HR0_2; exact HC0_2.out; rintro e w39 ⟨rfl, hb⟩; refine ⟨_, rfl, ?_⟩; replace BK528 := qbb BK528 hb; replace HB := qHB HB hb; (try clear hb); have hz40 := qz8 BK528.out) | ((with_reducible refine gcl (f := 26) rfl ?_); refine gL 14 Tryd.func26 #[.slice A0_3 l0_3.length c0_3, .int .i64 t529] ?_; (with_reducible refine (laws_heldValueS.calls k _ _ l0_3 t529 t530 _ ?_ ?_ A8.out).mono ?_); exact qC HR0_3; exact HC0_3.out; rintro e w41 ⟨rfl, hb⟩; refine ⟨_, rfl, ?_⟩; replace BK528 := qbb BK528 hb; replace HB := qHB HB hb; (try clear hb); have hz42 := qz8 BK528.out) | ((with_reducible refine gcl (f := 27) rfl ?_); refine gL 20 Tryd.func27 #[.slice A0_5 l0_5.length c0_5, .int .i64 t530] ?_; (with_reducible refine (laws_heldItemS.calls k _ _ l0_5 t530 t531 _ ?_ ?_ A15.out).mono ?_); exact qC HR0_5; exact HC0_5.out; rintro e w43 ⟨rfl, hb⟩; refine ⟨_, rfl, ?_⟩; replace BK528 := qbb BK528 hb; replace HB := qHB HB hb; (try clear hb); have hz44 := qz8 BK528.out) | ((with_reducible refine gcl (f := 27) rfl ?_); refine gL 26 Tryd.func27 #[.slice A0_6 l0_6.length c0_6, .int .i64 t531] ?_; (with_reducible refine (laws_heldItemS.calls k _ _ l0_6 t531 t532 _ ?_ ?_ A24.out).mono ?_); exact qC HR0_6; exact HC0_6.out; rintro e w45 ⟨rfl, hb⟩; refine ⟨_, rfl, ?_⟩; replace BK528 := qbb BK528 hb; replace HB := qHB HB hb; (try clear hb); have hz46 := qz8 BK528.out) | ((with_reducible refine gcl (f := 28) rfl ?_); refine gL 32 Tryd.func28 #[.slice A0_7 l0_7.length c0_7, .int .i64 t532] ?_; (with_reducible refine (laws_heldItemSS.calls k _ _ l0_7 t532 t533 _ ?_ ?_ A35.out).mono ?_); exact qC HR0_7; exact HC0_7.out; rintro e w47 ⟨rfl, hb⟩; refine ⟨_, rfl, ?_⟩; replace BK528 := qbb BK528 hb; replace HB := qHB HB hb; (try clear hb))); go_ret; exact ⟨qR, qB⟩
          · rw [if_neg c36] at H; have c36b0 := decide_eq_false c36; clear c36; obtain rfl := qsi H; go_enter Tryd.func8, Tryd.ntmps8; go_wp2_with (first | ((with_reducible refine gds (N := 2) rfl ?_); refine qbx 2 #[.int .i64 a0_0, .string a0_1, .slice A0_2 l0_2.length c0_2, .slice A0_3 l0_3.length c0_3, .string a0_4, .slice A0_5 l0_5.length c0_5, .slice A0_6 l0_6.length c0_6, .slice A0_7 l0_7.length c0_7] 27 ?_; intro gb528 hg w48 hbox hb; have BK528 := qK (hbox); have GW528 := qK ((qW : w.heap.size ≤ gb528)); have GE528 := GW528; replace HB := qHB HB hb; clear hb hbox hg; have hz49 := qz8 BK528.out) | ((with_reducible refine gcl (f := 25) rfl ?_); refine gL 8 Tryd.func25 #[.slice A0_2 l0_2.length c0_2, .int .i64 a1] ?_; (with_reducible refine (laws_heldColumnS.calls k _ _ l0_2 a1 t529 _ ?_ ?_ A3.out).mono ?_); exact qC HR0_2; exact HC0_2.out; rintro e w50 ⟨rfl, hb⟩; refine ⟨_, rfl, ?_⟩; replace BK528 := qbb BK528 hb; replace HB := qHB HB hb; (try clear hb); have hz51 := qz8 BK528.out) | ((with_reducible refine gcl (f := 26) rfl ?_); refine gL 14 Tryd.func26 #[.slice A0_3 l0_3.length c0_3, .int .i64 t529] ?_; (with_reducible refine (laws_heldValueS.calls k _ _ l0_3 t529 t530 _ ?_ ?_ A8.out).mono ?_); exact qC HR0_3; exact HC0_3.out; rintro e w52 ⟨rfl, hb⟩; refine ⟨_, rfl, ?_⟩; replace BK528 := qbb BK528 hb; replace HB := qHB HB hb; (try clear hb); have hz53 := qz8 BK528.out) | ((with_reducible refine gcl (f := 27) rfl ?_); refine gL 20 Tryd.func27 #[.slice A0_5 l0_5.length c0_5, .int .i64 t530] ?_; (with_reducible refine (laws_heldItemS.calls k _ _ l0_5 t530 t531 _ ?_ ?_ A15.out).mono ?_); exact qC HR0_5; exact HC0_5.out; rintro e w54 ⟨rfl, hb⟩; refine ⟨_, rfl, ?_⟩; replace BK528 := qbb BK528 hb; replace HB := qHB HB hb; (try clear hb); have hz55 := qz8 BK528.out) | ((with_reducible refine gcl (f := 27) rfl ?_); refine gL 26 Tryd.func27 #[.slice A0_6 l0_6.length c0_6, .int .i64 t531] ?_; (with_reducible refine (laws_heldItemS.calls k _ _ l0_6 t531 t532 _ ?_ ?_ A24.out).mono ?_); exact qC HR0_6; exact HC0_6.out; rintro e w56 ⟨rfl, hb⟩; refine ⟨_, rfl, ?_⟩; replace BK528 := qbb BK528 hb; replace HB := qHB HB hb; (try clear hb); have hz57 := qz8 BK528.out) | ((with_reducible refine gcl (f := 28) rfl ?_); refine gL 32 Tryd.func28 #[.slice A0_7 l0_7.length c0_7, .int .i64 t532] ?_; (with_reducible refine (laws_heldItemSS.calls k _ _ l0_7 t532 t533 _ ?_ ?_ A35.out).mono ?_); exact qC HR0_7; exact HC0_7.out; rintro e w58 ⟨rfl, hb⟩; refine ⟨_, rfl, ?_⟩; replace BK528 := qbb BK528 hb; replace HB := qHB HB hb; (try clear hb))); go_ret; exact ⟨qR, qB⟩
end Go.Proofs.YtbpfdjbnfkclcaaDoor.L
end
section
set_option linter.unusedVariables false
set_option linter.unusedSimpArgs false
namespace Go.Proofs.YtbpfdjbnfkclcaaDoor.L
open Go Go.RowKit Go.Proofs Go.Proofs.YtbpfdjbnfkclcaaDoor Go.Proofs.YtbpfdjbnfkclcaaDoorW.PrintWords Go.Proofs.YtbpfdjbnfkclcaaDoorW.PrintLast Go.Proofs.YtbpfdjbnfkclcaaDoorW.PrintMore
abbrev DIt := S57
abbrev DIk := k57
abbrev SSk : Kd (List DIt) := Kd.slice 57 DIk
/-- An element of a row of rows: its value, its own row; and the row of rows behind a turn of that own row alone. -/
theorem ss_elem {W : World} {base n cap : Nat} {ad : Addr} {ok : Nat → Prop} {f : Nat → Nat} {ls : List (List DIt)} (h : (Kd.tag f SSk).R 24 W base ok (.slice (some ad) n cap) ls.zipIdx) (i : Nat) (hi : i < ls.length) :
    ∃ vi : Value, W.cell? (ad.add i) = some vi ∧ Kd.R DIk 57 W base ok vi ls[i] ∧
      ∀ (W' : World) (y' : List DIt), Kd.R DIk 57 W' base (fun _ => True) vi y' → (∀ k, k < W.heap.size → some k ≠ vi.ownBlock → W'.heap[k]? = W.heap[k]?) → (Kd.tag f SSk).R 24 W' base ok (.slice (some ad) n cap) ((ls.set i y').zipIdx) := by
  obtain ⟨g, rfl⟩ := Kd.R_head h
  obtain ⟨h0, inner, ho, hr⟩ := h
  have hzi : ls.zipIdx[i]? = some (ls[i], i) := by rw [List.getElem?_zipIdx, List.getElem?_eq_getElem hi]; simp
  obtain ⟨vi, hc, hR⟩ := hr.2 i _ hzi
  have hin : inner[i]? = some vi := by
    have h1 : ((inner.drop (i * (Kd.tag f SSk).sz)).take (Kd.tag f SSk).sz)[0]? = some vi := by rw [hc]; rfl
    rw [List.getElem?_take] at h1
    split at h1
    · rw [List.getElem?_drop] at h1
      rw [← h1]
      congr 1
      show i = i * 1 + 0
      omega
    · cases h1
  refine ⟨vi, ?_, Kd.Rmo hR (fun k hk => hk.1.1), fun W' y' hy hk => ?_⟩
  · have := ho.cells (g := g) (by simp [Value.ownBlock]) i vi hin
    exact this
  · have hne : ∀ k, vi.ownBlock = some k → some k ≠ (Value.slice (some ⟨g, 0, none⟩) n cap).ownBlock ∧ f k = i := fun k hk => ⟨(hR.1 k hk).1.2, (hR.1 k hk).2⟩
    have ho' := ho
    rw [List.length_zipIdx] at ho'
    refine ⟨h0, inner, ?_, ?_, ?_⟩
    · rw [List.length_zipIdx, List.length_set]
      exact own_move ho' (fun k hk' => hk k (own_lt ho' k hk') (fun e => (hne k e.symm).1 hk'.symm))
    · have := hr.1
      rw [List.length_zipIdx] at this ⊢
      rw [List.length_set]
      exact this
    · intro j p hj
      rw [List.getElem?_zipIdx] at hj
      by_cases e : j = i
      · subst e
        rw [List.getElem?_set_self hi] at hj
        simp only [Option.map_some, Option.some.injEq, Nat.zero_add] at hj
        subst hj
        exact ⟨vi, hc, Kd.Rmo (Kd.R_tight rfl hy) (fun k hk => hR.1 k hk.symm)⟩
      · rw [List.getElem?_set_ne (Ne.symm e)] at hj
        have hj2 : ls.zipIdx[j]? = some p := by rw [List.getElem?_zipIdx]; exact hj
        have hp : p.2 = j := by
          cases hl : ls[j]? with
          | none => rw [hl] at hj; cases hj
          | some y => rw [hl] at hj; simp only [Option.map_some, Option.some.injEq] at hj; rw [← hj]; simp
        have hM := hr.2 j p hj2
        exact Kd.M_step (d := SSk) hM (fun k hk' hlt => hk k hlt (fun e2 => e (by have := (hne k e2.symm).2; have := hk'.2; omega)))
/-- Every row of rows marked, one behind the other. -/
def markSS (f : List DIt → Int → Option (Int × List DIt)) : List (List DIt) → Int → Option (Int × List (List DIt))
  | [], k => some (k, [])
  | y :: l, k => (f y k).bind fun p => (markSS f l p.1).bind fun q => some (q.1, p.2 :: q.2)
theorem Kept.trans3 {w W W2 : World} {S : Nat → Prop} (h : Kept w W S) (k : Kept W W2 S) : Kept w W2 S := Kept.then_ h k (fun _ h => .inl h)
set_option maxHeartbeats 8000000 in
set_option maxRecDepth 100000 in
theorem markSS_any (k : Nat) (v : Value) (ls : List (List DIt)) (a1 r1 : Int) (ls' : List (List DIt)) (w0 w : World) (hB : Below w0.heap.size w0 w) (ok : Nat → Prop) (hS : Kd.S SSk 24 w w0.heap.size ok v ls) (hl : ls.length ≤ 1000000)
    (h : markSS (fun l a => laws_markItemS.f k l a) ls a1 = some (r1, ls')) :
    Calls Tryd.prog 24 #[v, .int .i64 a1] w fun e w' => e = .returned (.int .i64 r1) ∧ Kd.S SSk 24 w' w0.heap.size ok v ls' ∧ Below w0.heap.size w0 w' ∧ Kept w w' ok := by
  obtain ⟨A, c, rfl⟩ := Kd.S_slice hS
  obtain ⟨f, hf⟩ := hS
  have HF := qK hf
  have HB := qK hB
  have HK := qK (Kept.refl w ok)
  have HL := qK hl
  have HG := qK h
  clear hf hB hl h
  go_enter Tryd.func24, Tryd.ntmps24
  go_wp2
  go_loopg [1, 5] ls.length (fun kq v1 v5 w' => ∃ (i : Nat) (kk : Int) (ms q : List (List DIt)), v1 = .int .i64 kk ∧ v5 = .int .i64 (i : Int) ∧ Aside0 (kq + i = ls.length) ∧ Aside0 (ms.length = ls.length) ∧ Aside0 (markSS (fun l a => laws_markItemS.f k l a) (ms.drop i) kk = some (r1, q)) ∧ Aside0 (ls' = ms.take i ++ q) ∧ Aside0 ((Kd.tag f SSk).R 24 w' w0.heap.size ok (.slice A ls.length c) ms.zipIdx) ∧ Aside0 (Below w0.heap.size w0 w') ∧ Aside0 (Kept w w' ok))
  case atStart => exact ⟨0, a1, ls, ls', rfl, rfl, ⟨by omega⟩, ⟨rfl⟩, ⟨by rw [List.drop_zero]; exact HG.out⟩, ⟨by rw [List.take_zero, List.nil_append]⟩, HF, HB, HK⟩
  case round =>
    clear HF HB HK HG
    obtain ⟨i, kk, ms, q, rfl, rfl, HI, HM, HG, HQ, HF, HB, HK⟩ := hrel
    cases gk with
    | zero =>
      have d1 : decide ((i : Int) < (ls.length : Int)) = false := decide_eq_false (by have := HI.out; omega)
      have d2 : decide (i < ls.length) = false := decide_eq_false (by have := HI.out; omega)
      have h3 := HG.out
      have hi : i = ms.length := by have := HI.out; have := HM.out; omega
      rw [List.drop_eq_nil_of_le (by omega), markSS] at h3
      simp only [Option.some.injEq, Prod.mk.injEq] at h3
      obtain ⟨rfl, rfl⟩ := h3
      have e : ls' = ms := by have := HQ.out; rw [List.append_nil, hi, List.take_length] at this; exact this
      subst e
      clear hi HQ
      go_wp2
      go_ret
      exact ⟨rfl, ⟨f, HF.out⟩, HB.out, HK.out⟩
    | succ k1 =>
      have hil : i < ms.length := by have := HI.out; have := HM.out; omega
      have hil2 : i < ls.length := by have := HM.out; omega
      have d1 : decide ((i : Int) < (ls.length : Int)) = true := decide_eq_true (by omega)
      have d2 : decide (i < ls.length) = true := decide_eq_true hil2
      have d3 : decide (0 ≤ (i : Int)) = true := decide_eq_true (by omega)
      have p1 : (0 ≤ (i : Int)) = True := eq_true (by omega)
      have p2 : ((i : Int) < (ls.length : Int)) = True := eq_true (by omega)
      have p3 : (i < ls.length) = True := eq_true hil2
      obtain ⟨g, cap, hA, _⟩ := Kd.R_form HF.out (by rw [List.length_zipIdx]; omega)
      injection hA with hA1 hA2 hA3
      obtain ⟨ad, had⟩ : ∃ ad : Addr, (⟨g, 0, none⟩ : Addr) = ad := ⟨_, rfl⟩
      rw [had] at hA1
      subst hA1
      clear had hA2 hA3
      obtain ⟨vi, hc, hR, hput⟩ := ss_elem HF.out i hil
      obtain ⟨y, hy⟩ : ∃ y, ms[i] = y := ⟨_, rfl⟩
      have hyl : ms.drop i = y :: ms.drop (i + 1) := by rw [List.drop_eq_getElem_cons hil, hy]
      rw [hy] at hR
      have h3 := HG.out
      rw [hyl, markSS] at h3
      obtain ⟨⟨k2, y2⟩, hm, h3⟩ := Option.bind_eq_some_iff.mp h3
      obtain ⟨⟨k3, q2⟩, hm2, h3⟩ := Option.bind_eq_some_iff.mp h3
      simp only [Option.some.injEq, Prod.mk.injEq] at h3
      obtain ⟨rfl, rfl⟩ := h3
      have HR := qK hR
      have HP := qK hput
      have HMK := qK hm
      have HN := qK hm2
      have HT := qK (Kd.R_tight rfl hR)
      clear hR hput hm hm2 hyl hy HG HF
      go_wp2_with (first | (go_at_call 23; (with_reducible refine (laws_markItemS.calls k (fun k => some k = vi.ownBlock) vi y kk k2 y2 w0 _ HB.out HT.out HMK.out).mono ?_); rintro e w' ⟨rfl, ho, hb, hkp⟩; have HO := qK ho; have HKP := qK hkp; replace HB := qK hb; clear ho hb hkp))
      go_roundg k1
      case measure => have := HI.out; omega
      case rel =>
        have hRok := HR.out.1
        refine ⟨i + 1, k2, ms.set i y2, q2, rfl, by have e_ : wrap64 ((i : Int) + 1) = ((i + 1 : Nat) : Int) := (by have := HL.out; unfold wrap64; omega); rw [e_], ⟨by have := HI.out; omega⟩, ⟨by rw [List.length_set]; exact HM.out⟩, ⟨?_⟩, ⟨?_⟩, ⟨?_⟩, HB, ⟨?_⟩⟩
        · rw [List.drop_set_of_lt (by omega)]
          exact HN.out
        · rw [HQ.out, List.take_add_one, List.getElem?_set_self hil, List.take_set_of_le (Nat.le_refl _)]
          simp
        · exact HP.out _ _ (Kd.Rmo HO.out (fun _ _ => trivial)) (fun k hk hn => HKP.out.2 k hk (fun e => hn e))
        · exact Kept.trans3 HK.out (Kept.mono HKP.out (fun k e => hRok k e.symm))
end Go.Proofs.YtbpfdjbnfkclcaaDoor.L
end
section
set_option linter.unusedVariables false
set_option linter.unusedSimpArgs false
namespace Go.Proofs.YtbpfdjbnfkclcaaDoor.L
open Go Go.RowKit Go.Proofs Go.Proofs.YtbpfdjbnfkclcaaDoor Go.Proofs.YtbpfdjbnfkclcaaDoorW.PrintWords Go.Proofs.YtbpfdjbnfkclcaaDoorW.PrintLast Go.Proofs.YtbpfdjbnfkclcaaDoorW.PrintMore
/-- Blocks of the rows' own types. -/
def typM (w : World) (k : Nat) : Prop := ∃ cells q, q ∈ [39, 41, 57, 24] ∧ w.heap[k]? = some (.cells cells q (0, 0))
theorem keptM {w W W1 : World} {S : Nat → Prop} (h : Kept w W (typM w)) (k : Kept W W1 S) (hs : ∀ k, S k → typM W k) : Kept w W1 (typM w) := by
  refine ⟨Nat.le_trans h.1 k.1, fun i hi hn => ?_⟩
  have e := h.2 i hi hn
  have hS : ¬ S i := fun hS => hn (by obtain ⟨c, q, hq, hc⟩ := hs i hS; exact ⟨c, q, hq, by rw [← e]; exact hc⟩)
  rw [k.2 i (Nat.lt_of_lt_of_le hi h.1) hS, e]
theorem typS {W : World} {k : Nat} (h : ∃ q, q ∈ 24 :: SSk.E ∧ ∃ cells, W.heap[k]? = some (.cells cells q (0, 0))) : typM W k := by
  obtain ⟨q, hq, c, hc⟩ := h
  have h2 : q ∈ [24, 57] := hq
  have : q = 24 ∨ q = 57 := by simpa using h2
  exact ⟨c, q, by rcases this with rfl | rfl <;> decide, hc⟩
theorem typ_clash {W : World} {k : Nat} {l m : List Nat} (h1 : ∃ q, q ∈ l ∧ ∃ cells, W.heap[k]? = some (.cells cells q (0, 0))) (h2 : ∃ q, q ∈ m ∧ ∃ cells, W.heap[k]? = some (.cells cells q (0, 0))) (ht : ∀ q, q ∈ l → q ∉ m) : False := by
  obtain ⟨q, hq, c, hc⟩ := h1
  obtain ⟨q', hq', c', hc'⟩ := h2
  rw [hc] at hc'
  injection hc' with hc'
  injection hc' with _ e
  subst e
  exact ht q hq hq'
section
variable {α β : Type} {d : Kd α} {d' : Kd β} {e e' base base' : Nat} {W W1 : World} {ok ok' : Nat → Prop} {u v : Value} {xs : List α} {ys : List β}
theorem R_past (h : d.R e W base ok u xs) (hv : d'.R e' W base' ok' v ys) (ht : ∀ q, q ∈ e :: d.E → q ≠ e') (hk : Kept W W1 (fun k => some k = v.ownBlock)) : d.R e W1 base ok u xs :=
  Kd.Rmo (Kd.R_step (Kd.R_apart' h (Kd.R_typed hv) ht) (fun k ho hlt => hk.2 k hlt (fun x => ho.2 x))) (fun _ h => h.1)
theorem S_past (h : Kd.S d e W base ok u xs) (hv : d'.R e' W base' ok' v ys) (ht : ∀ q, q ∈ e :: d.E → q ≠ e') (hk : Kept W W1 (fun k => some k = v.ownBlock)) : Kd.S d e W1 base ok u xs :=
  Kd.Smo (Kd.S_step (Kd.S_apart' h (Kd.R_typed hv) ht) (fun k ho hlt => hk.2 k hlt (fun x => ho.2 x))) (fun _ h => h.1)
theorem R_pastB (h : d.R e W base ok u xs) {S : Nat → Prop} (hk : Kept W W1 S) (hs : ∀ k, ok k → (∃ q, q ∈ e :: d.E ∧ ∃ cells, W.heap[k]? = some (.cells cells q (0, 0))) → ¬ S k) : d.R e W1 base ok u xs :=
  Kd.Rmo (Kd.R_step (Kd.R_bound h) (fun k ho hlt => hk.2 k hlt (hs k ho.1 ho.2.2.2))) (fun _ h => h.1)
end
set_option maxHeartbeats 16000000 in
set_option maxRecDepth 100000 in
theorem markStm_any (k : Nat) (y0 : Int) (y1 y4 : ByteArray) (v2 v3 v5 v6 v7 : Value) (C : List S39) (V : List S41) (E H : List DIt) (O : List (List DIt)) (m1 m2 m3 m4 m5 : Int) (C2 : List S39) (V2 : List S41) (Ex2 Wh2 : List DIt) (O2 : List (List DIt)) (w0 w : World) (hB : Below w0.heap.size w0 w)
    (h2 : Kd.R k39 39 w w0.heap.size (fun _ => True) v2 C) (h3 : Kd.R k41 41 w w0.heap.size (fun _ => True) v3 V) (h5 : Kd.R DIk 57 w w0.heap.size (fun k => some k ≠ v6.ownBlock) v5 E) (h6 : Kd.R DIk 57 w w0.heap.size (fun k => some k ≠ v5.ownBlock) v6 H) (h7 : Kd.S SSk 24 w w0.heap.size (fun k => some k ≠ v5.ownBlock ∧ some k ≠ v6.ownBlock) v7 O)
    (hl : O.length ≤ 1000000) (e1 : laws_markColumnS.f k C 1 = some (m1, C2)) (e2 : laws_markValueS.f k V m1 = some (m2, V2)) (e3 : laws_markItemS.f k E m2 = some (m3, Ex2)) (e4 : laws_markItemS.f k H m3 = some (m4, Wh2)) (e5 : markSS (fun l a => laws_markItemS.f k l a) O m4 = some (m5, O2)) :
    Calls Tryd.prog 7 #[.agg #[.int .i64 y0, .string y1, v2, v3, .string y4, v5, v6, v7], .int .i64 1] w fun e w' => e = .returned (.int .i64 m5) ∧ Kd.R k39 39 w' w0.heap.size (fun _ => True) v2 C2 ∧ Kd.R k41 41 w' w0.heap.size (fun _ => True) v3 V2 ∧ Kd.R DIk 57 w' w0.heap.size (fun k => some k ≠ v6.ownBlock) v5 Ex2 ∧ Kd.R DIk 57 w' w0.heap.size (fun k => some k ≠ v5.ownBlock) v6 Wh2 ∧ Kd.S SSk 24 w' w0.heap.size (fun k => some k ≠ v5.ownBlock ∧ some k ≠ v6.ownBlock) v7 O2 ∧ Below w0.heap.size w0 w' ∧ Kept w w' (typM w) := by
  have H2 := qK h2
  have H3 := qK h3
  have H5 := qK h5
  have H6 := qK h6
  have H7 := qK h7
  have HB := qK hB
  have HL := qK hl
  have E1 := qK e1
  have E2 := qK e2
  have E3 := qK e3
  have E4 := qK e4
  have E5 := qK e5
  have HK := qK (Kept.refl w (typM w))
  clear h2 h3 h5 h6 h7 hB hl e1 e2 e3 e4 e5
  have hu := Tryd.underlying27
  go_enter Tryd.func7, Tryd.ntmps7
  go_upto_region 1 with ((with_reducible refine gds (N := 2) rfl ?_); refine qbx 2 #[.int .i64 y0, .string y1, v2, v3, .string y4, v5, v6, v7] 27 ?_; intro gb hg w' hbox hb; replace H2 := qK (Kd.Rbe H2.out hb); replace H3 := qK (Kd.Rbe H3.out hb); replace H5 := qK (Kd.Rbe H5.out hb); replace H6 := qK (Kd.Rbe H6.out hb); replace H7 := qK (Kd.Sbe H7.out hb); have BK := qK hbox; replace HK := qK (Kept.then_ HK.out (Kept.of_below hb (fun _ => False)) (fun _ h => h.elim)); replace HB := qK (bst HB.out hb); clear hb hbox hg)
  have hz := qz8 BK.out
  go_upto_region 2 with (go_at_call 21; (with_reducible refine (laws_markColumnS.calls k (fun k => some k = v2.ownBlock) v2 C 1 m1 C2 w0 _ HB.out (Kd.R_tight rfl H2.out) E1.out).mono ?_); rintro e w' ⟨rfl, ho, hb, hkp⟩; have hty := Kd.R_typed H2.out; have hkb : ∀ k, some k = v2.ownBlock → typM _ k := fun k e => (hty k e.symm).elim fun c hc => ⟨c, 39, by decide, hc⟩; replace BK := qK ((hkp.2 gb (blt BK.out) (fun e => Kd.R_ne H2.out BK.out (by decide) e)).trans BK.out); replace HK := qK (keptM HK.out hkp hkb); replace H3 := qK (R_past H3.out H2.out (by decide) hkp); replace H5 := qK (R_past H5.out H2.out (by decide) hkp); replace H6 := qK (R_past H6.out H2.out (by decide) hkp); replace H7 := qK (S_past H7.out H2.out (by decide) hkp); replace H2 := qK (Kd.Rmo (Kd.R_tight rfl ho) (fun k e => H2.out.1 k e.symm)); replace HB := qK (hb); clear ho hb hkp hty hkb)
  clear hz
  have hz := qz8 BK.out
  go_upto_region 3 with (go_at_call 22; (with_reducible refine (laws_markValueS.calls k (fun k => some k = v3.ownBlock) v3 V m1 m2 V2 w0 _ HB.out (Kd.R_tight rfl H3.out) E2.out).mono ?_); rintro e w' ⟨rfl, ho, hb, hkp⟩; have hty := Kd.R_typed H3.out; have hkb : ∀ k, some k = v3.ownBlock → typM _ k := fun k e => (hty k e.symm).elim fun c hc => ⟨c, 41, by decide, hc⟩; replace BK := qK ((hkp.2 gb (blt BK.out) (fun e => Kd.R_ne H3.out BK.out (by decide) e)).trans BK.out); replace HK := qK (keptM HK.out hkp hkb); replace H2 := qK (R_past H2.out H3.out (by decide) hkp); replace H5 := qK (R_past H5.out H3.out (by decide) hkp); replace H6 := qK (R_past H6.out H3.out (by decide) hkp); replace H7 := qK (S_past H7.out H3.out (by decide) hkp); replace H3 := qK (Kd.Rmo (Kd.R_tight rfl ho) (fun k e => H3.out.1 k e.symm)); replace HB := qK (hb); clear ho hb hkp hty hkb)
  clear hz
  have hz := qz8 BK.out
  go_upto_region 4 with (go_at_call 23; (with_reducible refine (laws_markItemS.calls k (fun k => some k = v5.ownBlock) v5 E m2 m3 Ex2 w0 _ HB.out (Kd.R_tight rfl H5.out) E3.out).mono ?_); rintro e w' ⟨rfl, ho, hb, hkp⟩; have hty := Kd.R_typed H5.out; have hkb : ∀ k, some k = v5.ownBlock → typM _ k := fun k e => (hty k e.symm).elim fun c hc => ⟨c, 57, by decide, hc⟩; replace BK := qK ((hkp.2 gb (blt BK.out) (fun e => Kd.R_ne H5.out BK.out (by decide) e)).trans BK.out); replace HK := qK (keptM HK.out hkp hkb); replace H2 := qK (R_past H2.out H5.out (by decide) hkp); replace H3 := qK (R_past H3.out H5.out (by decide) hkp); replace H6 := qK (Kd.R_step H6.out (fun k ho' hk' => hkp.2 k hk' (fun e => ho' e))); replace H7 := qK (Kd.S_step H7.out (fun k ho' hk' => hkp.2 k hk' (fun e => ho'.1 e))); replace H5 := qK (Kd.Rmo (Kd.R_tight rfl ho) (fun k e => H5.out.1 k e.symm)); replace HB := qK (hb); clear ho hb hkp hty hkb)
  clear hz
  have hz := qz8 BK.out
  go_upto_region 5 with (go_at_call 23; (with_reducible refine (laws_markItemS.calls k (fun k => some k = v6.ownBlock) v6 H m3 m4 Wh2 w0 _ HB.out (Kd.R_tight rfl H6.out) E4.out).mono ?_); rintro e w' ⟨rfl, ho, hb, hkp⟩; have hty := Kd.R_typed H6.out; have hkb : ∀ k, some k = v6.ownBlock → typM _ k := fun k e => (hty k e.symm).elim fun c hc => ⟨c, 57, by decide, hc⟩; replace BK := qK ((hkp.2 gb (blt BK.out) (fun e => Kd.R_ne H6.out BK.out (by decide) e)).trans BK.out); replace HK := qK (keptM HK.out hkp hkb); replace H2 := qK (R_past H2.out H6.out (by decide) hkp); replace H3 := qK (R_past H3.out H6.out (by decide) hkp); replace H5 := qK (Kd.R_step H5.out (fun k ho' hk' => hkp.2 k hk' (fun e => ho' e))); replace H7 := qK (Kd.S_step H7.out (fun k ho' hk' => hkp.2 k hk' (fun e => ho'.2 e))); replace H6 := qK (Kd.Rmo (Kd.R_tight rfl ho) (fun k e => H6.out.1 k e.symm)); replace HB := qK (hb); clear ho hb hkp hty hkb)
  clear hz
  have hz := qz8 BK.out
  go_wp2_with (go_at_call 24; (with_reducible refine (markSS_any k v7 O m4 m5 O2 w0 _ HB.out _ (Kd.S_bound H7.out) HL.out E5.out).mono ?_); rintro e w' ⟨rfl, ho, hb, hkp⟩; replace HK := qK (keptM HK.out hkp (fun k hk => typS hk.2.2.2)); replace H2 := qK (R_pastB H2.out hkp (fun k _ hq hk => typ_clash hq hk.2.2.2 (by decide))); replace H3 := qK (R_pastB H3.out hkp (fun k _ hq hk => typ_clash hq hk.2.2.2 (by decide))); replace H5 := qK (Kd.Rmo (Kd.R_step (Kd.R_tight rfl H5.out) (fun k e hk' => hkp.2 k hk' (fun h => h.1.1 e))) (fun k e => H5.out.1 k e.symm)); replace H6 := qK (Kd.Rmo (Kd.R_step (Kd.R_tight rfl H6.out) (fun k e hk' => hkp.2 k hk' (fun h => h.1.2 e))) (fun k e => H6.out.1 k e.symm)); replace H7 := qK (Kd.Smo ho (fun _ h => h.1)); replace HB := qK (hb); clear ho hb hkp BK)
  go_ret
  exact ⟨rfl, H2.out, H3.out, H5.out, H6.out, H7.out, HB.out, HK.out⟩
end Go.Proofs.YtbpfdjbnfkclcaaDoor.L
end
section
set_option linter.unusedVariables false
set_option linter.unusedSimpArgs false
namespace Go.Proofs.YtbpfdjbnfkclcaaDoor.L
open Go Go.RowKit Go.Proofs Go.Proofs.YtbpfdjbnfkclcaaDoor Go.Proofs.YtbpfdjbnfkclcaaDoorW.PrintWords Go.Proofs.YtbpfdjbnfkclcaaDoorW.PrintLast Go.Proofs.YtbpfdjbnfkclcaaDoorW.PrintMore
theorem infoStm : (Tryd.prog.info? 27).map (·.size) = some 8 := by kernel_rfl
theorem typ_not {W : World} {g t : Nat} {cs : Array Value} {fr : Nat × Nat} (h : W.heap[g]? = some (.cells cs t fr)) (ht : t ∉ [39, 41, 57, 24]) : ¬ typM W g := fun ⟨c, q, hq, hc⟩ => by
  rw [h] at hc
  injection hc with hc
  injection hc with _ e
  subst e
  exact ht hq
theorem heap_row {w : World} {g : Nat} {cs cs' : Array Value} {t : TypeId} {fr : Nat × Nat} (h : w.heap[g]? = some (.cells cs t fr)) : (w.setRow g cs').heap[g]? = some (.cells cs' t fr) := by
  simp [World.setRow, Array.getElem?_modify, h]
theorem below_row {B g : Nat} {w w' : World} (h : Below B w w') (hg : B ≤ g) (c : Array Value) : Below B w (w'.setRow g c) := by
  refine ⟨h.os, h.tape, h.output, ?_, fun k hk => ?_⟩
  · simpa [World.setRow] using h.size
  · rw [← h.block k hk]
    simp only [World.setRow, Array.getElem?_modify]
    rw [if_neg (by omega)]
theorem blk_row {w : World} {g g' : Nat} {o : Obj} (h : w.heap[g']? = some o) (hne : g' ≠ g) (cs : Array Value) : (w.setRow g cs).heap[g']? = some o := by
  simp only [World.setRow, Array.getElem?_modify]
  rw [if_neg (fun e => hne e.symm)]
  exact h
section
variable {α : Type} {d : Kd α} {e base g t : Nat} {W : World} {ok : Nat → Prop} {u : Value} {xs : List α} {cs : Array Value}
theorem R_row (h : d.R e W base ok u xs) (hX : W.heap[g]? = some (.cells cs t (0, 0))) (ht : ∀ q, q ∈ e :: d.E → q ≠ t) (row : Array Value) : d.R e (W.setRow g row) base ok u xs :=
  Kd.Rmo (Kd.R_step (Kd.Rty h hX ht) (fun k hk _ => by simp only [World.setRow, Array.getElem?_modify]; rw [if_neg (fun e => hk.2 e.symm)])) (fun _ hk => hk.1)
theorem S_row (h : Kd.S d e W base ok u xs) (hX : W.heap[g]? = some (.cells cs t (0, 0))) (ht : ∀ q, q ∈ e :: d.E → q ≠ t) (row : Array Value) : Kd.S d e (W.setRow g row) base ok u xs :=
  Kd.Smo (Kd.S_step (Kd.Sty h hX ht) (fun k hk _ => by simp only [World.setRow, Array.getElem?_modify]; rw [if_neg (fun e => hk.2 e.symm)])) (fun _ hk => hk.1)
end
set_option maxHeartbeats 16000000 in
set_option maxRecDepth 100000 in
theorem lawDec_any (a : ByteArray) (k1 k2 k3 k4 k5 : Nat) (y0 : Int) (y1 y4 : ByteArray) (C C2 : List S39) (V V2 : List S41) (E Ex2 H Wh2 : List DIt) (O O2 : List (List DIt)) (b : Bool) (m1 m2 m3 m4 m5 : Int) (w : World) (hG : GOK w) (hz : a.size ≤ 1048576)
    (e1 : spec_DecodeStm.f k1 a = some (y0, y1, C, V, y4, E, H, O, b)) (e2 : impl_DecodeStm.f k2 a = some (y0, y1, C, V, y4, E, H, O, b)) (e3 : laws_eqStm.f k3 y0 y1 C V y4 E H O y0 y1 C V y4 E H O = some true)
    (f1 : laws_markColumnS.f k4 C 1 = some (m1, C2)) (f2 : laws_markValueS.f k4 V m1 = some (m2, V2)) (f3 : laws_markItemS.f k4 E m2 = some (m3, Ex2)) (f4 : laws_markItemS.f k4 H m3 = some (m4, Wh2)) (f5 : markSS (fun l a => laws_markItemS.f k4 l a) O m4 = some (m5, O2))
    (e5 : laws_heldStm.f k5 y0 y1 C2 V2 y4 Ex2 Wh2 O2 1 = some m5) (hm : ¬ m5 < 0) (hO : O.length ≤ 1000000) :
    Calls Tryd.prog 3 #[.string a] w fun e w' => e = .returned (.bool true) ∧ Below w.heap.size w w' := by
  have HG := qK hG
  have E1 := qK e1
  have E2 := qK e2
  have E3 := qK e3
  have F1 := qK f1
  have F2 := qK f2
  have F3 := qK f3
  have F4 := qK f4
  have F5 := qK f5
  have E5 := qK e5
  have HM := qK hm
  have HO := qK hO
  have HB := qK (Below.refl w.heap.size w)
  have d1 : decide (1048576 < (a.size : Int)) = false := decide_eq_false (by omega)
  have d2 : decide (1048576 < a.size) = false := decide_eq_false (by omega)
  have d3 : (1048576 < a.size) = False := eq_false (by omega)
  clear hG e1 e2 e3 f1 f2 f3 f4 f5 e5 hm hO hz
  have hu := Tryd.underlying27
  go_enter Tryd.func3, Tryd.ntmps3
  go_upto_region 4 with (first | (go_at_call 4; (with_reducible refine (spec_DecodeStm.calls k1 a y0 y1 C V y4 E H O b _ E1.out).mono ?_); rintro e w' ⟨s2, s3, s5, s6, s7, rfl, i2, i3, i5, i6, i7, hb⟩; obtain ⟨A2, a2, rfl⟩ := Kd.R_slice i2; obtain ⟨A3, a3, rfl⟩ := Kd.R_slice i3; obtain ⟨A5, a5, rfl⟩ := Kd.R_slice i5; obtain ⟨A6, a6, rfl⟩ := Kd.R_slice i6; obtain ⟨A7, a7, rfl⟩ := Kd.S_slice i7; have I2 := qK i2; have I3 := qK i3; have I5 := qK i5; have I6 := qK i6; have I7 := qK i7; replace HB := qK (bst HB.out hb); clear hb i2 i3 i5 i6 i7) | ((with_reducible refine gds (N := 3) rfl ?_); refine qbx 3 #[.int .i64 0, .string (⟨#[]⟩ : ByteArray), .slice none 0 0, .slice none 0 0, .string (⟨#[]⟩ : ByteArray), .slice none 0 0, .slice none 0 0, .slice none 0 0] 27 ?_; intro g3 hg w' hbox hb; replace I2 := qK (Kd.Rbe I2.out hb); replace I3 := qK (Kd.Rbe I3.out hb); replace I5 := qK (Kd.Rbe I5.out hb); replace I6 := qK (Kd.Rbe I6.out hb); replace I7 := qK (Kd.Sbe I7.out hb); have B3 := qK hbox; have G3 := qK (show w.heap.size ≤ g3 by rw [hg]; exact HB.out.size); replace HB := qK (bst HB.out hb); clear hb hbox hg) | ((with_reducible refine gst (t := 27) (p := 3) rfl ?_); refine wpList_store_row rfl 27 (.tmp 3) (.tmp 17) rfl g3 #[.int .i64 y0, .string y1, .slice A2 C.length a2, .slice A3 V.length a3, .string y4, .slice A5 E.length a5, .slice A6 H.length a6, .slice A7 O.length a7] ?hx ?hy 27 #[.int .i64 0, .string (⟨#[]⟩ : ByteArray), .slice none 0 0, .slice none 0 0, .string (⟨#[]⟩ : ByteArray), .slice none 0 0, .slice none 0 0, .slice none 0 0] ?hg ?hi ?ho ?h1 ?_; (case hx => rfl); (case hy => rfl); (case hg => exact B3.out); (case hi => exact infoStm); (case ho => rfl); (case h1 => simp [Value.oneCell'])))
  replace I2 := qK (R_row I2.out B3.out (by decide) #[.int .i64 y0, .string y1, .slice A2 C.length a2, .slice A3 V.length a3, .string y4, .slice A5 E.length a5, .slice A6 H.length a6, .slice A7 O.length a7])
  replace I3 := qK (R_row I3.out B3.out (by decide) #[.int .i64 y0, .string y1, .slice A2 C.length a2, .slice A3 V.length a3, .string y4, .slice A5 E.length a5, .slice A6 H.length a6, .slice A7 O.length a7])
  replace I5 := qK (R_row I5.out B3.out (by decide) #[.int .i64 y0, .string y1, .slice A2 C.length a2, .slice A3 V.length a3, .string y4, .slice A5 E.length a5, .slice A6 H.length a6, .slice A7 O.length a7])
  replace I6 := qK (R_row I6.out B3.out (by decide) #[.int .i64 y0, .string y1, .slice A2 C.length a2, .slice A3 V.length a3, .string y4, .slice A5 E.length a5, .slice A6 H.length a6, .slice A7 O.length a7])
  replace I7 := qK (S_row I7.out B3.out (by decide) #[.int .i64 y0, .string y1, .slice A2 C.length a2, .slice A3 V.length a3, .string y4, .slice A5 E.length a5, .slice A6 H.length a6, .slice A7 O.length a7])
  replace HB := qK (below_row HB.out G3.out #[.int .i64 y0, .string y1, .slice A2 C.length a2, .slice A3 V.length a3, .string y4, .slice A5 E.length a5, .slice A6 H.length a6, .slice A7 O.length a7])
  replace B3 := qK (heap_row (cs' := #[.int .i64 y0, .string y1, .slice A2 C.length a2, .slice A3 V.length a3, .string y4, .slice A5 E.length a5, .slice A6 H.length a6, .slice A7 O.length a7]) B3.out)
  generalize World.setRow _ g3 _ = wA at I2 I3 I5 I6 I7 HB B3 ⊢
  have HA := qK (Below.refl wA.heap.size wA)
  go_upto_region 5 with (first | (go_at_call 5; (with_reducible refine (impl_DecodeStm.calls k2 a y0 y1 C V y4 E H O b _ (HG.out.below (bst HB.out HA.out)) E2.out).mono ?_); rintro e w' ⟨s2, s3, s5, s6, s7, rfl, i2, i3, i5, i6, i7, hb⟩; obtain ⟨D2, d2, rfl⟩ := Kd.R_slice i2; obtain ⟨D3, d3, rfl⟩ := Kd.R_slice i3; obtain ⟨D5, d5, rfl⟩ := Kd.R_slice i5; obtain ⟨D6, d6, rfl⟩ := Kd.R_slice i6; obtain ⟨D7, d7, rfl⟩ := Kd.S_slice i7; have J2 := qK i2; have J3 := qK i3; have J5 := qK i5; have J6 := qK i6; have J7 := qK i7; replace HA := qK (bst HA.out hb); clear hb i2 i3 i5 i6 i7) | ((with_reducible refine gds (N := 5) rfl ?_); refine qbx 5 #[.int .i64 0, .string (⟨#[]⟩ : ByteArray), .slice none 0 0, .slice none 0 0, .string (⟨#[]⟩ : ByteArray), .slice none 0 0, .slice none 0 0, .slice none 0 0] 27 ?_; intro g5 hg w' hbox hb; replace J2 := qK (Kd.Rbe J2.out hb); replace J3 := qK (Kd.Rbe J3.out hb); replace J5 := qK (Kd.Rbe J5.out hb); replace J6 := qK (Kd.Rbe J6.out hb); replace J7 := qK (Kd.Sbe J7.out hb); have B5 := qK hbox; have G5 := qK (show wA.heap.size ≤ g5 by rw [hg]; exact HA.out.size); replace HA := qK (bst HA.out hb); clear hb hbox hg) | ((with_reducible refine gst (t := 27) (p := 5) rfl ?_); refine wpList_store_row rfl 27 (.tmp 5) (.tmp 22) rfl g5 #[.int .i64 y0, .string y1, .slice D2 C.length d2, .slice D3 V.length d3, .string y4, .slice D5 E.length d5, .slice D6 H.length d6, .slice D7 O.length d7] ?hx ?hy 27 #[.int .i64 0, .string (⟨#[]⟩ : ByteArray), .slice none 0 0, .slice none 0 0, .string (⟨#[]⟩ : ByteArray), .slice none 0 0, .slice none 0 0, .slice none 0 0] ?hg ?hi ?ho ?h1 ?_; (case hx => rfl); (case hy => rfl); (case hg => exact B5.out); (case hi => exact infoStm); (case ho => rfl); (case h1 => simp [Value.oneCell'])))
  replace J2 := qK (R_row J2.out B5.out (by decide) #[.int .i64 y0, .string y1, .slice D2 C.length d2, .slice D3 V.length d3, .string y4, .slice D5 E.length d5, .slice D6 H.length d6, .slice D7 O.length d7])
  replace J3 := qK (R_row J3.out B5.out (by decide) #[.int .i64 y0, .string y1, .slice D2 C.length d2, .slice D3 V.length d3, .string y4, .slice D5 E.length d5, .slice D6 H.length d6, .slice D7 O.length d7])
  replace J5 := qK (R_row J5.out B5.out (by decide) #[.int .i64 y0, .string y1, .slice D2 C.length d2, .slice D3 V.length d3, .string y4, .slice D5 E.length d5, .slice D6 H.length d6, .slice D7 O.length d7])
  replace J6 := qK (R_row J6.out B5.out (by decide) #[.int .i64 y0, .string y1, .slice D2 C.length d2, .slice D3 V.length d3, .string y4, .slice D5 E.length d5, .slice D6 H.length d6, .slice D7 O.length d7])
  replace J7 := qK (S_row J7.out B5.out (by decide) #[.int .i64 y0, .string y1, .slice D2 C.length d2, .slice D3 V.length d3, .string y4, .slice D5 E.length d5, .slice D6 H.length d6, .slice D7 O.length d7])
  replace HA := qK (below_row HA.out G5.out #[.int .i64 y0, .string y1, .slice D2 C.length d2, .slice D3 V.length d3, .string y4, .slice D5 E.length d5, .slice D6 H.length d6, .slice D7 O.length d7])
  replace B5 := qK (heap_row (cs' := #[.int .i64 y0, .string y1, .slice D2 C.length d2, .slice D3 V.length d3, .string y4, .slice D5 E.length d5, .slice D6 H.length d6, .slice D7 O.length d7]) B5.out)
  generalize World.setRow _ g5 _ = wC at J2 J3 J5 J6 J7 HA B5 ⊢
  go_upto_region 8 with (first | ((with_reducible refine gds (N := 24) rfl ?_); refine wpList_load_row rfl 27 (.tmp 5) rfl g5 ?hp 27 #[.int .i64 y0, .string y1, .slice D2 C.length d2, .slice D3 V.length d3, .string y4, .slice D5 E.length d5, .slice D6 H.length d6, .slice D7 O.length d7] (0, 0) _ ?hg Tryd.underlying27 ?ha ?hi ?_; (case hp => rfl); (case hg => exact B5.out); (case ha => rfl); (case hi => exact infoStm)) | ((with_reducible refine gds (N := 25) rfl ?_); refine wpList_load_row rfl 27 (.tmp 3) rfl g3 ?hp 27 #[.int .i64 y0, .string y1, .slice A2 C.length a2, .slice A3 V.length a3, .string y4, .slice A5 E.length a5, .slice A6 H.length a6, .slice A7 O.length a7] (0, 0) _ ?hg Tryd.underlying27 ?ha ?hi ?_; (case hp => rfl); (case hg => exact (bbe B3.out HA.out)); (case ha => rfl); (case hi => exact infoStm)) | (go_at_call 6; (with_reducible refine (laws_eqStm.calls k3 y0 y1 _ _ C _ _ V y4 _ _ E _ _ H _ _ O y0 y1 _ _ C _ _ V y4 _ _ E _ _ H _ _ O true _ (Kd.R_reads' J2.out).2.2 (Kd.R_reads' J2.out).2.1 (Kd.R_reads' J3.out).2.2 (Kd.R_reads' J3.out).2.1 (Kd.R_reads' J5.out).2.2 (Kd.R_reads' J5.out).2.1 (Kd.R_reads' J6.out).2.2 (Kd.R_reads' J6.out).2.1 (Kd.S_reads' J7.out).2.2 (Kd.S_reads' J7.out).2.1 (Kd.R_reads' (Kd.Rbe I2.out HA.out)).2.2 (Kd.R_reads' (Kd.Rbe I2.out HA.out)).2.1 (Kd.R_reads' (Kd.Rbe I3.out HA.out)).2.2 (Kd.R_reads' (Kd.Rbe I3.out HA.out)).2.1 (Kd.R_reads' (Kd.Rbe I5.out HA.out)).2.2 (Kd.R_reads' (Kd.Rbe I5.out HA.out)).2.1 (Kd.R_reads' (Kd.Rbe I6.out HA.out)).2.2 (Kd.R_reads' (Kd.Rbe I6.out HA.out)).2.1 (Kd.S_reads' (Kd.Sbe I7.out HA.out)).2.2 (Kd.S_reads' (Kd.Sbe I7.out HA.out)).2.1 E3.out).mono ?_); rintro e w' ⟨rfl, hb⟩; replace J2 := qK (Kd.Rbe J2.out hb); replace J3 := qK (Kd.Rbe J3.out hb); replace J5 := qK (Kd.Rbe J5.out hb); replace J6 := qK (Kd.Rbe J6.out hb); replace J7 := qK (Kd.Sbe J7.out hb); replace B5 := qK (bbe B5.out hb); replace HA := qK (bst HA.out hb); clear hb))
  go_upto_region 9 with (first | ((with_reducible refine gds (N := 33) rfl ?_); refine wpList_load_row rfl 27 (.tmp 5) rfl g5 ?hp 27 #[.int .i64 y0, .string y1, .slice D2 C.length d2, .slice D3 V.length d3, .string y4, .slice D5 E.length d5, .slice D6 H.length d6, .slice D7 O.length d7] (0, 0) _ ?hg Tryd.underlying27 ?ha ?hi ?_; (case hp => rfl); (case hg => exact B5.out); (case ha => rfl); (case hi => exact infoStm)) | (go_at_call 7; (with_reducible refine (markStm_any k4 y0 y1 y4 _ _ _ _ _ C V E H O m1 m2 m3 m4 m5 C2 V2 Ex2 Wh2 O2 wA _ HA.out J2.out J3.out J5.out J6.out J7.out HO.out F1.out F2.out F3.out F4.out F5.out).mono ?_); rintro e w' ⟨rfl, i2, i3, i5, i6, i7, hb, hkp⟩; replace B5 := qK ((hkp.2 g5 (blt B5.out) (typ_not B5.out (by decide))).trans B5.out); replace J2 := qK i2; replace J3 := qK i3; replace J5 := qK i5; replace J6 := qK i6; replace J7 := qK i7; replace HA := qK hb; clear hb hkp i2 i3 i5 i6 i7))
  have q2 := (Kd.R_reads' J2.out).1
  have q3 := (Kd.R_reads' J3.out).1
  have q5 := (Kd.R_reads' J5.out).1
  have q6 := (Kd.R_reads' J6.out).1
  have q7 := (Kd.S_reads' J7.out).1
  rw [q2] at J2 B5
  rw [q3] at J3 B5
  rw [q5] at J5 B5
  rw [q6] at J6 B5
  rw [q7] at J7 B5
  clear q2 q3 q5 q6 q7
  go_upto_region 11 with (first | ((with_reducible refine gds (N := 36) rfl ?_); refine wpList_load_row rfl 27 (.tmp 5) rfl g5 ?hp 27 #[.int .i64 y0, .string y1, .slice D2 C2.length d2, .slice D3 V2.length d3, .string y4, .slice D5 Ex2.length d5, .slice D6 Wh2.length d6, .slice D7 O2.length d7] (0, 0) _ ?hg Tryd.underlying27 ?ha ?hi ?_; (case hp => rfl); (case hg => exact B5.out); (case ha => rfl); (case hi => exact infoStm)) | (go_at_call 8; (with_reducible refine (laws_heldStm.calls k5 y0 y1 _ _ C2 _ _ V2 y4 _ _ Ex2 _ _ Wh2 _ _ O2 1 m5 _ (Kd.R_reads' J2.out).2.2 (Kd.R_reads' J2.out).2.1 (Kd.R_reads' J3.out).2.2 (Kd.R_reads' J3.out).2.1 (Kd.R_reads' J5.out).2.2 (Kd.R_reads' J5.out).2.1 (Kd.R_reads' J6.out).2.2 (Kd.R_reads' J6.out).2.1 (Kd.S_reads' J7.out).2.2 (Kd.S_reads' J7.out).2.1 E5.out).mono ?_); rintro e w' ⟨rfl, hb⟩; replace J2 := qK (Kd.Rbe J2.out hb); replace J3 := qK (Kd.Rbe J3.out hb); replace J5 := qK (Kd.Rbe J5.out hb); replace J6 := qK (Kd.Rbe J6.out hb); replace J7 := qK (Kd.Sbe J7.out hb); replace B5 := qK (bbe B5.out hb); replace HA := qK (bst HA.out hb); clear hb))
  have d4 : decide (m5 < 0) = false := decide_eq_false (Int.not_lt.2 HM.out)
  go_upto_region 16 with (first | (go_at_call 5; (with_reducible refine (impl_DecodeStm.calls k2 a y0 y1 C V y4 E H O b _ (HG.out.below (bst HB.out HA.out)) E2.out).mono ?_); rintro e w' ⟨s2, s3, s5, s6, s7, rfl, i2, i3, i5, i6, i7, hb⟩; obtain ⟨X2, x2, rfl⟩ := Kd.R_slice i2; obtain ⟨X3, x3, rfl⟩ := Kd.R_slice i3; obtain ⟨X5, x5, rfl⟩ := Kd.R_slice i5; obtain ⟨X6, x6, rfl⟩ := Kd.R_slice i6; obtain ⟨X7, x7, rfl⟩ := Kd.S_slice i7; have N2 := qK i2; have N3 := qK i3; have N5 := qK i5; have N6 := qK i6; have N7 := qK i7; replace J2 := qK (Kd.Rbe J2.out hb); replace J3 := qK (Kd.Rbe J3.out hb); replace J5 := qK (Kd.Rbe J5.out hb); replace J6 := qK (Kd.Rbe J6.out hb); replace J7 := qK (Kd.Sbe J7.out hb); replace B5 := qK (bbe B5.out hb); replace HA := qK (bst HA.out hb); clear hb i2 i3 i5 i6 i7) | ((with_reducible refine gds (N := 9) rfl ?_); refine qbx 9 #[.int .i64 0, .string (⟨#[]⟩ : ByteArray), .slice none 0 0, .slice none 0 0, .string (⟨#[]⟩ : ByteArray), .slice none 0 0, .slice none 0 0, .slice none 0 0] 27 ?_; intro g9 hg w' hbox hb; replace J2 := qK (Kd.Rbe J2.out hb); replace J3 := qK (Kd.Rbe J3.out hb); replace J5 := qK (Kd.Rbe J5.out hb); replace J6 := qK (Kd.Rbe J6.out hb); replace J7 := qK (Kd.Sbe J7.out hb); replace N2 := qK (Kd.Rbe N2.out hb); replace N3 := qK (Kd.Rbe N3.out hb); replace N5 := qK (Kd.Rbe N5.out hb); replace N6 := qK (Kd.Rbe N6.out hb); replace N7 := qK (Kd.Sbe N7.out hb); have N59 := qK (show g5 ≠ g9 by rw [hg]; exact Nat.ne_of_lt (blt B5.out)); replace B5 := qK (bbe B5.out hb); have B9 := qK hbox; have G9 := qK (show wA.heap.size ≤ g9 by rw [hg]; exact HA.out.size); replace HA := qK (bst HA.out hb); clear hb hbox hg) | ((with_reducible refine gst (t := 27) (p := 9) rfl ?_); refine wpList_store_row rfl 27 (.tmp 9) (.tmp 47) rfl g9 #[.int .i64 y0, .string y1, .slice X2 C.length x2, .slice X3 V.length x3, .string y4, .slice X5 E.length x5, .slice X6 H.length x6, .slice X7 O.length x7] ?hx ?hy 27 #[.int .i64 0, .string (⟨#[]⟩ : ByteArray), .slice none 0 0, .slice none 0 0, .string (⟨#[]⟩ : ByteArray), .slice none 0 0, .slice none 0 0, .slice none 0 0] ?hg ?hi ?ho ?h1 ?_; (case hx => rfl); (case hy => rfl); (case hg => exact B9.out); (case hi => exact infoStm); (case ho => rfl); (case h1 => simp [Value.oneCell'])))
  replace J2 := qK (R_row J2.out B9.out (by decide) #[.int .i64 y0, .string y1, .slice X2 C.length x2, .slice X3 V.length x3, .string y4, .slice X5 E.length x5, .slice X6 H.length x6, .slice X7 O.length x7])
  replace J3 := qK (R_row J3.out B9.out (by decide) #[.int .i64 y0, .string y1, .slice X2 C.length x2, .slice X3 V.length x3, .string y4, .slice X5 E.length x5, .slice X6 H.length x6, .slice X7 O.length x7])
  replace J5 := qK (R_row J5.out B9.out (by decide) #[.int .i64 y0, .string y1, .slice X2 C.length x2, .slice X3 V.length x3, .string y4, .slice X5 E.length x5, .slice X6 H.length x6, .slice X7 O.length x7])
  replace J6 := qK (R_row J6.out B9.out (by decide) #[.int .i64 y0, .string y1, .slice X2 C.length x2, .slice X3 V.length x3, .string y4, .slice X5 E.length x5, .slice X6 H.length x6, .slice X7 O.length x7])
  replace J7 := qK (S_row J7.out B9.out (by decide) #[.int .i64 y0, .string y1, .slice X2 C.length x2, .slice X3 V.length x3, .string y4, .slice X5 E.length x5, .slice X6 H.length x6, .slice X7 O.length x7])
  replace N2 := qK (R_row N2.out B9.out (by decide) #[.int .i64 y0, .string y1, .slice X2 C.length x2, .slice X3 V.length x3, .string y4, .slice X5 E.length x5, .slice X6 H.length x6, .slice X7 O.length x7])
  replace N3 := qK (R_row N3.out B9.out (by decide) #[.int .i64 y0, .string y1, .slice X2 C.length x2, .slice X3 V.length x3, .string y4, .slice X5 E.length x5, .slice X6 H.length x6, .slice X7 O.length x7])
  replace N5 := qK (R_row N5.out B9.out (by decide) #[.int .i64 y0, .string y1, .slice X2 C.length x2, .slice X3 V.length x3, .string y4, .slice X5 E.length x5, .slice X6 H.length x6, .slice X7 O.length x7])
  replace N6 := qK (R_row N6.out B9.out (by decide) #[.int .i64 y0, .string y1, .slice X2 C.length x2, .slice X3 V.length x3, .string y4, .slice X5 E.length x5, .slice X6 H.length x6, .slice X7 O.length x7])
  replace N7 := qK (S_row N7.out B9.out (by decide) #[.int .i64 y0, .string y1, .slice X2 C.length x2, .slice X3 V.length x3, .string y4, .slice X5 E.length x5, .slice X6 H.length x6, .slice X7 O.length x7])
  replace HA := qK (below_row HA.out G9.out #[.int .i64 y0, .string y1, .slice X2 C.length x2, .slice X3 V.length x3, .string y4, .slice X5 E.length x5, .slice X6 H.length x6, .slice X7 O.length x7])
  replace B5 := qK (blk_row B5.out N59.out #[.int .i64 y0, .string y1, .slice X2 C.length x2, .slice X3 V.length x3, .string y4, .slice X5 E.length x5, .slice X6 H.length x6, .slice X7 O.length x7])
  replace B9 := qK (heap_row (cs' := #[.int .i64 y0, .string y1, .slice X2 C.length x2, .slice X3 V.length x3, .string y4, .slice X5 E.length x5, .slice X6 H.length x6, .slice X7 O.length x7]) B9.out)
  generalize World.setRow _ g9 _ = wD at J2 J3 J5 J6 J7 N2 N3 N5 N6 N7 HA B5 B9 ⊢
  go_upto_region 19 with (first | ((with_reducible refine gds (N := 49) rfl ?_); refine wpList_load_row rfl 27 (.tmp 9) rfl g9 ?hp 27 #[.int .i64 y0, .string y1, .slice X2 C.length x2, .slice X3 V.length x3, .string y4, .slice X5 E.length x5, .slice X6 H.length x6, .slice X7 O.length x7] (0, 0) _ ?hg Tryd.underlying27 ?ha ?hi ?_; (case hp => rfl); (case hg => exact B9.out); (case ha => rfl); (case hi => exact infoStm)) | ((with_reducible refine gds (N := 50) rfl ?_); refine wpList_load_row rfl 27 (.tmp 3) rfl g3 ?hp 27 #[.int .i64 y0, .string y1, .slice A2 C.length a2, .slice A3 V.length a3, .string y4, .slice A5 E.length a5, .slice A6 H.length a6, .slice A7 O.length a7] (0, 0) _ ?hg Tryd.underlying27 ?ha ?hi ?_; (case hp => rfl); (case hg => exact (bbe B3.out HA.out)); (case ha => rfl); (case hi => exact infoStm)) | (go_at_call 6; (with_reducible refine (laws_eqStm.calls k3 y0 y1 _ _ C _ _ V y4 _ _ E _ _ H _ _ O y0 y1 _ _ C _ _ V y4 _ _ E _ _ H _ _ O true _ (Kd.R_reads' N2.out).2.2 (Kd.R_reads' N2.out).2.1 (Kd.R_reads' N3.out).2.2 (Kd.R_reads' N3.out).2.1 (Kd.R_reads' N5.out).2.2 (Kd.R_reads' N5.out).2.1 (Kd.R_reads' N6.out).2.2 (Kd.R_reads' N6.out).2.1 (Kd.S_reads' N7.out).2.2 (Kd.S_reads' N7.out).2.1 (Kd.R_reads' (Kd.Rbe I2.out HA.out)).2.2 (Kd.R_reads' (Kd.Rbe I2.out HA.out)).2.1 (Kd.R_reads' (Kd.Rbe I3.out HA.out)).2.2 (Kd.R_reads' (Kd.Rbe I3.out HA.out)).2.1 (Kd.R_reads' (Kd.Rbe I5.out HA.out)).2.2 (Kd.R_reads' (Kd.Rbe I5.out HA.out)).2.1 (Kd.R_reads' (Kd.Rbe I6.out HA.out)).2.2 (Kd.R_reads' (Kd.Rbe I6.out HA.out)).2.1 (Kd.S_reads' (Kd.Sbe I7.out HA.out)).2.2 (Kd.S_reads' (Kd.Sbe I7.out HA.out)).2.1 E3.out).mono ?_); rintro e w' ⟨rfl, hb⟩; replace J2 := qK (Kd.Rbe J2.out hb); replace J3 := qK (Kd.Rbe J3.out hb); replace J5 := qK (Kd.Rbe J5.out hb); replace J6 := qK (Kd.Rbe J6.out hb); replace J7 := qK (Kd.Sbe J7.out hb); replace B5 := qK (bbe B5.out hb); replace HA := qK (bst HA.out hb); clear hb))
  go_wp2_with (first | ((with_reducible refine gds (N := 58) rfl ?_); refine wpList_load_row rfl 27 (.tmp 5) rfl g5 ?hp 27 #[.int .i64 y0, .string y1, .slice D2 C2.length d2, .slice D3 V2.length d3, .string y4, .slice D5 Ex2.length d5, .slice D6 Wh2.length d6, .slice D7 O2.length d7] (0, 0) _ ?hg Tryd.underlying27 ?ha ?hi ?_; (case hp => rfl); (case hg => exact B5.out); (case ha => rfl); (case hi => exact infoStm)) | (go_at_call 8; (with_reducible refine (laws_heldStm.calls k5 y0 y1 _ _ C2 _ _ V2 y4 _ _ Ex2 _ _ Wh2 _ _ O2 1 m5 _ (Kd.R_reads' J2.out).2.2 (Kd.R_reads' J2.out).2.1 (Kd.R_reads' J3.out).2.2 (Kd.R_reads' J3.out).2.1 (Kd.R_reads' J5.out).2.2 (Kd.R_reads' J5.out).2.1 (Kd.R_reads' J6.out).2.2 (Kd.R_reads' J6.out).2.1 (Kd.S_reads' J7.out).2.2 (Kd.S_reads' J7.out).2.1 E5.out).mono ?_); rintro e w' ⟨rfl, hb⟩; replace HA := qK (bst HA.out hb); clear hb))
  go_ret
  exact ⟨rfl, bst HB.out HA.out⟩
set_option maxHeartbeats 16000000 in
set_option maxRecDepth 100000 in
theorem lawDec_big (a : ByteArray) (w : World) (hz : 1048576 < a.size) : Calls Tryd.prog 3 #[.string a] w fun e w' => e = .returned (.bool true) ∧ Below w.heap.size w w' := by
  have d1 : decide (1048576 < (a.size : Int)) = true := decide_eq_true (by omega)
  have d2 : decide (1048576 < a.size) = true := decide_eq_true hz
  have d3 : (1048576 < a.size) = True := eq_true hz
  clear hz
  go_enter Tryd.func3, Tryd.ntmps3
  go_wp2
  go_ret
  exact ⟨rfl, Below.refl _ _⟩
/-- What the law asks of plain functions. -/
def DecOk (a : ByteArray) : Prop := 1048576 < a.size ∨ (a.size ≤ 1048576 ∧ ∃ (k1 k2 k3 k4 k5 : Nat) (y0 : Int) (y1 y4 : ByteArray) (C C2 : List S39) (V V2 : List S41) (E Ex2 H Wh2 : List DIt) (O O2 : List (List DIt)) (b : Bool) (m1 m2 m3 m4 m5 : Int),
  spec_DecodeStm.f k1 a = some (y0, y1, C, V, y4, E, H, O, b) ∧ impl_DecodeStm.f k2 a = some (y0, y1, C, V, y4, E, H, O, b) ∧ laws_eqStm.f k3 y0 y1 C V y4 E H O y0 y1 C V y4 E H O = some true ∧
  laws_markColumnS.f k4 C 1 = some (m1, C2) ∧ laws_markValueS.f k4 V m1 = some (m2, V2) ∧ laws_markItemS.f k4 E m2 = some (m3, Ex2) ∧ laws_markItemS.f k4 H m3 = some (m4, Wh2) ∧ markSS (fun l a => laws_markItemS.f k4 l a) O m4 = some (m5, O2) ∧
  laws_heldStm.f k5 y0 y1 C2 V2 y4 Ex2 Wh2 O2 1 = some m5 ∧ ¬ m5 < 0 ∧ O.length ≤ 1000000)
theorem lawDec_ok (a : ByteArray) (w : World) (hG : GOK w) (h : DecOk a) : Calls Tryd.prog 3 #[.string a] w fun e w' => e = .returned (.bool true) ∧ Below w.heap.size w w' := by
  rcases h with h | ⟨hz, k1, k2, k3, k4, k5, y0, y1, y4, C, C2, V, V2, E, Ex2, H, Wh2, O, O2, b, m1, m2, m3, m4, m5, e1, e2, e3, f1, f2, f3, f4, f5, e5, hm, hO⟩
  · exact lawDec_big a w h
  · exact lawDec_any a k1 k2 k3 k4 k5 y0 y1 y4 C C2 V V2 E Ex2 H Wh2 O O2 b m1 m2 m3 m4 m5 w hG hz e1 e2 e3 f1 f2 f3 f4 f5 e5 hm hO
end Go.Proofs.YtbpfdjbnfkclcaaDoor.L
end
section
namespace Go.Proofs.YtbpfdjbnfkclcaaDoor.L
open Go.RowKit Go.Proofs.YtbpfdjbnfkclcaaDoorW.PrintWords Go.Proofs.YtbpfdjbnfkclcaaDoorW.PrintLast Go.Proofs.YtbpfdjbnfkclcaaDoorW.PrintMore
attribute [local go_sem] max2_int min2_int max_two min_two max_three min_three max_four min_four
set_option linter.unusedVariables false
set_option linter.unusedSimpArgs false
noncomputable def laws_FnExactDecodeStm.f (k : Nat) (a0 : ByteArray) : Option (Bool) := @ite _ (DecOk a0) (Classical.propDecidable _) (some true) none
theorem laws_FnExactDecodeStm.mono : ∀ a0 k, LeO (laws_FnExactDecodeStm.f k a0) (laws_FnExactDecodeStm.f (k + 1) a0) := fun _ _ => LeO.refl _
theorem laws_FnExactDecodeStm.calls (k : Nat) (a0 : ByteArray) (r : Bool) (hT : r = true) (w : World) (hG : GOK w) (h : laws_FnExactDecodeStm.f k a0 = some r) :
    Calls Tryd.prog 3 #[.string a0] w fun e w' => e = .returned (.bool r) ∧ Below w.heap.size w w' := by
  subst hT
  unfold laws_FnExactDecodeStm.f at h
  by_cases hok : DecOk a0
  · exact lawDec_ok a0 w hG hok
  · rw [if_neg hok] at h
    cases h
end Go.Proofs.YtbpfdjbnfkclcaaDoor.L
end
section
set_option linter.unusedVariables false
namespace Go.Proofs.YtbpfdjbnfkclcaaDoor
open Go Go.RowKit Go.ChangeShapes Go.WideShapes Go.ChangeAt Go.WideMaps Go.WideElems
theorem kw_named : Tryd.prog.globalNamed "loop.example/s02884/impl.keywords" = some 0 := by kernel_rfl
theorem kw_type : (Tryd.prog.globals[0]?).map (·.type) = some 77 := by kernel_rfl
theorem kw_atKey {H : Type} : ∀ (l : List (List UInt8)) (k : List UInt8) (z : DataW H), (DataW.map (l.map fun x => (Lit.string x, DataW.lit (.bool true)))).atKey (.string k) z = if l.contains k then .lit (.bool true) else z := by
  intro l k z
  induction l with
  | nil => rfl
  | cons x l ih =>
    have hs : (Lit.string x).sameKey (Lit.string k) = (x == k) := rfl
    simp only [DataW.atKey] at ih
    simp only [DataW.atKey, List.map_cons, List.find?_cons, hs, List.contains_cons]
    by_cases h : x = k
    · subst h
      rw [show (x == x) = true from beq_self_eq_true x]
      rfl
    · rw [show (x == k) = false from beq_eq_false_iff_ne.2 h, show (k == x) = false from beq_eq_false_iff_ne.2 (Ne.symm h), Bool.false_or]
      exact ih
theorem kw_datum {H : Type} : (Rows.laid_loop_example_s02884_impl_keywords : DataW H) = .map (kwL.map fun x => (Lit.string x, DataW.lit (.bool true))) := rfl
set_option maxRecDepth 100000 in
theorem gok_of_laid {W : World} (h : laidMetH Tryd.prog [("loop.example/s02884/impl.keywords", Rows.laid_loop_example_s02884_impl_keywords)] W) : GOK W := by
  rw [MakeChecks.laidMetH_plain _ _ _ (by kernel_rfl)] at h
  obtain ⟨ps, ⟨g0, t0, cs0, f0, p0, q0, hg0, ht0, hv0, hd0, _, _⟩, _, _⟩ := h
  obtain rfl := Option.some.inj (kw_named.symm.trans hg0)
  obtain rfl := Option.some.inj (kw_type.symm.trans ht0)
  rcases open_map Tryd.underlying77 hd0 with ⟨_, hx⟩ | ⟨bm, es, clock, m, rfl, hcs, hb, _, F, hx⟩
  · exact absurd (congrArg Prod.fst hx) (by intro e; cases e)
  simp only [Prod.mk.injEq] at hx
  have hcell : W.cell? ⟨0, 0, none⟩ = some (.map (some bm)) := by
    have := World.var?_cell hg0 hv0 0
    rw [Array.eq_one_of_toList hcs] at this
    simpa using this
  refine ⟨bm, es, clock, hcell, hb, fun w' hb' s hs => ?_⟩
  have zero : (zeroValue 4).run Tryd.prog w' = .ok (.bool false) w' := by kernel_rfl
  rcases fit_lookup (w := w') (string_law Tryd.underlying9) Tryd.underlying77 zero hb' F (keyOf_string_mk (s := s) Tryd.underlying9 (by unfold maxLen; omega)) with ⟨hrun, hat⟩ | ⟨v, y, hrun, hRv, hat, _⟩
  · have := hat (.lit (.bool false))
    rw [← hx.1, kw_datum, kw_atKey] at this
    rw [hrun]
    unfold isKw
    cases hc : kwL.contains s.data.toList with
    | false => rfl
    | true => rw [hc] at this; simp at this
  · obtain ⟨r, rfl, rfl⟩ := elemAt_bool Tryd.underlying4 hRv
    have := hat (.lit (.bool false))
    rw [← hx.1, kw_datum, kw_atKey] at this
    rw [hrun]
    unfold isKw
    cases hc : kwL.contains s.data.toList with
    | false => rw [hc] at this; simp at this; rw [← this]
    | true => rw [hc] at this; simp at this; rw [← this]
end Go.Proofs.YtbpfdjbnfkclcaaDoor
end
section
set_option linter.unusedVariables false
set_option linter.unusedSimpArgs false
namespace Go.Proofs.YtbpfdjbnfkclcaaDoor.fnExactDecodeStm
open Go.ChangeShapes Go.WideShapes Go.ChangeAt Go.RowKit Go.Proofs.YtbpfdjbnfkclcaaDoor Go.Proofs.YtbpfdjbnfkclcaaDoor.L Go.Proofs.YtbpfdjbnfkclcaaDoorW.PrintWords
open Go.ChangeMaps (open_string shut_string)
/-- THE ONE PURE STATEMENT of the law: no memory, no Go. -/
def Pure0 : Prop := ∀ (a0 : ByteArray), a0.size ≤ maxLen → ∃ k, laws_FnExactDecodeStm.f k a0 = some true
theorem own : ownKnob Tryd.prog.godebug = none := by kernel_rfl
theorem laidOut : laidOutB Tryd.prog = true := by kernel_rfl
/-- The door's own heap meets the condition. -/
theorem door_met (os : Os) (args : Array Value) : laidMetH Tryd.prog Rows.fnExactDecodeStmRow.laid ((World.doorLaid Tryd.prog 99 os).forCall (fun _ _ => 0) ⟨#[], args, []⟩).memory :=
  laidMetH_of_parts3 (fuel := 8) (laidMet_of_run' 8 (by kernel_rfl) (by kernel_rfl)) (by kernel_rfl) (by kernel_rfl)
set_option maxRecDepth 100000 in
theorem lifted (Q : Pure0) (os : Os) (started : os.Started) (H : Type) (enc : TypeId × Value → H) :
    ReturnsInHanded {} Tryd.checked os 3 .any (fun w args => (Rows.fnExactDecodeStmSpec.pre enc Tryd.prog Tryd.f3 [] false w args ∧ laidMetH Tryd.prog Rows.fnExactDecodeStmRow.laid w) ∧ sizedMet enc Tryd.prog Tryd.f3 (OpenSpec.ofChange Rows.fnExactDecodeStmSpec) false w args) (Rows.fnExactDecodeStmSpec.post enc Tryd.prog Tryd.f3 false true false false) := by
  refine returnsInHanded_of_change_and (C := Tryd.checked) (X := fun w _ => laidMetH Tryd.prog Rows.fnExactDecodeStmRow.laid w) (fun _ _ _ hh h => h.of_heap hh) own started (by kernel_rfl) Tryd.func3
    (ChangeSpec.witness_shaped (enc := enc) (C := Tryd.checked) (os := os) (X := fun w _ => laidMetH Tryd.prog Rows.fnExactDecodeStmRow.laid w) false (World.doorLaid Tryd.prog 99 os) #[.string ByteArray.empty] 8 rfl (World.shaped_of_RefB (by kernel_rfl) (by kernel_rfl)) (by kernel_rfl) (by kernel_rfl) (by kernel_rfl) (door_met os _)) ?_
  intro W base args ds gs before hval0 hW _ _ hL _
  have hval : ∀ (j : Nat) t v, Tryd.f3.params[j]? = some t → args[j]? = some v → Value.okWide Tryd.prog W .any base t v := hval0
  have hW' := hW
  obtain ⟨p, q, hA0, hV, rfl, hfz, hnd⟩ := hW
  have hA : DataW.TrodAll enc Tryd.prog W 0 (fun _ => true) true Tryd.f3.params.toList args.toList ds p := hA0
  rw [Tryd.params3] at hA hval
  obtain ⟨v0, vs0, d0, ds0, p0, q0, hargs, rfl, rfl, h0, r0⟩ := trodAll_cons hA
  obtain ⟨rfl, rfl, rfl⟩ := trodAll_nil r0
  obtain rfl : args = #[v0] := by cases args; simp_all
  have hV' := hV
  obtain ⟨g_, t_, cs_, fuel_, dg1, p_, rfl, _⟩ := trodVars_one hV'
  have hG := gok_of_laid hL
  obtain ⟨a0, rfl, rfl, rfl, w0⟩ := open_string Tryd.underlying9 (hval 0 9 v0 rfl rfl) h0
  clear hA0 hval0
  obtain ⟨k, hk⟩ := Q a0 w0
  refine (laws_FnExactDecodeStm.calls k a0 true rfl W hG  hk).mono fun e W' he => ?_
  obtain ⟨rfl, bel0⟩ := he
  have bel : Below W.heap.size W W' := bel0
  exact ⟨_, rfl, _, _, _, [], _, _, hW', trodAll_mk1 (shut_bool Tryd.underlying4 _), (trodAll_cons_mk (shut_string Tryd.underlying9 w0) trodAll_mk0), Below.trodVars laidOut bel (by kernel_rfl) hV, bel.frame _, fun h => by cases h⟩
theorem over (Q : Pure0) : Rows.fnExactDecodeStmRow.holds Tryd.pinned (OpenSpec.ofChange Rows.fnExactDecodeStmSpec) :=
  OpenClaim.holds_of_wide 3 Tryd.f3 rfl rfl rfl rfl rfl rfl rfl ⟨rfl, rfl, rfl, rfl, rfl⟩ rfl rfl rfl rfl rfl (by kernel_rfl) Tryd.func3 (by kernel_rfl)
    (of_decide_eq_true (by kernel_rfl)) (by unfold Func.isWrapper; first | (rw [if_pos (by decide +kernel)]; kernel_rfl) | (rw [if_neg (by decide +kernel)]; exact ⟨rfl, rfl⟩))
    (fun os started H enc _ => lifted Q os started H enc)
/-- The tied card. -/
theorem card (Q : Pure0) : Rows.FnExactDecodeStmCardSaid :=
  Claim7.holds_tied_plain_at .later [] [.mapped] true (true, "7a7401fa5a7dd5d6dda83d54ed1c4c634a08f19ea872df16f5115789d14a36d5") false (over Q) (fun _ h => by cases h) (by kernel_rfl) (fun _ h => by cases h) fnExactDecodeStm_row_tie rfl ⟨rfl, rfl⟩ (by kernel_rfl) rfl
    (fun f fn hf hfn => by
      obtain rfl : f = 3 := Option.some.inj ((show Tryd.prog.funcNamed "loop.example/s02884/laws.FnExactDecodeStm" = some 3 by kernel_rfl).symm.trans hf) |>.symm
      obtain rfl : fn = Tryd.f3 := (Option.some.inj (Tryd.func3.symm.trans hfn)).symm
      refine ⟨by kernel_rfl, fun j t ht => ?_⟩
      rw [Tryd.params3] at ht
      have ha : (#[9] : Array TypeId).all (fun t => !Tryd.prog.wantsStandIn t) = true := by kernel_rfl
      have h1 := (Array.all_eq_true_iff_forall_mem.1 ha) t (Array.mem_of_getElem? ht)
      have h2 : Tryd.prog.wantsStandIn t = false := by simpa using h1
      exact h2)
    (by kernel_rfl)
end Go.Proofs.YtbpfdjbnfkclcaaDoor.fnExactDecodeStm
end
section
set_option linter.unusedVariables false
namespace Go.Proofs.YtbpfdjbnfkclcaaDoor.Pure
open Go Go.RowKit Go.Proofs.YtbpfdjbnfkclcaaDoor Go.Proofs.YtbpfdjbnfkclcaaDoorW.PrintWords
theorem w64 (x : Int) (h : -9223372036854775808 ≤ x ∧ x ≤ 9223372036854775807) : wrap64 x = x := by unfold wrap64; omega
theorem wsucc (i : Nat) (h : i < 9223372036854775807) : wrap64 ((i : Int) + 1) = ((i + 1 : Nat) : Int) := by unfold wrap64; omega
theorem rdS (l : List ByteArray) (i : Nat) (h : i < l.length) : rdOf ByteArray.empty l (i : Int) = l[i] := by
  simp [rdOf, List.getD, h]
end Go.Proofs.YtbpfdjbnfkclcaaDoor.Pure
end
section
set_option linter.unusedVariables false
set_option linter.unusedSimpArgs false
namespace Go.Proofs.YtbpfdjbnfkclcaaDoor.Gen
open Go Go.RowKit Go.Proofs.YtbpfdjbnfkclcaaDoor Go.Proofs.YtbpfdjbnfkclcaaDoorW.PrintWords
/-- The sum of the elements' weights. -/
def sumW {α : Type} (w : α → Nat) (l : List α) : Nat := (l.map w).sum
theorem sumW_drop {α : Type} (w : α → Nat) (l : List α) (i : Nat) (h : i < l.length) : sumW w (l.drop i) = w l[i] + sumW w (l.drop (i + 1)) := by
  rw [show l.drop i = l[i] :: l.drop (i + 1) from List.drop_eq_getElem_cons h]
  rfl
theorem sz {α : Type} (w : α → Nat) (F : Nat → List α → Int → Int → Option Int) (E : Nat → α → Int → Option Int) (l : List α) (B : Int)
    (hs : ∀ k a (i : Nat) (h : i < l.length), F (k + 1) l a (i : Int) = (E k l[i] a).bind fun t => if t < 0 then some (-1) else F k l t ((i + 1 : Nat) : Int))
    (hz : ∀ k a, F (k + 1) l a (l.length : Int) = some a)
    (hE : ∀ x ∈ l, ∀ a, 0 ≤ a → a ≤ B → Ev (fun k => E k x a) (if (w x : Int) ≤ a then a - w x else -1)) (d : Nat) :
    ∀ (i : Nat) (a : Int), i + d = l.length → 0 ≤ a → a ≤ B → Ev (fun k => F k l a (i : Int)) (if (sumW w (l.drop i) : Int) ≤ a then a - sumW w (l.drop i) else -1) := by
  induction d with
  | zero =>
    intro i a hi h0 h1
    have hd : l.drop i = [] := List.drop_eq_nil_of_le (by omega)
    obtain rfl : i = l.length := by omega
    refine Ev.step (f := fun _ => some a) (fun k => hz k a) ?_
    rw [hd]
    have e : sumW w ([] : List α) = 0 := rfl
    rw [e, if_pos (by omega)]
    simpa using Ev.now a
  | succ d ih =>
    intro i a hi h0 h1
    have hil : i < l.length := by omega
    have hsum := sumW_drop w l i hil
    refine Ev.step (fun k => hs k a i hil) ?_
    refine (hE _ (List.getElem_mem hil) a h0 h1).bind ?_
    by_cases hc : (w l[i] : Int) ≤ a
    · simp only [if_pos hc, if_neg (show ¬ (a - (w l[i] : Int) < 0) by omega)]
      have := ih (i + 1) (a - (w l[i] : Int)) (by omega) (by omega) (by omega)
      have e1 : ((sumW w (l.drop (i + 1)) : Int) ≤ a - (w l[i] : Int)) ↔ ((sumW w (l.drop i) : Int) ≤ a) := by rw [hsum]; omega
      have e2 : a - (w l[i] : Int) - (sumW w (l.drop (i + 1)) : Int) = a - (sumW w (l.drop i) : Int) := by rw [hsum]; omega
      rw [e2] at this
      simpa only [e1] using this
    · simp only [if_neg hc, if_pos (show (-1 : Int) < 0 by decide)]
      rw [if_neg (by rw [hsum]; omega)]
      exact Ev.now _
theorem eq {α : Type} (F : Nat → List α → List α → Int → Option Bool) (E : Nat → α → Option Bool) (l : List α)
    (hs : ∀ k (i : Nat) (h : i < l.length), F (k + 1) l l (i : Int) = (E k l[i]).bind fun t => if t = true then F k l l ((i + 1 : Nat) : Int) else some false)
    (hz : ∀ k, F (k + 1) l l (l.length : Int) = some true)
    (hE : ∀ x ∈ l, Ev (fun k => E k x) true) (d : Nat) : ∀ (i : Nat), i + d = l.length → Ev (fun k => F k l l (i : Int)) true := by
  induction d with
  | zero =>
    intro i hi
    obtain rfl : i = l.length := by omega
    exact Ev.step (f := fun _ => some true) (fun k => hz k) (Ev.now _)
  | succ d ih =>
    intro i hi
    have hil : i < l.length := by omega
    refine Ev.step (fun k => hs k i hil) ?_
    refine (hE _ (List.getElem_mem hil)).bind ?_
    simp only [if_true]
    exact ih (i + 1) (by omega)
theorem every {α : Type} (p : α → Bool) (r : Bool) (F : Nat → Int → Option Bool) (E : Nat → α → Option Bool) (l : List α)
    (hs : ∀ k (i : Nat) (h : i < l.length), F (k + 1) (i : Int) = (E k l[i]).bind fun t => if t = true then F k ((i + 1 : Nat) : Int) else some false)
    (hz : Ev (fun k => F k (l.length : Int)) r)
    (hE : ∀ x ∈ l, Ev (fun k => E k x) (p x)) (d : Nat) : ∀ (i : Nat), i + d = l.length → Ev (fun k => F k (i : Int)) ((l.drop i).all p && r) := by
  induction d with
  | zero =>
    intro i hi
    have hd : l.drop i = [] := List.drop_eq_nil_of_le (by omega)
    obtain rfl : i = l.length := by omega
    rw [hd]
    exact hz
  | succ d ih =>
    intro i hi
    have hil : i < l.length := by omega
    have hd : l.drop i = l[i] :: l.drop (i + 1) := List.drop_eq_getElem_cons hil
    refine Ev.step (fun k => hs k i hil) ?_
    refine (hE _ (List.getElem_mem hil)).bind ?_
    rw [hd, List.all_cons]
    cases hp : p l[i] with
    | false => simp only [Bool.false_and, if_neg (show ¬ (false = true) by decide)]; exact Ev.now _
    | true => simp only [if_true, Bool.true_and]; exact ih (i + 1) (by omega)
end Go.Proofs.YtbpfdjbnfkclcaaDoor.Gen
end
section
set_option linter.unusedVariables false
set_option linter.unusedSimpArgs false
namespace Go.Proofs.YtbpfdjbnfkclcaaDoor.Pure
open Go Go.RowKit Go.Proofs.YtbpfdjbnfkclcaaDoor Go.Proofs.YtbpfdjbnfkclcaaDoor.L Go.Proofs.YtbpfdjbnfkclcaaDoorW.PrintWords Go.Proofs.YtbpfdjbnfkclcaaDoorW.PrintMore Go.Proofs.YtbpfdjbnfkclcaaDoorW.PrintLast
abbrev Col := S39
abbrev Val := S41
abbrev Itm := S57
theorem rdCol (l : List Col) (i : Nat) (h : i < l.length) : rd_T39 l (i : Int) = l[i] := by simp [rd_T39, h]
theorem rdVal (l : List Val) (i : Nat) (h : i < l.length) : rd_T41 l (i : Int) = l[i] := by simp [rd_T41, h]
theorem rdItm (l : List Itm) (i : Nat) (h : i < l.length) : rd_T57 l (i : Int) = l[i] := by simp [rd_T57, h]
theorem rdII (l : List (List Itm)) (i : Nat) (h : i < l.length) : rd_L5 l (i : Int) = l[i] := by simp [rd_L5, h]
theorem eqColumn_ev (l : List Col) (hl : l.length ≤ 9223372036854775807) : Ev (fun k => laws_eqColumnS.f k l l) true := by
  refine Ev.congr (fun k => ?_) (Gen.eq (fun k a b i => laws_eqColumnS.l0 k a b i) (fun k x => some true) l (fun k i h => ?_) (fun k => ?_) (fun x hx => Ev.now _) l.length 0 (by omega))
  · unfold laws_eqColumnS.f
    rw [if_pos rfl]
    rfl
  · rw [laws_eqColumnS.l0, if_pos (by omega), if_pos (by omega), if_pos (by omega), wsucc i (by omega)]
    unfold laws_eqColumn.f
    simp only [if_true]
  · rw [laws_eqColumnS.l0, if_neg (by omega)]
theorem eqValue_ev (l : List Val) (hl : l.length ≤ 9223372036854775807) : Ev (fun k => laws_eqValueS.f k l l) true := by
  refine Ev.congr (fun k => ?_) (Gen.eq (fun k a b i => laws_eqValueS.l0 k a b i) (fun k x => some true) l (fun k i h => ?_) (fun k => ?_) (fun x hx => Ev.now _) l.length 0 (by omega))
  · unfold laws_eqValueS.f
    rw [if_pos rfl]
    rfl
  · rw [laws_eqValueS.l0, if_pos (by omega), if_pos (by omega), if_pos (by omega), wsucc i (by omega)]
    unfold laws_eqValue.f
    simp only [if_true]
  · rw [laws_eqValueS.l0, if_neg (by omega)]
theorem eqItem_ev (l : List Itm) (hl : l.length ≤ 9223372036854775807) : Ev (fun k => laws_eqItemS.f k l l) true := by
  refine Ev.congr (fun k => ?_) (Gen.eq (fun k a b i => laws_eqItemS.l0 k a b i) (fun k x => some true) l (fun k i h => ?_) (fun k => ?_) (fun x hx => Ev.now _) l.length 0 (by omega))
  · unfold laws_eqItemS.f
    rw [if_pos rfl]
    rfl
  · rw [laws_eqItemS.l0, if_pos (by omega), if_pos (by omega), if_pos (by omega), wsucc i (by omega)]
    unfold laws_eqItem.f
    simp only [if_true]
  · rw [laws_eqItemS.l0, if_neg (by omega)]
theorem eqItemSS_ev (l : List (List Itm)) (hl : l.length ≤ 9223372036854775807) (hs : ∀ y ∈ l, y.length ≤ 9223372036854775807) : Ev (fun k => laws_eqItemSS.f k l l) true := by
  refine Ev.congr (fun k => ?_) (Gen.eq (fun k a b i => laws_eqItemSS.l0 k a b i) (fun k x => laws_eqItemS.f k x x) l (fun k i h => ?_) (fun k => ?_) (fun x hx => eqItem_ev x (hs x hx)) l.length 0 (by omega))
  · unfold laws_eqItemSS.f
    rw [if_pos rfl]
    rfl
  · rw [laws_eqItemSS.l0, if_pos (by omega), if_pos (by omega), if_pos (by omega), rdII l i h, wsucc i (by omega)]
  · rw [laws_eqItemSS.l0, if_neg (by omega)]
theorem eqStm_ev (kind : Int) (table : ByteArray) (cols : List Col) (vals : List Val) (col : ByteArray) (exp wh : List Itm) (outs : List (List Itm)) (h2 : cols.length ≤ 9223372036854775807) (h3 : vals.length ≤ 9223372036854775807) (h5 : exp.length ≤ 9223372036854775807) (h6 : wh.length ≤ 9223372036854775807) (h7 : outs.length ≤ 9223372036854775807) (h7s : ∀ y ∈ outs, y.length ≤ 9223372036854775807) :
    Ev (fun k => laws_eqStm.f k kind table cols vals col exp wh outs kind table cols vals col exp wh outs) true := by
  unfold laws_eqStm.f
  simp only [if_true]
  refine (eqColumn_ev cols h2).bind ?_
  simp only [if_true]
  refine (eqValue_ev vals h3).bind ?_
  simp only [if_true]
  refine (eqItem_ev exp h5).bind ?_
  simp only [if_true]
  refine (eqItem_ev wh h6).bind ?_
  simp only [if_true]
  refine (eqItemSS_ev outs h7 h7s).bind ?_
  simp only [if_true]
  exact Ev.now _
end Go.Proofs.YtbpfdjbnfkclcaaDoor.Pure
end
section
set_option linter.unusedVariables false
set_option linter.unusedSimpArgs false
namespace Go.Proofs.YtbpfdjbnfkclcaaDoor.Pure
open Go Go.RowKit Go.Proofs.YtbpfdjbnfkclcaaDoor Go.Proofs.YtbpfdjbnfkclcaaDoor.L Go.Proofs.YtbpfdjbnfkclcaaDoorW.PrintWords Go.Proofs.YtbpfdjbnfkclcaaDoorW.PrintMore Go.Proofs.YtbpfdjbnfkclcaaDoorW.PrintLast
theorem ff : ¬ (false = true) := by decide
theorem between_b (x lo hi : Int) : spec_l1Between.f x lo hi = some (decide (lo ≤ x ∧ x ≤ hi)) := by
  unfold spec_l1Between.f
  by_cases h0 : lo ≤ x
  · rw [if_pos h0]; simp [h0]
  · rw [if_neg h0]; simp [h0]
theorem spec_letter (c : Int) : spec_l4Letter.f c = some (decide (97 ≤ c) && decide (c ≤ 122)) := by
  unfold spec_l4Letter.f
  by_cases h1 : 97 ≤ c <;> by_cases h2 : c ≤ 122 <;> simp [h1, h2]
theorem spec_inner (c : Int) : spec_l4Inner.f c = some (wordByte c) := by
  unfold spec_l4Inner.f wordByte
  rw [spec_letter]
  by_cases h1 : 97 ≤ c <;> by_cases h2 : c ≤ 122 <;> by_cases h3 : 48 ≤ c <;> by_cases h4 : c ≤ 57 <;> simp [h1, h2, h3, h4]
theorem has_l0 (s : ByteArray) (l : List ByteArray) (hl : l.length ≤ 1000) (d : Nat) : ∀ i : Nat, i + d = l.length → Ev (fun k => spec_l4Has.l0 k s l (l.length : Int) (i : Int)) ((l.drop i).any fun x => decide (x.toList = s.toList)) := by
  induction d with
  | zero =>
    intro i hi
    have hd : l.drop i = [] := List.drop_eq_nil_of_le (by omega)
    rw [hd]
    refine Ev.step (f := fun _ => some false) (fun k => ?_) (Ev.now _)
    rw [spec_l4Has.l0, if_neg (by omega)]
  | succ d ih =>
    intro i hi
    have hil : i < l.length := by omega
    have hd : l.drop i = l[i] :: l.drop (i + 1) := List.drop_eq_getElem_cons hil
    rw [hd, List.any_cons]
    by_cases h : l[i].toList = s.toList
    · refine Ev.step (f := fun _ => some true) (fun k => ?_) ?_
      · rw [spec_l4Has.l0, if_pos (by omega), if_pos (by omega), if_pos (by omega), rdS l i hil, if_pos h]
      · rw [decide_eq_true h, Bool.true_or]; exact Ev.now _
    · refine Ev.step (f := fun k => spec_l4Has.l0 k s l (l.length : Int) ((i + 1 : Nat) : Int)) (fun k => ?_) ?_
      · rw [spec_l4Has.l0, if_pos (by omega), if_pos (by omega), if_pos (by omega), rdS l i hil, if_neg h, wsucc i (by omega)]
      · rw [decide_eq_false h, Bool.false_or]; exact ih (i + 1) (by omega)
/-- The reference's keywords. -/
def kwS : List ByteArray := (spec_l4Keywords.f).getD []
theorem kwS_eq : spec_l4Keywords.f = some kwS := rfl
theorem kw_sub1 : ∀ a ∈ kwS.map (fun x => x.data.toList), a ∈ kwL := by decide
theorem kw_sub2 : ∀ a ∈ kwL, a ∈ kwS.map (fun x => x.data.toList) := by decide
theorem has_kw (s : ByteArray) : (kwS.any fun x => decide (x.toList = s.toList)) = isKw s := by
  rw [Bool.eq_iff_iff]
  unfold isKw
  rw [List.any_eq_true, List.contains_iff_mem]
  constructor
  · rintro ⟨x, hx, h⟩
    have h := of_decide_eq_true h
    rw [ByteArray.toList_eq, ByteArray.toList_eq] at h
    rw [← h]
    exact kw_sub1 _ (List.mem_map_of_mem hx)
  · intro h
    obtain ⟨x, hx, e⟩ := List.mem_map.1 (kw_sub2 _ h)
    exact ⟨x, hx, decide_eq_true (by rw [ByteArray.toList_eq, ByteArray.toList_eq]; exact e)⟩
theorem name_l0 (s : ByteArray) (hs : s.size ≤ 1000) (d : Nat) : ∀ i : Nat, i + d = s.size → Ev (fun k => spec_l4Name.l0 k s (i : Int)) (allFrom wordByte s d i) := by
  induction d with
  | zero =>
    intro i hi
    exact Ev.step (f := fun _ => some true) (fun k => by rw [spec_l4Name.l0, if_neg (by omega)]) (Ev.now _)
  | succ d ih =>
    intro i hi
    rw [allFrom]
    refine Ev.step (f := fun k => if wordByte (bt s i) = true then spec_l4Name.l0 k s ((i + 1 : Nat) : Int) else some false) (fun k => ?_) ?_
    · rw [spec_l4Name.l0, if_pos (by omega), if_pos (by omega), spec_inner, Option.bind_some, wsucc i (by omega)]
    · cases hb : wordByte (bt s i) with
      | false => simp only [if_neg ff, Bool.false_and]; exact Ev.now _
      | true => simp only [if_true, Bool.true_and]; exact ih (i + 1) (by omega)
theorem spec_nm (s : ByteArray) : Ev (fun k => spec_l4Name.f k s) (nameKw s) := by
  have hbad : Ev (fun k => spec_l4Name.j0 k s true) false := Ev.step (f := fun _ => some false) (fun k => by rw [spec_l4Name.j0, if_pos rfl]) (Ev.now _)
  unfold spec_l4Name.f nameKw
  simp only [between_b, Option.bind_some, spec_letter, kwS_eq]
  by_cases h1 : 1 ≤ s.size
  · by_cases h2 : s.size ≤ 30
    · simp only [decide_eq_true (show (1 : Int) ≤ (s.size : Int) ∧ (s.size : Int) ≤ 30 by omega), if_true, if_pos (show (0 : Int) < (s.size : Int) by omega), decide_eq_true h1, decide_eq_true h2, Bool.true_and]
      cases hL : (decide (97 ≤ bt s 0) && decide (bt s 0 ≤ 122)) with
      | false => simp only [if_neg ff, Bool.false_and]; exact hbad
      | true =>
        simp only [if_true, Bool.true_and]
        have hh := has_l0 s kwS (by decide) kwS.length 0 (by omega)
        rw [List.drop_zero, has_kw] at hh
        refine Ev.bind (Ev.congr (fun k => rfl) hh) ?_
        cases hk : isKw s with
        | true => simp only [Bool.not_true, Bool.and_false]; exact hbad
        | false =>
          simp only [Bool.not_false, Bool.and_true]
          refine Ev.step (fun k => by rw [spec_l4Name.j0, if_neg ff]) ?_
          exact name_l0 s (by omega) s.size 0 (by omega)
    · simp only [decide_eq_false (show ¬ ((1 : Int) ≤ (s.size : Int) ∧ (s.size : Int) ≤ 30) by omega), if_neg ff, decide_eq_true h1, decide_eq_false h2, Bool.true_and, Bool.false_and]
      exact hbad
  · simp only [decide_eq_false (show ¬ ((1 : Int) ≤ (s.size : Int) ∧ (s.size : Int) ≤ 30) by omega), if_neg ff, decide_eq_false h1, Bool.false_and]
    exact hbad
theorem impl_nm (s : ByteArray) (hs : s.size ≤ 9223372036854775807) : impl_isName.f s = some (nameKw s) := by rw [impl_isName.f, if_pos hs]
/-- A text. -/
def textOk (s : ByteArray) : Bool := decide (s.size ≤ 200) && allFrom textByte s s.size 0
theorem impl_txt (s : ByteArray) (hs : s.size ≤ 9223372036854775807) : impl_isText.f s = some (textOk s) := by rw [impl_isText.f, if_pos hs]; rfl
theorem text_l0 (s : ByteArray) (hs : s.size ≤ 1000) (d : Nat) : ∀ i : Nat, i + d = s.size → Ev (fun k => spec_l4Text.l0 k s (i : Int)) (allFrom textByte s d i) := by
  induction d with
  | zero =>
    intro i hi
    exact Ev.step (f := fun _ => some true) (fun k => by rw [spec_l4Text.l0, if_neg (by omega)]) (Ev.now _)
  | succ d ih =>
    intro i hi
    rw [allFrom]
    have hr := bt_range s i
    have hw : wrap64 (bt s i) = bt s i := w64 _ (by omega)
    have ht : decide (32 ≤ bt s i ∧ bt s i ≤ 126) = textByte (bt s i) := by
      unfold textByte
      by_cases h1 : 32 ≤ bt s i <;> by_cases h2 : bt s i ≤ 126 <;> simp [h1, h2]
    refine Ev.step (f := fun k => if textByte (bt s i) = true then spec_l4Text.l0 k s ((i + 1 : Nat) : Int) else some false) (fun k => ?_) ?_
    · rw [spec_l4Text.l0, if_pos (by omega), if_pos (by omega), hw, between_b, ht, Option.bind_some, wsucc i (by omega)]
    · cases hb : textByte (bt s i) with
      | false => simp only [if_neg ff, Bool.false_and]; exact Ev.now _
      | true => simp only [if_true, Bool.true_and]; exact ih (i + 1) (by omega)
theorem spec_txt (s : ByteArray) : Ev (fun k => spec_l4Text.f k s) (textOk s) := by
  unfold spec_l4Text.f textOk
  by_cases h : s.size ≤ 200
  · simp only [if_neg (show ¬ (s.size : Int) > 200 by omega), decide_eq_true h, Bool.true_and]
    exact text_l0 s (by omega) s.size 0 (by omega)
  · simp only [if_pos (show (s.size : Int) > 200 by omega), decide_eq_false h, Bool.false_and]
    exact Ev.now _
def numOk (n : Int) : Bool := n != (-9223372036854775808)
/-- A value of a statement. -/
def valOk (t n : Int) (x : ByteArray) : Bool := if t = 1 then (numOk n && (x.toList == ([] : List UInt8))) else if t = 2 then (decide (n = 0) && textOk x) else false
theorem spec_val (t n : Int) (x : ByteArray) : Ev (fun k => spec_l4Value.f k t n x) (valOk t n x) := by
  unfold spec_l4Value.f valOk spec_l4Number.f numOk
  by_cases h1 : t = 1
  · simp only [if_pos h1, Option.bind_some]
    cases (n != (-9223372036854775808)) with
    | false => simp only [if_neg ff, Bool.false_and]; exact Ev.now _
    | true => simp only [if_true, Bool.true_and]; exact Ev.now _
  · by_cases h2 : t = 2
    · by_cases h3 : n = 0
      · simp only [if_neg h1, if_pos h2, if_pos h3, decide_eq_true h3, Bool.true_and]
        exact (spec_txt x).bind (Ev.now _)
      · simp only [if_neg h1, if_pos h2, if_neg h3, decide_eq_false h3, Bool.false_and]; exact Ev.now _
    · simp only [if_neg h1, if_neg h2]; exact Ev.now _
theorem impl_val (t n : Int) (x : ByteArray) (hx : x.size ≤ 9223372036854775807) : impl_valueOK.f t n x = some (valOk t n x) := by
  unfold impl_valueOK.f valOk impl_isNumber.f numOk
  rw [impl_txt x hx]
  by_cases h1 : t = 1
  · simp only [if_pos h1, Option.bind_some]
    cases (n != (-9223372036854775808)) <;> simp
  · by_cases h2 : t = 2
    · by_cases h3 : n = 0
      · simp [h1, h2, h3]
      · simp [h1, h2, h3]
    · simp [h1, h2]
/-- An item of an expression. -/
def itmOk (op n : Int) (x : ByteArray) : Bool :=
  if op = 1 then (numOk n && (x.toList == ([] : List UInt8))) else if op = 2 then (decide (n = 0) && textOk x) else if op = 3 then (decide (n = 0) && nameKw x) else (decide (4 ≤ op ∧ op ≤ 13) && (decide (n = 0) && (x.toList == ([] : List UInt8))))
def arity (op : Int) : Int := if op ≤ 3 then 0 else if op = 11 then 1 else if op = 13 then 1 else 2
theorem spec_itm (op n : Int) (x : ByteArray) : Ev (fun k => spec_l4Item.f k op n x) (itmOk op n x) := by
  unfold spec_l4Item.f itmOk spec_l4Number.f numOk
  by_cases h1 : op = 1
  · simp only [if_pos h1, Option.bind_some]
    cases (n != (-9223372036854775808)) with
    | false => simp only [if_neg ff, Bool.false_and]; exact Ev.now _
    | true => simp only [if_true, Bool.true_and]; exact Ev.now _
  · by_cases h2 : op = 2
    · by_cases hn : n = 0
      · simp only [if_neg h1, if_pos h2, if_pos hn, decide_eq_true hn, Bool.true_and]
        exact (spec_txt x).bind (Ev.now _)
      · simp only [if_neg h1, if_pos h2, if_neg hn, decide_eq_false hn, Bool.false_and]; exact Ev.now _
    · by_cases h3 : op = 3
      · by_cases hn : n = 0
        · simp only [if_neg h1, if_neg h2, if_pos h3, if_pos hn, decide_eq_true hn, Bool.true_and]
          exact (spec_nm x).bind (Ev.now _)
        · simp only [if_neg h1, if_neg h2, if_pos h3, if_neg hn, decide_eq_false hn, Bool.false_and]; exact Ev.now _
      · simp only [if_neg h1, if_neg h2, if_neg h3, between_b, Option.bind_some]
        by_cases h4 : 4 ≤ op ∧ op ≤ 13
        · by_cases hn : n = 0
          · simp only [decide_eq_true h4, if_true, if_pos hn, decide_eq_true hn, Bool.true_and]; exact Ev.now _
          · simp only [decide_eq_true h4, if_true, if_neg hn, decide_eq_false hn, Bool.true_and, Bool.false_and]; exact Ev.now _
        · simp only [decide_eq_false h4, if_neg ff, Bool.false_and]; exact Ev.now _
theorem spec_ar (op : Int) : spec_l4Arity.f op = some (arity op) := by
  unfold spec_l4Arity.f arity
  split
  · rfl
  · split
    · rfl
    · split <;> rfl
def opnds (op : Int) : Int := if op = 1 ∨ op = 2 ∨ op = 3 then 0 else if op = 11 ∨ op = 13 then 1 else if (4 ≤ op ∧ op ≤ 10) ∨ op = 12 then 2 else -1
theorem impl_opnds (op : Int) : Ev (fun k => impl_operands.f k op) (opnds op) := by
  have e0 : ∀ k, impl_operands.f k op = impl_operands.j0 k op (decide (op = 1 ∨ op = 2 ∨ op = 3)) := fun k => by
    unfold impl_operands.f
    by_cases h1 : op = 1
    · simp [h1]
    · by_cases h2 : op = 2
      · simp [h2]
      · by_cases h3 : op = 3
        · simp [h3]
        · simp only [if_neg h1, if_neg h2, decide_eq_false (show ¬ (op = 1 ∨ op = 2 ∨ op = 3) by omega), show (op == 3) = false from beq_eq_false_iff_ne.2 h3]
  refine Ev.congr e0 ?_
  unfold opnds
  by_cases h : op = 1 ∨ op = 2 ∨ op = 3
  · rw [decide_eq_true h, if_pos h]
    exact Ev.step (f := fun _ => some 0) (fun k => by rw [impl_operands.j0, if_pos rfl]) (Ev.now _)
  · rw [decide_eq_false h, if_neg h]
    refine Ev.step (f := fun k => impl_operands.j1 k op (decide (op = 11 ∨ op = 13))) (fun k => ?_) ?_
    · rw [impl_operands.j0, if_neg ff]
      by_cases h1 : op = 11
      · simp [h1]
      · rw [if_neg h1]
        congr 1
        by_cases h2 : op = 13
        · simp [h2]
        · rw [decide_eq_false (by omega)]; exact beq_eq_false_iff_ne.2 h2
    · by_cases h2 : op = 11 ∨ op = 13
      · rw [decide_eq_true h2, if_pos h2]
        exact Ev.step (f := fun _ => some 1) (fun k => by rw [impl_operands.j1, if_pos rfl]) (Ev.now _)
      · rw [decide_eq_false h2, if_neg h2]
        refine Ev.step (f := fun _ => some (if (4 ≤ op ∧ op ≤ 10) ∨ op = 12 then 2 else -1)) (fun k => ?_) (Ev.now _)
        rw [impl_operands.j1, if_neg ff]
        by_cases q : (4 ≤ op ∧ op ≤ 10) ∨ op = 12
        · rw [if_pos q]
          have : op = 4 ∨ op = 5 ∨ op = 6 ∨ op = 7 ∨ op = 8 ∨ op = 9 ∨ op = 10 ∨ op = 12 := by omega
          rcases this with rfl | rfl | rfl | rfl | rfl | rfl | rfl | rfl <;> simp
        · rw [if_neg q, if_neg (by omega), if_neg (by omega), if_neg (by omega), if_neg (by omega), if_neg (by omega), if_neg (by omega), if_neg (by omega), if_neg (by omega)]
theorem impl_itm (op n : Int) (x : ByteArray) (hx : x.size ≤ 9223372036854775807) : Ev (fun k => impl_itemOK.f k op n x) (itmOk op n x) := by
  unfold impl_itemOK.f itmOk impl_isNumber.f numOk
  simp only [impl_txt x hx, impl_nm x hx]
  by_cases h1 : op = 1
  · simp only [if_pos h1, Option.bind_some]
    cases (n != (-9223372036854775808)) with
    | false => simp only [if_neg ff, Bool.false_and]; exact Ev.now _
    | true => simp only [if_true, Bool.true_and]; exact Ev.now _
  · by_cases h2 : op = 2
    · by_cases hn : n = 0
      · simp only [if_neg h1, if_pos h2, if_pos hn, decide_eq_true hn, Bool.true_and, Option.bind_some]; exact Ev.now _
      · simp only [if_neg h1, if_pos h2, if_neg hn, decide_eq_false hn, Bool.false_and]; exact Ev.now _
    · by_cases h3 : op = 3
      · by_cases hn : n = 0
        · simp only [if_neg h1, if_neg h2, if_pos h3, if_pos hn, decide_eq_true hn, Bool.true_and, Option.bind_some]; exact Ev.now _
        · simp only [if_neg h1, if_neg h2, if_pos h3, if_neg hn, decide_eq_false hn, Bool.false_and]; exact Ev.now _
      · simp only [if_neg h1, if_neg h2, if_neg h3]
        refine (impl_opnds op).bind ?_
        have ho : (opnds op ≥ 0) ↔ (4 ≤ op ∧ op ≤ 13) := by unfold opnds; split <;> (try split) <;> (try split) <;> omega
        by_cases h4 : 4 ≤ op ∧ op ≤ 13
        · by_cases hn : n = 0
          · simp only [if_pos (ho.2 h4), decide_eq_true h4, if_pos hn, decide_eq_true hn, Bool.true_and]; exact Ev.now _
          · simp only [if_pos (ho.2 h4), decide_eq_true h4, if_neg hn, decide_eq_false hn, Bool.true_and, Bool.false_and]; exact Ev.now _
        · simp only [if_neg (fun e => h4 (ho.1 e)), decide_eq_false h4, Bool.false_and]; exact Ev.now _
/-- An expression from its item number i on, with so many operands on the stack. -/
def expRun : List Itm → Int → Bool
  | [], d => d == 1
  | t :: r, d => itmOk t.f0 t.f1 t.f2 && (if d < arity t.f0 then false else expRun r (d + (1 - arity t.f0)))
theorem arity_range (op : Int) : 0 ≤ arity op ∧ arity op ≤ 2 := by
  unfold arity
  split
  · omega
  · split
    · omega
    · split <;> omega
theorem opnds_arity (op : Int) (h : 1 ≤ op ∧ op ≤ 13) : opnds op = arity op := by
  have : op = 1 ∨ op = 2 ∨ op = 3 ∨ op = 4 ∨ op = 5 ∨ op = 6 ∨ op = 7 ∨ op = 8 ∨ op = 9 ∨ op = 10 ∨ op = 11 ∨ op = 12 ∨ op = 13 := by omega
  rcases this with rfl | rfl | rfl | rfl | rfl | rfl | rfl | rfl | rfl | rfl | rfl | rfl | rfl <;> decide
theorem itmOk_op {op n : Int} {x : ByteArray} (h : itmOk op n x = true) : 1 ≤ op ∧ op ≤ 13 := by
  unfold itmOk at h
  by_cases h1 : op = 1
  · omega
  · by_cases h2 : op = 2
    · omega
    · by_cases h3 : op = 3
      · omega
      · rw [if_neg h1, if_neg h2, if_neg h3, Bool.and_eq_true] at h
        have := of_decide_eq_true h.1
        omega
theorem spec_exp_l0 (l : List Itm) (hl : l.length ≤ 1000) (e : Nat) : ∀ (i : Nat) (d : Int), i + e = l.length → 0 ≤ d → d ≤ i → Ev (fun k => spec_l4Exp.l0 k d l (l.length : Int) (i : Int)) (expRun (l.drop i) d) := by
  induction e with
  | zero =>
    intro i d hi h0 h1
    have hd : l.drop i = [] := List.drop_eq_nil_of_le (by omega)
    rw [hd]
    exact Ev.step (f := fun _ => some (d == 1)) (fun k => by rw [spec_l4Exp.l0, if_neg (by omega)]) (Ev.now _)
  | succ e ih =>
    intro i d hi h0 h1
    have hil : i < l.length := by omega
    have hd : l.drop i = l[i] :: l.drop (i + 1) := List.drop_eq_getElem_cons hil
    have ha := arity_range l[i].f0
    have w1 : wrap64 (1 - arity l[i].f0) = 1 - arity l[i].f0 := w64 _ (by omega)
    have w2 : wrap64 (d + (1 - arity l[i].f0)) = d + (1 - arity l[i].f0) := w64 _ (by omega)
    rw [hd, expRun]
    refine Ev.step (f := fun k => (spec_l4Item.f k l[i].f0 l[i].f1 l[i].f2).bind fun t => if t = true then (if d < arity l[i].f0 then some false else spec_l4Exp.l0 k (d + (1 - arity l[i].f0)) l (l.length : Int) ((i + 1 : Nat) : Int)) else some false) (fun k => ?_) ?_
    · rw [spec_l4Exp.l0, if_pos (by omega), if_pos (by omega), if_pos (by omega), rdItm l i hil]
      simp only [spec_ar, Option.bind_some, w1, w2, wsucc i (show i < 9223372036854775807 by omega)]
    · refine (spec_itm _ _ _).bind ?_
      cases hk : itmOk l[i].f0 l[i].f1 l[i].f2 with
      | false => simp only [if_neg ff, Bool.false_and]; exact Ev.now _
      | true =>
        simp only [if_true, Bool.true_and]
        by_cases hc : d < arity l[i].f0
        · simp only [if_pos hc]; exact Ev.now _
        · simp only [if_neg hc]; exact ih (i + 1) _ (by omega) (by omega) (by omega)
theorem impl_exp_l0 (l : List Itm) (hl : l.length ≤ 1000) (hs : ∀ y ∈ l, y.f2.size ≤ 9223372036854775807) (e : Nat) : ∀ (i : Nat) (d : Int), i + e = l.length → 0 ≤ d → d ≤ i → Ev (fun k => impl_expOK.l0 k d l (l.length : Int) (i : Int)) (expRun (l.drop i) d) := by
  induction e with
  | zero =>
    intro i d hi h0 h1
    have hd : l.drop i = [] := List.drop_eq_nil_of_le (by omega)
    rw [hd]
    exact Ev.step (f := fun _ => some (d == 1)) (fun k => by rw [impl_expOK.l0, if_neg (by omega)]) (Ev.now _)
  | succ e ih =>
    intro i d hi h0 h1
    have hil : i < l.length := by omega
    have hd : l.drop i = l[i] :: l.drop (i + 1) := List.drop_eq_getElem_cons hil
    rw [hd, expRun]
    refine Ev.step (f := fun k => (impl_operands.f k l[i].f0).bind fun u => (impl_itemOK.f k l[i].f0 l[i].f1 l[i].f2).bind fun t => if t = true then (if d < u then some false else impl_expOK.l0 k (wrap64 (d + (wrap64 (1 - u)))) l (l.length : Int) ((i + 1 : Nat) : Int)) else some false) (fun k => ?_) ?_
    · rw [impl_expOK.l0, if_pos (by omega), if_pos (by omega), if_pos (by omega), rdItm l i hil, wsucc i (by omega)]
    · refine (impl_opnds _).bind ?_
      refine (impl_itm _ _ _ (hs _ (List.getElem_mem hil))).bind ?_
      cases hk : itmOk l[i].f0 l[i].f1 l[i].f2 with
      | false => simp only [if_neg ff, Bool.false_and]; exact Ev.now _
      | true =>
        have ha := arity_range l[i].f0
        have w1 : wrap64 (1 - arity l[i].f0) = 1 - arity l[i].f0 := w64 _ (by omega)
        have w2 : wrap64 (d + (1 - arity l[i].f0)) = d + (1 - arity l[i].f0) := w64 _ (by omega)
        simp only [if_true, Bool.true_and, opnds_arity _ (itmOk_op hk), w1, w2]
        by_cases hc : d < arity l[i].f0
        · simp only [if_pos hc]; exact Ev.now _
        · simp only [if_neg hc]; exact ih (i + 1) _ (by omega) (by omega) (by omega)
/-- An expression. -/
def expOk (l : List Itm) : Bool := decide (1 ≤ l.length ∧ l.length ≤ 100) && expRun l 0
theorem spec_exp (l : List Itm) : Ev (fun k => spec_l4Exp.f k l) (expOk l) := by
  unfold spec_l4Exp.f expOk
  simp only [between_b, Option.bind_some]
  by_cases h : 1 ≤ l.length ∧ l.length ≤ 100
  · simp only [decide_eq_true (show (1 : Int) ≤ (l.length : Int) ∧ (l.length : Int) ≤ 100 by omega), if_true, decide_eq_true h, Bool.true_and]
    exact spec_exp_l0 l (by omega) l.length 0 0 (by omega) (by omega) (by omega)
  · simp only [decide_eq_false (show ¬ ((1 : Int) ≤ (l.length : Int) ∧ (l.length : Int) ≤ 100) by omega), if_neg ff, decide_eq_false h, Bool.false_and]
    exact Ev.now _
theorem impl_exp (l : List Itm) (hs : ∀ y ∈ l, y.f2.size ≤ 9223372036854775807) : Ev (fun k => impl_expOK.f k l) (expOk l) := by
  have hbad : Ev (fun k => impl_expOK.j0 k l true) false := Ev.step (f := fun _ => some false) (fun k => by rw [impl_expOK.j0, if_pos rfl]) (Ev.now _)
  unfold impl_expOK.f expOk
  by_cases h1 : 1 ≤ l.length
  · by_cases h2 : l.length ≤ 100
    · simp only [if_neg (show ¬ (l.length : Int) < 1 by omega), decide_eq_false (show ¬ (l.length : Int) > 100 by omega), decide_eq_true (And.intro h1 h2), Bool.true_and]
      refine Ev.step (fun k => by rw [impl_expOK.j0, if_neg ff]) ?_
      exact impl_exp_l0 l (by omega) hs l.length 0 0 (by omega) (by omega) (by omega)
    · simp only [if_neg (show ¬ (l.length : Int) < 1 by omega), decide_eq_true (show (l.length : Int) > 100 by omega), decide_eq_false (show ¬ (1 ≤ l.length ∧ l.length ≤ 100) by omega), Bool.false_and]
      exact hbad
  · simp only [if_pos (show (l.length : Int) < 1 by omega), decide_eq_false (show ¬ (1 ≤ l.length ∧ l.length ≤ 100) by omega), Bool.false_and]
    exact hbad
def whOk (l : List Itm) : Bool := decide (l.length = 0) || expOk l
theorem spec_wh (l : List Itm) : Ev (fun k => spec_l4Where.f k l) (whOk l) := by
  unfold spec_l4Where.f whOk
  by_cases h : l.length = 0
  · simp only [if_pos (show (l.length : Int) = 0 by omega), decide_eq_true h, Bool.true_or]; exact Ev.now _
  · simp only [if_neg (show ¬ (l.length : Int) = 0 by omega), decide_eq_false h, Bool.false_or]
    exact (spec_exp l).bind (Ev.now _)
def colOk (c : Col) : Bool := nameKw c.f0 && (decide (c.f1 = 1) || decide (c.f1 = 2))
/-- The document's StmOK. -/
def stmOk (kind : Int) (table : ByteArray) (cols : List Col) (vals : List Val) (col : ByteArray) (exp wh : List Itm) (outs : List (List Itm)) : Bool :=
  nameKw table &&
    (if kind = 1 then decide (vals.length = 0) && (decide (col.toList = ([] : List UInt8)) && (decide (exp.length = 0) && (decide (outs.length = 0) && (decide (wh.length = 0) && (decide (1 ≤ cols.length ∧ cols.length ≤ 20) && cols.all colOk)))))
     else if kind = 2 then decide (cols.length = 0) && (decide (col.toList = ([] : List UInt8)) && (decide (exp.length = 0) && (decide (outs.length = 0) && (decide (wh.length = 0) && (decide (1 ≤ vals.length ∧ vals.length ≤ 20) && vals.all fun v => valOk v.f0 v.f1 v.f2)))))
     else if kind = 3 then decide (cols.length = 0) && (decide (vals.length = 0) && (decide (outs.length = 0) && (nameKw col && (expOk exp && whOk wh))))
     else if kind = 4 then decide (cols.length = 0) && (decide (vals.length = 0) && (decide (col.toList = ([] : List UInt8)) && (decide (exp.length = 0) && (decide (outs.length = 0) && whOk wh))))
     else if kind = 5 then decide (cols.length = 0) && (decide (vals.length = 0) && (decide (col.toList = ([] : List UInt8)) && (decide (exp.length = 0) && (decide (1 ≤ outs.length ∧ outs.length ≤ 20) && (outs.all expOk && whOk wh)))))
     else false)
end Go.Proofs.YtbpfdjbnfkclcaaDoor.Pure
end
section
set_option linter.unusedVariables false
set_option linter.unusedSimpArgs false
namespace Go.Proofs.YtbpfdjbnfkclcaaDoor.Pure
open Go Go.RowKit Go.Proofs.YtbpfdjbnfkclcaaDoor Go.Proofs.YtbpfdjbnfkclcaaDoor.L Go.Proofs.YtbpfdjbnfkclcaaDoorW.PrintWords Go.Proofs.YtbpfdjbnfkclcaaDoorW.PrintMore Go.Proofs.YtbpfdjbnfkclcaaDoorW.PrintLast
structure Rdr (σ : Type) where
  num : Nat → σ → Int × σ
  text : Nat → σ → ByteArray × σ
structure PStm where
  cols : List Col
  vals : List Val
  col : ByteArray
  exp : List Itm
  wh : List Itm
  outs : List (List Itm)
section
variable {σ α : Type}
def rItem (R : Rdr σ) (st : σ) : Itm × σ :=
  if (R.num 1 st).1 = 1 then (⟨(R.num 1 st).1, (R.num 8 (R.num 1 st).2).1, ⟨#[]⟩⟩, (R.num 8 (R.num 1 st).2).2)
  else if (R.num 1 st).1 = 2 then (⟨(R.num 1 st).1, 0, (R.text 2 (R.num 1 st).2).1⟩, (R.text 2 (R.num 1 st).2).2)
  else if (R.num 1 st).1 = 3 then (⟨(R.num 1 st).1, 0, (R.text 1 (R.num 1 st).2).1⟩, (R.text 1 (R.num 1 st).2).2)
  else (⟨(R.num 1 st).1, 0, ⟨#[]⟩⟩, (R.num 1 st).2)
def rCol (R : Rdr σ) (st : σ) : Col × σ := (⟨(R.text 1 st).1, (R.num 1 (R.text 1 st).2).1⟩, (R.num 1 (R.text 1 st).2).2)
def rVal (R : Rdr σ) (st : σ) : Val × σ :=
  if (R.num 1 st).1 = 1 then (⟨(R.num 1 st).1, (R.num 8 (R.num 1 st).2).1, ⟨#[]⟩⟩, (R.num 8 (R.num 1 st).2).2)
  else (⟨(R.num 1 st).1, 0, (R.text 2 (R.num 1 st).2).1⟩, (R.text 2 (R.num 1 st).2).2)
def rList (f : σ → α × σ) (ok : σ → Bool) : Nat → σ → List α × σ
  | 0, st => ([], st)
  | n + 1, st => if ok st = true then ((f st).1 :: (rList f ok n (f st).2).1, (rList f ok n (f st).2).2) else ([], st)
def rExp (R : Rdr σ) (ok : σ → Bool) (st : σ) : List Itm × σ := rList (rItem R) ok (R.num 2 st).1.toNat (R.num 2 st).2
def rBody (R : Rdr σ) (okE okL : σ → Bool) (kind : Int) (st : σ) : PStm × σ :=
  if kind = 1 then (⟨(rList (rCol R) okL (R.num 1 st).1.toNat (R.num 1 st).2).1, [], ⟨#[]⟩, [], [], []⟩, (rList (rCol R) okL (R.num 1 st).1.toNat (R.num 1 st).2).2)
  else if kind = 2 then (⟨[], (rList (rVal R) okL (R.num 1 st).1.toNat (R.num 1 st).2).1, ⟨#[]⟩, [], [], []⟩, (rList (rVal R) okL (R.num 1 st).1.toNat (R.num 1 st).2).2)
  else if kind = 3 then (⟨[], [], (R.text 1 st).1, (rExp R okE (R.text 1 st).2).1, (rExp R okE (rExp R okE (R.text 1 st).2).2).1, []⟩, (rExp R okE (rExp R okE (R.text 1 st).2).2).2)
  else if kind = 4 then (⟨[], [], ⟨#[]⟩, [], (rExp R okE st).1, []⟩, (rExp R okE st).2)
  else if kind = 5 then (⟨[], [], ⟨#[]⟩, [], (rExp R okE (rList (rExp R okE) okL (R.num 1 st).1.toNat (R.num 1 st).2).2).1, (rList (rExp R okE) okL (R.num 1 st).1.toNat (R.num 1 st).2).1⟩, (rExp R okE (rList (rExp R okE) okL (R.num 1 st).1.toNat (R.num 1 st).2).2).2)
  else (⟨[], [], ⟨#[]⟩, [], [], []⟩, st)
/-- Kind, table, the rest. -/
def rStm (R : Rdr σ) (okE okL : σ → Bool) (st : σ) : (Int × ByteArray × PStm) × σ :=
  (((R.num 1 st).1, (R.text 1 (R.num 1 st).2).1, (rBody R okE okL (R.num 1 st).1 (R.text 1 (R.num 1 st).2).2).1), (rBody R okE okL (R.num 1 st).1 (R.text 1 (R.num 1 st).2).2).2)
end
/-- The second reader goes in step with the first as long as the first is good. -/
structure Sim {σ τ : Type} (R : Rdr σ) (Q : Rdr τ) (good : σ → Prop) (rel : σ → τ → Prop) : Prop where
  num_back : ∀ w st, good (R.num w st).2 → good st
  text_back : ∀ w st, good (R.text w st).2 → good st
  num : ∀ w st qt, w ≤ 8 → rel st qt → good (R.num w st).2 → (Q.num w qt).1 = (R.num w st).1 ∧ rel (R.num w st).2 (Q.num w qt).2
  text : ∀ w st qt, w ≤ 2 → rel st qt → good (R.text w st).2 → (Q.text w qt).1 = (R.text w st).1 ∧ rel (R.text w st).2 (Q.text w qt).2
section
variable {σ τ α : Type} {R : Rdr σ} {Q : Rdr τ} {good : σ → Prop} {rel : σ → τ → Prop}
theorem rItem_back (S : Sim R Q good rel) (st : σ) (h : good (rItem R st).2) : good st := by
  unfold rItem at h
  split at h
  · exact S.num_back _ _ (S.num_back _ _ h)
  · split at h
    · exact S.num_back _ _ (S.text_back _ _ h)
    · split at h
      · exact S.num_back _ _ (S.text_back _ _ h)
      · exact S.num_back _ _ h
theorem rItem_sim (S : Sim R Q good rel) (st : σ) (qt : τ) (hr : rel st qt) (h : good (rItem R st).2) : (rItem Q qt).1 = (rItem R st).1 ∧ rel (rItem R st).2 (rItem Q qt).2 := by
  have h1 : good (R.num 1 st).2 := by
    unfold rItem at h
    split at h
    · exact S.num_back _ _ h
    · split at h
      · exact S.text_back _ _ h
      · split at h
        · exact S.text_back _ _ h
        · exact h
  obtain ⟨e1, r1⟩ := S.num 1 st qt (by omega) hr h1
  unfold rItem at h ⊢
  rw [e1]
  by_cases c1 : (R.num 1 st).1 = 1
  · rw [if_pos c1] at h ⊢
    rw [if_pos c1]
    obtain ⟨e2, r2⟩ := S.num 8 _ _ (by omega) r1 h
    exact ⟨by rw [e2], r2⟩
  rw [if_neg c1] at h ⊢
  rw [if_neg c1]
  by_cases c2 : (R.num 1 st).1 = 2
  · rw [if_pos c2] at h ⊢
    rw [if_pos c2]
    obtain ⟨e2, r2⟩ := S.text 2 _ _ (by omega) r1 h
    exact ⟨by rw [e2], r2⟩
  rw [if_neg c2] at h ⊢
  rw [if_neg c2]
  by_cases c3 : (R.num 1 st).1 = 3
  · rw [if_pos c3] at h ⊢
    rw [if_pos c3]
    obtain ⟨e2, r2⟩ := S.text 1 _ _ (by omega) r1 h
    exact ⟨by rw [e2], r2⟩
  rw [if_neg c3] at h ⊢
  rw [if_neg c3]
  exact ⟨rfl, r1⟩
theorem rCol_back (S : Sim R Q good rel) (st : σ) (h : good (rCol R st).2) : good st := S.text_back _ _ (S.num_back _ _ h)
theorem rCol_sim (S : Sim R Q good rel) (st : σ) (qt : τ) (hr : rel st qt) (h : good (rCol R st).2) : (rCol Q qt).1 = (rCol R st).1 ∧ rel (rCol R st).2 (rCol Q qt).2 := by
  obtain ⟨e1, r1⟩ := S.text 1 st qt (by omega) hr (S.num_back _ _ h)
  obtain ⟨e2, r2⟩ := S.num 1 _ _ (by omega) r1 h
  exact ⟨by unfold rCol; rw [e1, e2], r2⟩
theorem rVal_back (S : Sim R Q good rel) (st : σ) (h : good (rVal R st).2) : good st := by
  unfold rVal at h
  split at h
  · exact S.num_back _ _ (S.num_back _ _ h)
  · exact S.num_back _ _ (S.text_back _ _ h)
theorem rVal_sim (S : Sim R Q good rel) (st : σ) (qt : τ) (hr : rel st qt) (h : good (rVal R st).2) : (rVal Q qt).1 = (rVal R st).1 ∧ rel (rVal R st).2 (rVal Q qt).2 := by
  have h1 : good (R.num 1 st).2 := by
    unfold rVal at h
    split at h
    · exact S.num_back _ _ h
    · exact S.text_back _ _ h
  obtain ⟨e1, r1⟩ := S.num 1 st qt (by omega) hr h1
  unfold rVal at h ⊢
  rw [e1]
  by_cases c1 : (R.num 1 st).1 = 1
  · rw [if_pos c1] at h ⊢
    rw [if_pos c1]
    obtain ⟨e2, r2⟩ := S.num 8 _ _ (by omega) r1 h
    exact ⟨by rw [e2], r2⟩
  rw [if_neg c1] at h ⊢
  rw [if_neg c1]
  obtain ⟨e2, r2⟩ := S.text 2 _ _ (by omega) r1 h
  exact ⟨by rw [e2], r2⟩
theorem rList_back {f : σ → α × σ} {ok : σ → Bool} (hb : ∀ st, good (f st).2 → good st) : ∀ (n : Nat) (st : σ), good (rList f ok n st).2 → good st
  | 0, st, h => h
  | n + 1, st, h => by
    rw [rList] at h
    split at h
    · exact hb _ (rList_back hb n _ h)
    · exact h
theorem rList_sim {f : σ → α × σ} {f' : τ → α × τ} {ok : σ → Bool} {ok' : τ → Bool} (hb : ∀ st, good (f st).2 → good st) (hf : ∀ st qt, rel st qt → good (f st).2 → (f' qt).1 = (f st).1 ∧ rel (f st).2 (f' qt).2)
    (ho : ∀ st, good st → ok st = true) (hgo : ∀ st qt, rel st qt → ok' qt = true) : ∀ (n : Nat) (st : σ) (qt : τ), rel st qt → good (rList f ok n st).2 → (rList f' ok' n qt).1 = (rList f ok n st).1 ∧ rel (rList f ok n st).2 (rList f' ok' n qt).2
  | 0, st, qt, hr, h => ⟨rfl, hr⟩
  | n + 1, st, qt, hr, h => by
    have hg := rList_back hb (n + 1) st h
    rw [rList, if_pos (ho st hg)] at h
    have hg2 := rList_back hb n _ h
    obtain ⟨e1, r1⟩ := hf st qt hr hg2
    obtain ⟨e2, r2⟩ := rList_sim hb hf ho hgo n _ _ r1 h
    rw [rList, rList, if_pos (ho st hg), if_pos (hgo st qt hr)]
    exact ⟨by rw [e1, e2], r2⟩
theorem rExp_back (S : Sim R Q good rel) {ok : σ → Bool} (st : σ) (h : good (rExp R ok st).2) : good st := S.num_back _ _ (rList_back (rItem_back S) _ _ h)
theorem rExp_sim (S : Sim R Q good rel) {ok : σ → Bool} {ok' : τ → Bool} (ho : ∀ st, good st → ok st = true) (hgo : ∀ st qt, rel st qt → ok' qt = true) (st : σ) (qt : τ) (hr : rel st qt) (h : good (rExp R ok st).2) :
    (rExp Q ok' qt).1 = (rExp R ok st).1 ∧ rel (rExp R ok st).2 (rExp Q ok' qt).2 := by
  obtain ⟨e1, r1⟩ := S.num 2 st qt (by omega) hr (rList_back (rItem_back S) _ _ h)
  unfold rExp at h ⊢
  rw [e1]
  exact rList_sim (rItem_back S) (rItem_sim S) ho hgo _ _ _ r1 h
theorem rBody_back (S : Sim R Q good rel) {okE okL : σ → Bool} (kind : Int) (st : σ) (h : good (rBody R okE okL kind st).2) : good st := by
  unfold rBody at h
  split at h
  · exact S.num_back _ _ (rList_back (rCol_back S) _ _ h)
  split at h
  · exact S.num_back _ _ (rList_back (rVal_back S) _ _ h)
  split at h
  · exact S.text_back _ _ (rExp_back S _ (rExp_back S _ h))
  split at h
  · exact rExp_back S _ h
  split at h
  · exact S.num_back _ _ (rList_back (rExp_back S) _ _ (rExp_back S _ h))
  · exact h
theorem rBody_sim (S : Sim R Q good rel) {okE okL : σ → Bool} {okE' okL' : τ → Bool} (hoE : ∀ st, good st → okE st = true) (hgE : ∀ st qt, rel st qt → okE' qt = true) (hoL : ∀ st, good st → okL st = true) (hgL : ∀ st qt, rel st qt → okL' qt = true)
    (kind : Int) (st : σ) (qt : τ) (hr : rel st qt) (h : good (rBody R okE okL kind st).2) : (rBody Q okE' okL' kind qt).1 = (rBody R okE okL kind st).1 ∧ rel (rBody R okE okL kind st).2 (rBody Q okE' okL' kind qt).2 := by
  unfold rBody at h ⊢
  by_cases k1 : kind = 1
  · rw [if_pos k1] at h ⊢
    rw [if_pos k1]
    obtain ⟨e1, r1⟩ := S.num 1 st qt (by omega) hr (rList_back (rCol_back S) _ _ h)
    obtain ⟨e2, r2⟩ := rList_sim (rCol_back S) (rCol_sim S) hoL hgL _ _ _ r1 h
    rw [e1]
    exact ⟨by rw [e2], r2⟩
  rw [if_neg k1] at h ⊢
  rw [if_neg k1]
  by_cases k2 : kind = 2
  · rw [if_pos k2] at h ⊢
    rw [if_pos k2]
    obtain ⟨e1, r1⟩ := S.num 1 st qt (by omega) hr (rList_back (rVal_back S) _ _ h)
    obtain ⟨e2, r2⟩ := rList_sim (rVal_back S) (rVal_sim S) hoL hgL _ _ _ r1 h
    rw [e1]
    exact ⟨by rw [e2], r2⟩
  rw [if_neg k2] at h ⊢
  rw [if_neg k2]
  by_cases k3 : kind = 3
  · rw [if_pos k3] at h ⊢
    rw [if_pos k3]
    obtain ⟨e1, r1⟩ := S.text 1 st qt (by omega) hr (rExp_back S _ (rExp_back S _ h))
    obtain ⟨e2, r2⟩ := rExp_sim S hoE hgE _ _ r1 (rExp_back S _ h)
    obtain ⟨e3, r3⟩ := rExp_sim S hoE hgE _ _ r2 h
    exact ⟨by rw [e1, e2, e3], r3⟩
  rw [if_neg k3] at h ⊢
  rw [if_neg k3]
  by_cases k4 : kind = 4
  · rw [if_pos k4] at h ⊢
    rw [if_pos k4]
    obtain ⟨e2, r2⟩ := rExp_sim S hoE hgE _ _ hr h
    exact ⟨by rw [e2], r2⟩
  rw [if_neg k4] at h ⊢
  rw [if_neg k4]
  by_cases k5 : kind = 5
  · rw [if_pos k5] at h ⊢
    rw [if_pos k5]
    have h2 := rExp_back S _ h
    obtain ⟨e1, r1⟩ := S.num 1 st qt (by omega) hr (rList_back (rExp_back S) _ _ h2)
    obtain ⟨e2, r2⟩ := rList_sim (rExp_back S) (rExp_sim S hoE hgE) hoL hgL _ _ _ r1 h2
    obtain ⟨e3, r3⟩ := rExp_sim S hoE hgE _ _ r2 h
    rw [e1]
    exact ⟨by rw [e2, e3], r3⟩
  rw [if_neg k5] at h ⊢
  rw [if_neg k5]
  exact ⟨rfl, hr⟩
theorem rStm_sim (S : Sim R Q good rel) {okE okL : σ → Bool} {okE' okL' : τ → Bool} (hoE : ∀ st, good st → okE st = true) (hgE : ∀ st qt, rel st qt → okE' qt = true) (hoL : ∀ st, good st → okL st = true) (hgL : ∀ st qt, rel st qt → okL' qt = true)
    (st : σ) (qt : τ) (hr : rel st qt) (h : good (rStm R okE okL st).2) : (rStm Q okE' okL' qt).1 = (rStm R okE okL st).1 ∧ rel (rStm R okE okL st).2 (rStm Q okE' okL' qt).2 := by
  unfold rStm at h ⊢
  have h2 := rBody_back S _ _ h
  obtain ⟨e1, r1⟩ := S.num 1 st qt (by omega) hr (S.text_back _ _ h2)
  obtain ⟨e2, r2⟩ := S.text 1 _ _ (by omega) r1 h2
  obtain ⟨e3, r3⟩ := rBody_sim S hoE hgE hoL hgL _ _ _ r2 h
  rw [e1]
  exact ⟨by rw [e2, e3], r3⟩
end
end Go.Proofs.YtbpfdjbnfkclcaaDoor.Pure
end
section
set_option linter.unusedVariables false
set_option linter.unusedSimpArgs false
namespace Go.Proofs.YtbpfdjbnfkclcaaDoor.Pure
open Go Go.RowKit Go.Proofs.YtbpfdjbnfkclcaaDoor Go.Proofs.YtbpfdjbnfkclcaaDoor.L Go.Proofs.YtbpfdjbnfkclcaaDoorW.PrintWords Go.Proofs.YtbpfdjbnfkclcaaDoorW.PrintMore Go.Proofs.YtbpfdjbnfkclcaaDoorW.PrintLast
/-- Does something stand that this kind has not? -/
def bad (kind : Int) (cols : List Col) (vals : List Val) (col : ByteArray) (exp : List Itm) (outs : List (List Itm)) : Bool :=
  (decide (¬ kind = 1) && decide (¬ cols.length = 0)) || ((decide (¬ kind = 2) && decide (¬ vals.length = 0)) || ((decide (¬ kind = 3) && (decide (¬ col.toList = ([] : List UInt8)) || decide (¬ exp.length = 0))) || (decide (¬ kind = 5) && decide (¬ outs.length = 0))))
theorem ne0 {α : Type} (l : List α) : ((l.length : Int) != 0) = decide (¬ l.length = 0) := by
  by_cases h : l.length = 0
  · simp [h]
  · rw [decide_eq_true h]; exact bne_iff_ne.2 (by omega)
theorem len0 {α : Type} (l : List α) : ((l.length : Int) = 0) ↔ l.length = 0 := by omega
theorem spec_f_eq (k : Nat) (kind : Int) (table : ByteArray) (cols : List Col) (vals : List Val) (col : ByteArray) (exp wh : List Itm) (outs : List (List Itm)) :
    spec_StmOK.f k kind table cols vals col exp wh outs = (spec_l4Name.f k table).bind fun t => if t = true then spec_StmOK.j0 k kind (bad kind cols vals col exp outs) kind table cols vals col exp wh outs else some false := by
  unfold spec_StmOK.f bad
  simp only [ne0, len0]
  congr 1
  funext t
  cases t with
  | false => simp only [if_neg ff]
  | true =>
    simp only [if_true]
    by_cases h1 : kind = 1
    · subst h1
      by_cases e2 : vals.length = 0 <;> by_cases e3 : col.toList = ([] : List UInt8) <;> by_cases e4 : exp.length = 0 <;> simp [e2, e3, e4]
    · by_cases h2 : kind = 2
      · subst h2
        by_cases e1 : cols.length = 0 <;> by_cases e3 : col.toList = ([] : List UInt8) <;> by_cases e4 : exp.length = 0 <;> simp [e1, e3, e4]
      · by_cases h3 : kind = 3
        · subst h3
          by_cases e1 : cols.length = 0 <;> by_cases e2 : vals.length = 0 <;> simp [e1, e2]
        · by_cases h5 : kind = 5
          · subst h5
            by_cases e1 : cols.length = 0 <;> by_cases e2 : vals.length = 0 <;> by_cases e3 : col.toList = ([] : List UInt8) <;> by_cases e4 : exp.length = 0 <;> simp [e1, e2, e3, e4]
          · by_cases e1 : cols.length = 0 <;> by_cases e2 : vals.length = 0 <;> by_cases e3 : col.toList = ([] : List UInt8) <;> by_cases e4 : exp.length = 0 <;> simp [h1, h2, h3, h5, e1, e2, e3, e4]
theorem spec_type (t : Int) : spec_l4Type.f t = some (decide (t = 1) || decide (t = 2)) := by
  unfold spec_l4Type.f
  by_cases h : t = 1
  · simp [h]
  · rw [if_neg h, decide_eq_false h, Bool.false_or]
    by_cases h2 : t = 2
    · simp [h2]
    · rw [decide_eq_false h2, show (t == 2) = false from beq_eq_false_iff_ne.2 h2]
theorem bind_two {β : Type} (x : Option Bool) (b : Bool) (y : Option β) (z : Option β) :
    (x.bind fun t => if t = true then ((some b : Option Bool).bind fun u => if u = true then y else z) else z) = ((x.bind fun t => some (t && b)).bind fun v => if v = true then y else z) := by
  cases x with
  | none => rfl
  | some t => cases t <;> cases b <;> rfl
section
variable (table : ByteArray) (cols : List Col) (vals : List Val) (col : ByteArray) (exp wh : List Itm) (outs : List (List Itm))
theorem j0_true (kind : Int) : Ev (fun k => spec_StmOK.j0 k kind true kind table cols vals col exp wh outs) false :=
  Ev.step (f := fun _ => some false) (fun k => by rw [spec_StmOK.j0, if_pos rfl]) (Ev.now _)
theorem j1_true (kind : Int) : Ev (fun k => spec_StmOK.j1 k kind true kind table cols vals col exp wh outs) false :=
  Ev.step (f := fun _ => some false) (fun k => by rw [spec_StmOK.j1, if_pos rfl]) (Ev.now _)
theorem j0_low (kind : Int) (h : kind < 3) {r : Bool} (hr : Ev (fun k => spec_StmOK.j1 k kind (decide (¬ wh.length = 0)) kind table cols vals col exp wh outs) r) : Ev (fun k => spec_StmOK.j0 k kind false kind table cols vals col exp wh outs) r :=
  Ev.step (fun k => by rw [spec_StmOK.j0, if_neg ff, if_pos h, ne0]) hr
theorem j0_high (kind : Int) (h : ¬ kind < 3) {r : Bool} (hr : Ev (fun k => spec_StmOK.j1 k kind false kind table cols vals col exp wh outs) r) : Ev (fun k => spec_StmOK.j0 k kind false kind table cols vals col exp wh outs) r :=
  Ev.step (fun k => by rw [spec_StmOK.j0, if_neg ff, if_neg h]) hr
theorem spec_cols (hl : cols.length ≤ 1000000000) : Ev (fun k => spec_StmOK.l0 k cols (cols.length : Int) ((0 : Nat) : Int) 1 table cols vals col exp wh outs) (decide (1 ≤ cols.length ∧ cols.length ≤ 20) && cols.all colOk) := by
  by_cases h20 : cols.length ≤ 20
  · have := Gen.every (α := Col) colOk (decide (1 ≤ cols.length)) (fun k i => spec_StmOK.l0 k cols (cols.length : Int) i 1 table cols vals col exp wh outs)
      (fun k c => (spec_l4Name.f k c.f0).bind fun t => some (t && (decide (c.f1 = 1) || decide (c.f1 = 2)))) cols (fun k i h => by
        rw [spec_StmOK.l0, if_pos (by omega), if_pos (by omega), if_pos (by omega), if_neg (by omega), rdCol cols i h, wsucc i (by omega)]
        simp only [spec_type]
        exact bind_two _ _ _ _)
      (Ev.step (f := fun _ => some (decide (1 ≤ cols.length))) (fun k => by
        rw [spec_StmOK.l0, if_neg (by omega)]
        congr 1
        by_cases h : 1 ≤ cols.length
        · rw [decide_eq_true h, decide_eq_true (by omega)]
        · rw [decide_eq_false h, decide_eq_false (by omega)]) (Ev.now _))
      (fun c _ => (spec_nm c.f0).bind (Ev.now _)) cols.length 0 (by omega)
    have e : (decide (1 ≤ cols.length ∧ cols.length ≤ 20) && cols.all colOk) = ((cols.drop 0).all colOk && decide (1 ≤ cols.length)) := by
      rw [List.drop_zero, Bool.and_comm]
      by_cases h : 1 ≤ cols.length
      · rw [decide_eq_true h, decide_eq_true (And.intro h h20)]
      · rw [decide_eq_false h, decide_eq_false (fun x => h x.1)]
    rw [e]
    exact this
  · refine Ev.step (f := fun _ => some false) (fun k => ?_) ?_
    · rw [spec_StmOK.l0, if_pos (by omega), if_pos (by omega), if_pos (by omega), if_pos (by omega)]
    · rw [decide_eq_false (fun x => h20 x.2), Bool.false_and]; exact Ev.now _
theorem spec_vals (hl : vals.length ≤ 1000000000) : Ev (fun k => spec_StmOK.l1 k vals (vals.length : Int) ((0 : Nat) : Int) 2 table cols vals col exp wh outs) (decide (1 ≤ vals.length ∧ vals.length ≤ 20) && vals.all fun v => valOk v.f0 v.f1 v.f2) := by
  by_cases h20 : vals.length ≤ 20
  · have := Gen.every (α := Val) (fun v => valOk v.f0 v.f1 v.f2) (decide (1 ≤ vals.length)) (fun k i => spec_StmOK.l1 k vals (vals.length : Int) i 2 table cols vals col exp wh outs)
      (fun k v => spec_l4Value.f k v.f0 v.f1 v.f2) vals (fun k i h => by
        rw [spec_StmOK.l1, if_pos (by omega), if_pos (by omega), if_pos (by omega), if_neg (by omega), rdVal vals i h, wsucc i (by omega)])
      (Ev.step (f := fun _ => some (decide (1 ≤ vals.length))) (fun k => by
        rw [spec_StmOK.l1, if_neg (by omega)]
        congr 1
        by_cases h : 1 ≤ vals.length
        · rw [decide_eq_true h, decide_eq_true (by omega)]
        · rw [decide_eq_false h, decide_eq_false (by omega)]) (Ev.now _))
      (fun v _ => spec_val _ _ _) vals.length 0 (by omega)
    have e : (decide (1 ≤ vals.length ∧ vals.length ≤ 20) && vals.all fun v => valOk v.f0 v.f1 v.f2) = ((vals.drop 0).all (fun v => valOk v.f0 v.f1 v.f2) && decide (1 ≤ vals.length)) := by
      rw [List.drop_zero, Bool.and_comm]
      by_cases h : 1 ≤ vals.length
      · rw [decide_eq_true h, decide_eq_true (And.intro h h20)]
      · rw [decide_eq_false h, decide_eq_false (fun x => h x.1)]
    rw [e]
    exact this
  · refine Ev.step (f := fun _ => some false) (fun k => ?_) ?_
    · rw [spec_StmOK.l1, if_pos (by omega), if_pos (by omega), if_pos (by omega), if_pos (by omega)]
    · rw [decide_eq_false (fun x => h20 x.2), Bool.false_and]; exact Ev.now _
theorem spec_outs (hl : outs.length ≤ 1000000000) : Ev (fun k => spec_StmOK.l2 k outs (outs.length : Int) ((0 : Nat) : Int) 5 table cols vals col exp wh outs) (decide (1 ≤ outs.length ∧ outs.length ≤ 20) && (outs.all expOk && whOk wh)) := by
  by_cases h20 : outs.length ≤ 20
  · have := Gen.every (α := List Itm) expOk (decide (1 ≤ outs.length) && whOk wh) (fun k i => spec_StmOK.l2 k outs (outs.length : Int) i 5 table cols vals col exp wh outs)
      (fun k v => spec_l4Exp.f k v) outs (fun k i h => by
        rw [spec_StmOK.l2, if_pos (by omega), if_pos (by omega), if_pos (by omega), if_neg (by omega), rdII outs i h, wsucc i (by omega)])
      (by
        by_cases h : 1 ≤ outs.length
        · refine Ev.step (f := fun k => (spec_l4Where.f k wh).bind fun t => some t) (fun k => by rw [spec_StmOK.l2, if_neg (by omega), if_pos (by omega)]) ?_
          rw [decide_eq_true h, Bool.true_and]
          exact (spec_wh wh).bind (Ev.now _)
        · refine Ev.step (f := fun _ => some false) (fun k => by rw [spec_StmOK.l2, if_neg (by omega), if_neg (by omega)]) ?_
          rw [decide_eq_false h, Bool.false_and]
          exact Ev.now _)
      (fun v _ => spec_exp _) outs.length 0 (by omega)
    have e : (decide (1 ≤ outs.length ∧ outs.length ≤ 20) && (outs.all expOk && whOk wh)) = ((outs.drop 0).all expOk && (decide (1 ≤ outs.length) && whOk wh)) := by
      rw [List.drop_zero]
      by_cases h : 1 ≤ outs.length
      · rw [decide_eq_true h, decide_eq_true (And.intro h h20)]; simp
      · rw [decide_eq_false h, decide_eq_false (fun x => h x.1)]; simp
    rw [e]
    exact this
  · refine Ev.step (f := fun _ => some false) (fun k => ?_) ?_
    · rw [spec_StmOK.l2, if_pos (by omega), if_pos (by omega), if_pos (by omega), if_pos (by omega)]
    · rw [decide_eq_false (fun x => h20 x.2), Bool.false_and]; exact Ev.now _
theorem spec_stm (kind : Int) (h2 : cols.length ≤ 1000000000) (h3 : vals.length ≤ 1000000000) (h7 : outs.length ≤ 1000000000) :
    Ev (fun k => spec_StmOK.f k kind table cols vals col exp wh outs) (stmOk kind table cols vals col exp wh outs) := by
  refine Ev.congr (fun k => spec_f_eq k kind table cols vals col exp wh outs) ?_
  refine (spec_nm table).bind ?_
  unfold stmOk
  cases hn : nameKw table with
  | false => simp only [if_neg ff, Bool.false_and]; exact Ev.now _
  | true =>
    simp only [if_true, Bool.true_and]
    by_cases k1 : kind = 1
    · subst k1
      by_cases e2 : vals.length = 0 <;> by_cases e3 : col.toList = ([] : List UInt8) <;> by_cases e4 : exp.length = 0 <;> by_cases e5 : outs.length = 0
      all_goals
        simp only [bad, decide_not, decide_true, decide_false, Bool.not_true, Bool.not_false, Bool.false_and, Bool.true_and, Bool.or_false, Bool.false_or, Bool.true_or, Bool.or_true, Bool.and_true, Bool.and_false, if_true, ite_false, if_neg ff, show ¬ (1 : Int) = 2 by decide, show ¬ (1 : Int) = 3 by decide, show ¬ (1 : Int) = 4 by decide, show ¬ (1 : Int) = 5 by decide, e2, e3, e4, e5]
        first
        | exact j0_true table cols vals col exp wh outs 1
        | (refine j0_low table cols vals col exp wh outs 1 (by decide) ?_
           by_cases e6 : wh.length = 0
           · simp only [e6, decide_true, decide_not, Bool.not_true, Bool.true_and]
             refine Ev.step (fun k => by rw [spec_StmOK.j1, if_neg ff, if_pos rfl]) ?_
             exact spec_cols table cols vals col exp wh outs h2
           · simp only [e6, decide_false, decide_not, Bool.not_false, Bool.false_and]
             exact j1_true table cols vals col exp wh outs 1)
    by_cases k2 : kind = 2
    · subst k2
      by_cases e1 : cols.length = 0 <;> by_cases e3 : col.toList = ([] : List UInt8) <;> by_cases e4 : exp.length = 0 <;> by_cases e5 : outs.length = 0
      all_goals
        simp only [bad, decide_not, decide_true, decide_false, Bool.not_true, Bool.not_false, Bool.false_and, Bool.true_and, Bool.or_false, Bool.false_or, Bool.true_or, Bool.or_true, Bool.and_true, Bool.and_false, if_true, ite_false, if_neg ff, show ¬ (2 : Int) = 1 by decide, show ¬ (2 : Int) = 3 by decide, show ¬ (2 : Int) = 4 by decide, show ¬ (2 : Int) = 5 by decide, e1, e3, e4, e5]
        first
        | exact j0_true table cols vals col exp wh outs 2
        | (refine j0_low table cols vals col exp wh outs 2 (by decide) ?_
           by_cases e6 : wh.length = 0
           · simp only [e6, decide_true, decide_not, Bool.not_true, Bool.true_and]
             refine Ev.step (fun k => by rw [spec_StmOK.j1, if_neg ff, if_neg (by decide), if_pos rfl]) ?_
             exact spec_vals table cols vals col exp wh outs h3
           · simp only [e6, decide_false, decide_not, Bool.not_false, Bool.false_and]
             exact j1_true table cols vals col exp wh outs 2)
    by_cases k3 : kind = 3
    · subst k3
      by_cases e1 : cols.length = 0 <;> by_cases e2 : vals.length = 0 <;> by_cases e5 : outs.length = 0
      all_goals
        simp only [bad, decide_not, decide_true, decide_false, Bool.not_true, Bool.not_false, Bool.false_and, Bool.true_and, Bool.or_false, Bool.false_or, Bool.true_or, Bool.or_true, Bool.and_true, Bool.and_false, if_true, ite_false, if_neg ff, show ¬ (3 : Int) = 1 by decide, show ¬ (3 : Int) = 2 by decide, show ¬ (3 : Int) = 4 by decide, show ¬ (3 : Int) = 5 by decide, e1, e2, e5]
        first
        | exact j0_true table cols vals col exp wh outs 3
        | (refine j0_high table cols vals col exp wh outs 3 (by decide) ?_
           refine Ev.step (fun k => by rw [spec_StmOK.j1, if_neg ff, if_neg (by decide), if_neg (by decide), if_pos rfl]) ?_
           refine (spec_nm col).bind ?_
           cases nameKw col with
           | false => simp only [if_neg ff, Bool.false_and]; exact Ev.now _
           | true =>
             simp only [if_true, Bool.true_and]
             refine (spec_exp exp).bind ?_
             cases expOk exp with
             | false => simp only [if_neg ff, Bool.false_and]; exact Ev.now _
             | true => simp only [if_true, Bool.true_and]; exact (spec_wh wh).bind (Ev.now _))
    by_cases k4 : kind = 4
    · subst k4
      by_cases e1 : cols.length = 0 <;> by_cases e2 : vals.length = 0 <;> by_cases e3 : col.toList = ([] : List UInt8) <;> by_cases e4 : exp.length = 0 <;> by_cases e5 : outs.length = 0
      all_goals
        simp only [bad, decide_not, decide_true, decide_false, Bool.not_true, Bool.not_false, Bool.false_and, Bool.true_and, Bool.or_false, Bool.false_or, Bool.true_or, Bool.or_true, Bool.and_true, Bool.and_false, if_true, ite_false, if_neg ff, show ¬ (4 : Int) = 1 by decide, show ¬ (4 : Int) = 2 by decide, show ¬ (4 : Int) = 3 by decide, show ¬ (4 : Int) = 5 by decide, e1, e2, e3, e4, e5]
        first
        | exact j0_true table cols vals col exp wh outs 4
        | (refine j0_high table cols vals col exp wh outs 4 (by decide) ?_
           refine Ev.step (fun k => by rw [spec_StmOK.j1, if_neg ff, if_neg (by decide), if_neg (by decide), if_neg (by decide), if_pos rfl]) ?_
           exact (spec_wh wh).bind (Ev.now _))
    by_cases k5 : kind = 5
    · subst k5
      by_cases e1 : cols.length = 0 <;> by_cases e2 : vals.length = 0 <;> by_cases e3 : col.toList = ([] : List UInt8) <;> by_cases e4 : exp.length = 0
      all_goals
        simp only [bad, decide_not, decide_true, decide_false, Bool.not_true, Bool.not_false, Bool.false_and, Bool.true_and, Bool.or_false, Bool.false_or, Bool.true_or, Bool.or_true, Bool.and_true, Bool.and_false, if_true, ite_false, if_neg ff, show ¬ (5 : Int) = 1 by decide, show ¬ (5 : Int) = 2 by decide, show ¬ (5 : Int) = 3 by decide, show ¬ (5 : Int) = 4 by decide, e1, e2, e3, e4]
        first
        | exact j0_true table cols vals col exp wh outs 5
        | (refine j0_high table cols vals col exp wh outs 5 (by decide) ?_
           refine Ev.step (fun k => by rw [spec_StmOK.j1, if_neg ff, if_neg (by decide), if_neg (by decide), if_neg (by decide), if_neg (by decide), if_pos rfl]) ?_
           exact spec_outs table cols vals col exp wh outs h7)
    simp only [if_neg k1, if_neg k2, if_neg k3, if_neg k4, if_neg k5]
    cases hb : bad kind cols vals col exp outs with
    | true => exact j0_true table cols vals col exp wh outs kind
    | false =>
      by_cases hlt : kind < 3
      · refine j0_low table cols vals col exp wh outs kind hlt ?_
        by_cases e6 : wh.length = 0
        · simp only [e6, decide_true, decide_not, Bool.not_true]
          exact Ev.step (f := fun _ => some false) (fun k => by rw [spec_StmOK.j1, if_neg ff, if_neg k1, if_neg k2, if_neg k3, if_neg k4, if_neg k5]) (Ev.now _)
        · simp only [e6, decide_false, decide_not, Bool.not_false]
          exact j1_true table cols vals col exp wh outs kind
      · refine j0_high table cols vals col exp wh outs kind hlt ?_
        exact Ev.step (f := fun _ => some false) (fun k => by rw [spec_StmOK.j1, if_neg ff, if_neg k1, if_neg k2, if_neg k3, if_neg k4, if_neg k5]) (Ev.now _)
theorem if_and (p : Prop) [Decidable p] (b : Bool) : (if p then (some b : Option Bool) else some false) = some (decide p && b) := by
  by_cases h : p <;> simp [h]
theorem eq0 {α : Type} (l : List α) : ((l.length : Int) == 0) = decide (l.length = 0) := by
  by_cases h : l.length = 0
  · simp [h]
  · rw [decide_eq_false h]; exact beq_eq_false_iff_ne.2 (by omega)
theorem ge1 {α : Type} (l : List α) : ((l.length : Int) ≥ 1) = (1 ≤ l.length) := propext ⟨fun h => by omega, fun h => by omega⟩
theorem le20 {α : Type} (l : List α) : ((l.length : Int) ≤ 20) = (l.length ≤ 20) := propext ⟨fun h => by omega, fun h => by omega⟩
theorem len0' {α : Type} (l : List α) : ((l.length : Int) = 0) = (l.length = 0) := propext (len0 l)
theorem dand (p q : Prop) [Decidable p] [Decidable q] : decide (p ∧ q) = (decide p && decide q) := by
  by_cases h : p <;> by_cases h2 : q <;> simp [h, h2]
theorem impl_stm (kind : Int) (ht : table.size ≤ 9223372036854775807) (hc : col.size ≤ 9223372036854775807) (h2 : cols.length ≤ 1000000000) (h2s : ∀ y ∈ cols, y.f0.size ≤ 9223372036854775807) (h3 : vals.length ≤ 1000000000) (h3s : ∀ y ∈ vals, y.f2.size ≤ 9223372036854775807) (h5s : ∀ y ∈ exp, y.f2.size ≤ 9223372036854775807) (h6s : ∀ y ∈ wh, y.f2.size ≤ 9223372036854775807) (h7 : outs.length ≤ 1000000000) (h7s : ∀ y ∈ outs, ∀ z ∈ y, z.f2.size ≤ 9223372036854775807) :
    Ev (fun k => impl_StmOK.f k kind table cols vals col exp wh outs) (stmOk kind table cols vals col exp wh outs) := by
  have key : Ev (fun k => impl_StmOK.j0 k (whOk wh) kind table cols vals col exp wh outs) (stmOk kind table cols vals col exp wh outs) := by
    unfold stmOk
    refine Ev.step (fun k => by rw [impl_StmOK.j0, impl_nm table ht, Option.bind_some]) ?_
    cases hn : nameKw table with
    | false => simp only [if_neg ff, Bool.false_and]; exact Ev.now _
    | true =>
      simp only [if_true, Bool.true_and]
      by_cases k1 : kind = 1
      · simp only [if_pos k1]
        have := Gen.every (α := Col) colOk ((decide (1 ≤ cols.length) && (decide (cols.length ≤ 20) && (decide (vals.length = 0) && (decide (col.toList = ([] : List UInt8)) && (decide (exp.length = 0) && (decide (wh.length = 0) && decide (outs.length = 0))))))))
          (fun k i => impl_StmOK.l0 k (cols.length : Int) (vals.length : Int) col (exp.length : Int) (outs.length : Int) cols (cols.length : Int) i kind table cols vals col exp wh outs) (fun k c => some (colOk c)) cols (fun k i h => by
            rw [impl_StmOK.l0, if_pos (by omega), if_pos (by omega), if_pos (by omega), rdCol cols i h, impl_nm _ (h2s _ (List.getElem_mem h)), wsucc i (by omega)]
            unfold colOk
            cases nameKw cols[i].f0 with
            | false => simp
            | true =>
              by_cases a1 : cols[i].f1 = 1
              · simp [a1]
              · by_cases a2 : cols[i].f1 = 2
                · simp [a2]
                · simp [a1, a2])
          (Ev.step (f := fun _ => some _) (fun k => by
            rw [impl_StmOK.l0, if_neg (by omega)]
            simp only [eq0, ge1, le20, len0', if_and]) (Ev.now _))
          (fun c _ => Ev.now _) cols.length 0 (by omega)
        rw [List.drop_zero] at this
        refine Ev.congr (fun k => rfl) ?_
        have e : (decide (vals.length = 0) && (decide (col.toList = ([] : List UInt8)) && (decide (exp.length = 0) && (decide (outs.length = 0) && (decide (wh.length = 0) && (decide (1 ≤ cols.length ∧ cols.length ≤ 20) && cols.all colOk)))))) = (cols.all colOk && (decide (1 ≤ cols.length) && (decide (cols.length ≤ 20) && (decide (vals.length = 0) && (decide (col.toList = ([] : List UInt8)) && (decide (exp.length = 0) && (decide (wh.length = 0) && decide (outs.length = 0)))))))) := by
          rw [dand]
          cases cols.all colOk <;> cases decide (vals.length = 0) <;> cases decide (col.toList = ([] : List UInt8)) <;> cases decide (exp.length = 0) <;> cases decide (outs.length = 0) <;> cases decide (wh.length = 0) <;> simp
        rw [e]
        exact this
      by_cases k2 : kind = 2
      · simp only [if_neg k1, if_pos k2]
        have := Gen.every (α := Val) (fun v => valOk v.f0 v.f1 v.f2) ((decide (1 ≤ vals.length) && (decide (vals.length ≤ 20) && (decide (cols.length = 0) && (decide (col.toList = ([] : List UInt8)) && (decide (exp.length = 0) && (decide (wh.length = 0) && decide (outs.length = 0))))))))
          (fun k i => impl_StmOK.l1 k (cols.length : Int) (vals.length : Int) col (exp.length : Int) (outs.length : Int) vals (vals.length : Int) i kind table cols vals col exp wh outs) (fun k v => some (valOk v.f0 v.f1 v.f2)) vals (fun k i h => by
            rw [impl_StmOK.l1, if_pos (by omega), if_pos (by omega), if_pos (by omega), rdVal vals i h, impl_val _ _ _ (h3s _ (List.getElem_mem h)), wsucc i (by omega)])
          (Ev.step (f := fun _ => some _) (fun k => by
            rw [impl_StmOK.l1, if_neg (by omega)]
            simp only [eq0, ge1, le20, len0', if_and]) (Ev.now _))
          (fun c _ => Ev.now _) vals.length 0 (by omega)
        rw [List.drop_zero] at this
        have e : (decide (cols.length = 0) && (decide (col.toList = ([] : List UInt8)) && (decide (exp.length = 0) && (decide (outs.length = 0) && (decide (wh.length = 0) && (decide (1 ≤ vals.length ∧ vals.length ≤ 20) && vals.all fun v => valOk v.f0 v.f1 v.f2)))))) = ((vals.all fun v => valOk v.f0 v.f1 v.f2) && (decide (1 ≤ vals.length) && (decide (vals.length ≤ 20) && (decide (cols.length = 0) && (decide (col.toList = ([] : List UInt8)) && (decide (exp.length = 0) && (decide (wh.length = 0) && decide (outs.length = 0)))))))) := by
          rw [dand]
          cases (vals.all fun v => valOk v.f0 v.f1 v.f2) <;> cases decide (cols.length = 0) <;> cases decide (col.toList = ([] : List UInt8)) <;> cases decide (exp.length = 0) <;> cases decide (outs.length = 0) <;> cases decide (wh.length = 0) <;> simp
        rw [e]
        exact this
      by_cases k3 : kind = 3
      · simp only [if_neg k1, if_neg k2, if_pos k3, impl_nm col hc, Option.bind_some]
        cases nameKw col with
        | false => simp only [if_neg ff, Bool.false_and, Bool.and_false]; exact Ev.now _
        | true =>
          simp only [if_true, Bool.true_and]
          refine (impl_exp exp h5s).bind ?_
          cases expOk exp with
          | false => simp only [if_neg ff, Bool.false_and, Bool.and_false]; exact Ev.now _
          | true =>
            simp only [if_true, Bool.true_and, eq0, len0', if_and]
            cases whOk wh with
            | false => simp only [decide_eq_false ff, Bool.false_and, Bool.and_false]; exact Ev.now _
            | true => simp only [decide_true, Bool.true_and, Bool.and_true]; exact Ev.now _
      by_cases k4 : kind = 4
      · simp only [if_neg k1, if_neg k2, if_neg k3, if_pos k4, eq0, len0', if_and]
        cases whOk wh with
        | false => simp only [decide_eq_false ff, Bool.false_and, Bool.and_false]; exact Ev.now _
        | true => simp only [decide_true, Bool.true_and, Bool.and_true]; exact Ev.now _
      by_cases k5 : kind = 5
      · simp only [if_neg k1, if_neg k2, if_neg k3, if_neg k4, if_pos k5]
        have := Gen.every (α := List Itm) expOk ((decide (1 ≤ outs.length) && (decide (outs.length ≤ 20) && (decide (whOk wh = true) && (decide (cols.length = 0) && (decide (vals.length = 0) && (decide (col.toList = ([] : List UInt8)) && decide (exp.length = 0))))))))
          (fun k i => impl_StmOK.l2 k (whOk wh) (cols.length : Int) (vals.length : Int) col (exp.length : Int) (outs.length : Int) outs (outs.length : Int) i) (fun k v => impl_expOK.f k v) outs (fun k i h => by
            rw [impl_StmOK.l2, if_pos (by omega), if_pos (by omega), if_pos (by omega), rdII outs i h, wsucc i (by omega)])
          (Ev.step (f := fun _ => some _) (fun k => by
            rw [impl_StmOK.l2, if_neg (by omega)]
            simp only [eq0, ge1, le20, len0', if_and]) (Ev.now _))
          (fun c hc => impl_exp c (h7s c hc)) outs.length 0 (by omega)
        rw [List.drop_zero] at this
        have e : (decide (cols.length = 0) && (decide (vals.length = 0) && (decide (col.toList = ([] : List UInt8)) && (decide (exp.length = 0) && (decide (1 ≤ outs.length ∧ outs.length ≤ 20) && (outs.all expOk && whOk wh)))))) = (outs.all expOk && (decide (1 ≤ outs.length) && (decide (outs.length ≤ 20) && (decide (whOk wh = true) && (decide (cols.length = 0) && (decide (vals.length = 0) && (decide (col.toList = ([] : List UInt8)) && decide (exp.length = 0)))))))) := by
          rw [dand]
          cases outs.all expOk <;> cases whOk wh <;> cases decide (cols.length = 0) <;> cases decide (vals.length = 0) <;> cases decide (col.toList = ([] : List UInt8)) <;> cases decide (exp.length = 0) <;> simp
        rw [e]
        exact this
      simp only [if_neg k1, if_neg k2, if_neg k3, if_neg k4, if_neg k5]
      exact Ev.now _
  unfold impl_StmOK.f
  by_cases e6 : wh.length = 0
  · have : whOk wh = true := by unfold whOk; rw [decide_eq_true e6, Bool.true_or]
    simp only [if_pos ((len0 wh).2 e6)]
    rw [this] at key
    exact key
  · have : whOk wh = expOk wh := by unfold whOk; rw [decide_eq_false e6, Bool.false_or]
    simp only [if_neg (fun h => e6 ((len0 wh).1 h))]
    rw [this] at key
    exact (impl_exp wh h6s).bind key
end
end Go.Proofs.YtbpfdjbnfkclcaaDoor.Pure
end
section
set_option linter.unusedVariables false
set_option linter.unusedSimpArgs false
namespace Go.Proofs.YtbpfdjbnfkclcaaDoor
open Go.RowKit Go.Proofs.YtbpfdjbnfkclcaaDoorW.PrintWords
/-- The lowest bytes of v, the highest first: so many. -/
def numB : Nat → Int → List Int
  | 0, _ => []
  | n + 1, v => (v / 256 ^ n) % 256 :: numB n v
theorem numB_length (n : Nat) (v : Int) : (numB n v).length = n := by
  induction n with
  | zero => rfl
  | succ n ih => simp [numB, ih]
theorem numB_get (n : Nat) : ∀ (v : Int) (i : Nat), i < n → (numB n v)[i]? = some ((v / 256 ^ (n - 1 - i)) % 256) := by
  induction n with
  | zero => intro v i h; omega
  | succ n ih =>
    intro v i h
    cases i with
    | zero => simp [numB]
    | succ i => simp only [numB, List.getElem?_cons_succ]; rw [ih v i (by omega)]; congr 4; omega
theorem strOfNums_size (l : List Int) : (strOfNums l).size = l.length := by simp [strOfNums, ByteArray.size]
end Go.Proofs.YtbpfdjbnfkclcaaDoor
end
section
set_option linter.unusedVariables false
set_option linter.unusedSimpArgs false
namespace Go.Proofs.YtbpfdjbnfkclcaaDoor.Pure
open Go.RowKit Go.Proofs.YtbpfdjbnfkclcaaDoor Go.Proofs.YtbpfdjbnfkclcaaDoor.L Go.Proofs.YtbpfdjbnfkclcaaDoorW.PrintWords Go.Proofs.YtbpfdjbnfkclcaaDoorW.PrintLast
theorem num_l1 (d : Nat) : ∀ (j : Nat) (x1 : Int) (x5 : List Int) (i : Nat) (x : Int) (r : ByteArray), j + d = i → i ≤ 100 → x5.length < 1000 →
    Ev (fun k => spec_l1Num.l0 k x1 (x5 ++ [(x / 256 ^ d) % 256]) (wrap64 ((i : Int) - 1))) r → Ev (fun k => spec_l1Num.l1 k x1 x5 i x j) r := by
  induction d with
  | zero =>
    intro j x1 x5 i x r hj hi hl h
    refine Ev.step (f := fun k => spec_l1Num.l0 k x1 (x5 ++ [x % 256]) (wrap64 ((i : Int) - 1))) (fun k => ?_) ?_
    · rw [spec_l1Num.l1, if_neg (by omega), if_pos (by omega)]
    · simpa using h
  | succ d ih =>
    intro j x1 x5 i x r hj hi hl h
    refine Ev.step (f := fun k => spec_l1Num.l1 k x1 x5 i (x / 256) ((j + 1 : Nat) : Int)) (fun k => ?_) ?_
    · rw [spec_l1Num.l1, if_pos (by omega), show wrap64 ((j : Int) + 1) = ((j + 1 : Nat) : Int) from by unfold wrap64; omega]
    · refine ih (j + 1) x1 x5 i (x / 256) r (by omega) hi hl ?_
      rw [Int.ediv_ediv_of_nonneg (by decide), show (256 : Int) * 256 ^ d = 256 ^ (d + 1) from by rw [Int.pow_succ]; exact Int.mul_comm _ _]
      exact h
theorem num_l0 (n : Nat) : ∀ (x1 : Int) (x5 : List Int), n ≤ 100 → x5.length + n < 1000 →
    Ev (fun k => spec_l1Num.l0 k x1 x5 ((n : Int) - 1)) (strOfNums (x5 ++ numB n x1)) := by
  induction n with
  | zero =>
    intro x1 x5 _ _
    refine Ev.step (f := fun _ => some (strOfNums x5)) (fun k => ?_) ?_
    · rw [spec_l1Num.l0, if_neg (by omega)]
    · simpa [numB] using Ev.now _
  | succ n ih =>
    intro x1 x5 hn hl
    refine Ev.step (f := fun k => spec_l1Num.l1 k x1 x5 ((n + 1 : Nat) - 1) x1 0) (fun k => ?_) ?_
    · rw [spec_l1Num.l0, if_pos (by omega)]
    · have e : (((n + 1 : Nat) : Int) - 1) = (n : Int) := by omega
      rw [e]
      refine num_l1 n 0 x1 x5 n x1 _ (by omega) (by omega) (by omega) ?_
      have hw : wrap64 ((n : Int) - 1) = (n : Int) - 1 := by unfold wrap64; omega
      rw [hw]
      have := ih x1 (x5 ++ [(x1 / 256 ^ n) % 256]) (by omega) (by simp; omega)
      simpa [numB, List.append_assoc] using this
theorem spec_num (n : Nat) (v : Int) (hn : n ≤ 100) : Ev (fun k => spec_l1Num.f k n v) (strOfNums (numB n v)) := by
  have h := num_l0 n v [] hn (by simp; omega)
  refine Ev.congr (f := fun k => spec_l1Num.l0 k v [] ((n : Int) - 1)) (fun k => ?_) (by simpa using h)
  unfold spec_l1Num.f
  rw [show wrap64 ((n : Int) - 1) = (n : Int) - 1 from by unfold wrap64; omega]
end Go.Proofs.YtbpfdjbnfkclcaaDoor.Pure
end
section
set_option linter.unusedVariables false
set_option linter.unusedSimpArgs false
namespace Go.Proofs.YtbpfdjbnfkclcaaDoor.Pure
open Go.RowKit Go.Proofs.YtbpfdjbnfkclcaaDoor Go.Proofs.YtbpfdjbnfkclcaaDoor.L Go.Proofs.YtbpfdjbnfkclcaaDoorW.PrintWords Go.Proofs.YtbpfdjbnfkclcaaDoorW.PrintLast
theorem inum_l0 (e : Nat) : ∀ (x0 : Int) (n : Nat) (xs : List Int) (i : Nat), i + e = n → n ≤ 8 → xs.length = n → (∀ j, j < i → xs[j]? = (numB n x0)[j]?) →
    Ev (fun k => impl_number.l0 k x0 n xs n i) (strOfNums (numB n x0)) := by
  induction e with
  | zero =>
    intro x0 n xs i hi hn hl hx
    obtain rfl : i = n := by omega
    have : xs = numB i x0 := by
      apply List.ext_getElem?
      intro j
      by_cases hj : j < i
      · exact hx j hj
      · rw [List.getElem?_eq_none (by omega), List.getElem?_eq_none (by rw [numB_length]; omega)]
    subst this
    refine Ev.step (f := fun _ => some (strOfNums (numB i x0))) (fun k => ?_) (Ev.now _)
    rw [impl_number.l0, if_neg (by omega)]
  | succ e ih =>
    intro x0 n xs i hi hn hl hx
    have hw : wrap64 (8 * wrap64 (wrap64 ((n : Int) - 1) - (i : Int))) = ((8 * (n - 1 - i) : Nat) : Int) := by unfold wrap64; omega
    have hsh : shr .i64 x0 ((8 * (n - 1 - i) : Nat) : Int) = x0 / 256 ^ (n - 1 - i) := by
      unfold shr
      have hm : min ((8 * (n - 1 - i) : Nat) : Int).toNat 64 = 8 * (n - 1 - i) := by omega
      show x0 / 2 ^ min ((8 * (n - 1 - i) : Nat) : Int).toNat 64 = _
      rw [hm, Int.pow_mul]; rfl
    refine Ev.step (f := fun k => impl_number.l0 k x0 n (xs.set i ((x0 / 256 ^ (n - 1 - i)) % 256)) n ((i + 1 : Nat) : Int)) (fun k => ?_) ?_
    · rw [impl_number.l0, if_pos (by omega), hw, if_pos (by omega), if_pos (by omega), if_pos (by omega), hsh, show wrap64 ((i : Int) + 1) = ((i + 1 : Nat) : Int) from by unfold wrap64; omega]
      simp
    · refine ih x0 n _ (i + 1) (by omega) hn (by simp [hl]) (fun j hj => ?_)
      rw [List.getElem?_set]
      by_cases h : i = j
      · subst h
        rw [if_pos rfl, if_pos (by omega), numB_get n x0 i (by omega)]
      · rw [if_neg h]
        exact hx j (by omega)
theorem impl_num (n : Nat) (v : Int) (hn : n ≤ 8) : Ev (fun k => impl_number.f k v n) (strOfNums (numB n v)) := by
  have h := inum_l0 n v n (List.replicate n 0) 0 (by omega) hn (by simp) (fun j hj => by omega)
  refine Ev.congr (fun k => ?_) h
  unfold impl_number.f
  rw [if_pos (by omega), if_pos (by omega)]
  simp
end Go.Proofs.YtbpfdjbnfkclcaaDoor.Pure
end
