/- The texts that the proof of the law FnExactPrintSql rests on, part 5: printed functions with their contracts, words, plain laws; the last part ends in the statement itself. No condition but those that each theorem states. -/
import Derived.Test.YtbpfdjbnfkclcaaGreatDoorKFnExactPrintSql4
set_option linter.unusedVariables false
set_option linter.unusedSimpArgs false
section
namespace Go.Proofs.YtbpfdjbnfkclcaaGreatDoor.L
open Go.RowKit Go.Proofs.YtbpfdjbnfkclcaaGreatDoorW.PrintWords Go.Proofs.YtbpfdjbnfkclcaaGreatDoorW.PrintLast Go.Proofs.YtbpfdjbnfkclcaaGreatDoorW.PrintMore
attribute [local go_sem] max2_int min2_int max_two min_two max_three min_three max_four min_four
set_option linter.unusedVariables false
set_option linter.unusedSimpArgs false
def laws_eqColumnS.l0 : Nat → List (S46) → List (S46) → Int → Option (Bool)
  | 0, _, _, _ => none
  | k + 1, x0, x1, x5 => if x5 < (x0.length : Int) then (if 0 ≤ x5 then (if x5 < (x1.length : Int) then ((laws_eqColumn.f ((rd_T46 x0 x5).f0) ((rd_T46 x0 x5).f1) ((rd_T46 x1 x5).f0) ((rd_T46 x1 x5).f1)).bind fun t320 => (if t320 = true then (laws_eqColumnS.l0 k x0 x1 (wrap64 (x5 + 1))) else (some false))) else (none)) else (none)) else (some true)
def laws_eqColumnS.f (k : Nat) (l0 : List (S46)) (l1 : List (S46)) : Option (Bool) := if (l0.length : Int) = (l1.length : Int) then (laws_eqColumnS.l0 k l0 l1 0) else (some false)
theorem laws_eqColumnS.mono_l : ∀ k, (∀ y0 y1 y2, LeO (laws_eqColumnS.l0 k y0 y1 y2) (laws_eqColumnS.l0 (k + 1) y0 y1 y2))
  | 0 => fun _ _ _ r h => by simp [laws_eqColumnS.l0] at h
  | k + 1 => by
    have ih0 := laws_eqColumnS.mono_l k
    · intro y0 y1 y2
      unfold laws_eqColumnS.l0
      repeat' first
      | (with_reducible exact ih0 _ _ _)
      | (with_reducible exact LeO.refl _)
      | (with_reducible exact LeO.none _)
      | (with_reducible refine LeO.ite ?_ ?_)
      | (with_reducible refine LeO.bind ?_ (fun _ => ?_))
      | exact ih0 _ _ _
      | exact LeO.none _
      | refine LeO.ite ?_ ?_
      | refine LeO.bind ?_ (fun _ => ?_)
theorem laws_eqColumnS.mono : ∀ a0 a1 k, LeO (laws_eqColumnS.f k a0 a1) (laws_eqColumnS.f (k + 1) a0 a1) := by
  intro a0 a1 k
  have ih0 := laws_eqColumnS.mono_l k
  unfold laws_eqColumnS.f
  repeat' first
      | (with_reducible exact ih0 _ _ _)
      | (with_reducible exact LeO.refl _)
      | (with_reducible exact LeO.none _)
      | (with_reducible refine LeO.ite ?_ ?_)
      | (with_reducible refine LeO.bind ?_ (fun _ => ?_))
      | exact ih0 _ _ _
      | exact LeO.none _
      | refine LeO.ite ?_ ?_
      | refine LeO.bind ?_ (fun _ => ?_)
def laws_eqColumnS.T6 : Bool × List (List Nat × List Nat) := (true, [([], []), ([], []), ([0, 1], [0, 1]), ([2], [2]), ([], []), ([], []), ([4, 5], [4, 5]), ([6], [6]), ([3, 7], [3, 7]), ([8], [8])])
def laws_eqColumnS.B6 : List Nat := [0, 0, 3, 7, 0, 0, 48, 112, 255, 511]
theorem laws_eqColumnS.tab6 : rtab .any (opsOf Tryz.f26 6) = laws_eqColumnS.T6 := by kernel_rfl
theorem laws_eqColumnS.bits6 : waitsOk laws_eqColumnS.T6.2 laws_eqColumnS.B6 = true := by kernel_rfl
set_option maxHeartbeats 8000000 in
set_option maxRecDepth 100000 in
theorem laws_eqColumnS.calls (k : Nat) (A0 : Option Addr) (c0 : Nat) (l0 : List (S46)) (A1 : Option Addr) (c1 : Nat) (l1 : List (S46)) (r : Bool) (w : World) (hr0 : Kd.C k46 w A0 l0.length l0) (hc0 : l0.length ≤ c0) (hr1 : Kd.C k46 w A1 l1.length l1) (hc1 : l1.length ≤ c1) (h : laws_eqColumnS.f k l0 l1 = some r) :
    Calls Tryz.prog 26 #[.slice A0 l0.length c0, .slice A1 l1.length c1] w fun e w' => e = .returned (.bool r) ∧ Below w.heap.size w w' := by
  have hu46 := Tryz.underlying46; have HR0 := qK hr0; have HC0 := qK hc0; clear hr0 hc0; have HR1 := qK hr1; have HC1 := qK hc1; clear hr1 hc1; have HB := qK (Below.refl w.heap.size w); have H : (if (l0.length : Int) = (l1.length : Int) then (laws_eqColumnS.l0 k l0 l1 0) else (some false)) = some r := h; clear h; by_cases c3 : (l0.length : Int) = (l1.length : Int)
  · rw [if_pos c3] at H; have c3b0 : ((l0.length : Int) == (l1.length : Int)) = true := beq_iff_eq.mpr c3; have c3b1 : ((l0.length : Int) != (l1.length : Int)) = false := bne_eq_false_iff_eq.mpr c3; (have c3b2 : (l0.length == l1.length) = true := by first | simpa using c3 | (simp at c3 ⊢; omega)); clear c3; have H' := qK H; clear H; go_enter Tryz.func26, Tryz.ntmps26; go_wp2; go_loopg [5] k (fun kq v5 w' => ∃ (x5_1 : Int), v5 = .int .i64 x5_1 ∧ Aside0 (laws_eqColumnS.l0 kq l0 l1 x5_1 = some r) ∧ Aside0 (kq ≤ k) ∧ Aside0 (Below w.heap.size w w'))
    case atStart => exact ⟨(0), qS, H', ⟨Nat.le_refl _⟩, ⟨qB⟩⟩
    case round =>
      clear H'; (try clear c1); (try clear c2); (try clear p2); (try clear c3); (try clear c3b0); (try clear c3b1); (try clear c3b2); obtain ⟨x5_1, rfl, HA, HK1, HB⟩ := hrel
      cases gk with
      | zero => exact absurd HA.out (by simp [laws_eqColumnS.l0])
      | succ k1 =>
        have H := HA.out; clear HA; simp only [laws_eqColumnS.l0] at H; by_cases c4 : x5_1 < (l0.length : Int)
        · rw [if_pos c4] at H; have c4b0 : decide (x5_1 < (l0.length : Int)) = true := decide_eq_true c4; clear c4; by_cases c5 : 0 ≤ x5_1
          · rw [if_pos c5] at H; have c5b0 : decide (0 ≤ x5_1) = true := decide_eq_true c5; clear c5; by_cases c6 : x5_1 < (l1.length : Int)
            · rw [if_pos c6] at H; have c6b0 : decide (x5_1 < (l1.length : Int)) = true := decide_eq_true c6; clear c6; replace H := Option.bind_eq_some_iff.mp H; obtain ⟨t320, A70, H⟩ := H; have A7 := qK A70; clear A70; by_cases c8 : t320 = true
              · subst c8; rw [if_pos rfl] at H; have H' := qK H; clear H; (try go_wp2); replace HB := qK (bd1 HB.out); have p318 : 0 ≤ (x5_1 : Int) := of_decide_eq_true qa; have q318 : x5_1 < (l0.length : Int) := of_decide_eq_true qa; obtain ⟨ad318, e318, hx318_0, hx318_1⟩ := at_T46 HR0.out x5_1 p318 q318; have hw318_1 := hx318_1; have hw318_0 := hx318_0; cases e318; replace hx318_0 := (HB.out.cell (World.block_lt_of_cell? w _ hx318_0)).trans hx318_0; replace hx318_1 := (HB.out.cell (World.block_lt_of_cell? w _ hx318_1)).trans hx318_1; replace p318 := eq_true p318; replace q318 := eq_true q318; have p319 : 0 ≤ (x5_1 : Int) := of_decide_eq_true qa; have q319 : x5_1 < (l1.length : Int) := of_decide_eq_true qa; obtain ⟨ad319, e319, hx319_0, hx319_1⟩ := at_T46 HR1.out x5_1 p319 q319; have hw319_1 := hx319_1; have hw319_0 := hx319_0; cases e319; replace hx319_0 := (HB.out.cell (World.block_lt_of_cell? w _ hx319_0)).trans hx319_0; replace hx319_1 := (HB.out.cell (World.block_lt_of_cell? w _ hx319_1)).trans hx319_1; replace p319 := eq_true p319; replace q319 := eq_true q319; refine qs 10 (fun w' => w'.cell? (ad318.add ((x5_1).toNat * 2)) = some (.string ((rd_T46 l0 x5_1).f0)) ∧ w'.cell? ⟨(ad318.add ((x5_1).toNat * 2)).block, (ad318.add ((x5_1).toNat * 2)).off + 1, none⟩ = some (.int .i64 ((rd_T46 l0 x5_1).f1)) ∧ w'.cell? (ad319.add ((x5_1).toNat * 2)) = some (.string ((rd_T46 l1 x5_1).f0)) ∧ w'.cell? ⟨(ad319.add ((x5_1).toNat * 2)).block, (ad319.add ((x5_1).toNat * 2)).off + 1, none⟩ = some (.int .i64 ((rd_T46 l1 x5_1).f1))) (ds := []) ⟨((HB.out.cell (World.block_lt_of_cell? w _ hw318_0)).trans hw318_0), ((HB.out.cell (World.block_lt_of_cell? w _ hw318_1)).trans hw318_1), ((HB.out.cell (World.block_lt_of_cell? w _ hw319_0)).trans hw319_0), ((HB.out.cell (World.block_lt_of_cell? w _ hw319_1)).trans hw319_1)⟩ (fun hHeld => ?_); refine with_tabW laws_eqColumnS.tab6 laws_eqColumnS.bits6 (fun HT_ HW_ => ?_); generalize wr.drew = w9 at HB hx318_0 hx318_1 hx319_0 hx319_1 hHeld ⊢; refine qp 0 17 ?_; refine qp 1 18 ?_; refine qp 2 19 ?_; refine qp 4 21 ?_; refine qp 5 22 ?_; refine qp 6 23 ?_; refine qt 3 20 ?_; refine qt 7 24 ?_; refine qo 8 25 (fun K hK => ?_); refine goes_ Tryz.func53 (by kernel_rfl) rfl #[.agg #[.string ((rd_T46 l0 x5_1).f0), .int .i64 ((rd_T46 l0 x5_1).f1)], .agg #[.string ((rd_T46 l1 x5_1).f0), .int .i64 ((rd_T46 l1 x5_1).f1)]] (by rfl) rfl rfl qA ?_; (with_reducible refine (laws_eqColumn.calls ((rd_T46 l0 x5_1).f0) ((rd_T46 l0 x5_1).f1) ((rd_T46 l1 x5_1).f0) ((rd_T46 l1 x5_1).f1) true _ A7.out).mono ?_); rintro e w10 ⟨rfl, hb⟩; refine ⟨_, rfl, ?_⟩; replace HB := qHB HB hb; (try clear hb); (try clear hb2); (try clear hk); (try clear hi); refine hK.out _ _ ⟨((HB.out.cell (World.block_lt_of_cell? w _ hw318_0)).trans hw318_0), ((HB.out.cell (World.block_lt_of_cell? w _ hw318_1)).trans hw318_1), ((HB.out.cell (World.block_lt_of_cell? w _ hw319_0)).trans hw319_0), ((HB.out.cell (World.block_lt_of_cell? w _ hw319_1)).trans hw319_1)⟩ (fun hHeld => ?_); clear hK K; refine norm_ (a' := ?_) ?_ ?_; rotate_left
                · show Act.put _ (some 25) _ = _; simp only [Act.put, List.setIfInBounds_toArray, List.set_cons_zero, List.set_cons_succ, i64_w, i32_w]; rfl
                refine qp 9 26 ?_; refine done_ (done_of HT_.out (by kernel_rfl)) ?_; (try go_wp2); go_roundg k1
                case measure => have := HK1.out; omega
                case rel => exact ⟨(wrap64 (x5_1 + 1)), qS, H', ⟨by have := HK1.out; omega⟩, ⟨qB⟩⟩
              · replace c8 := Bool.eq_false_iff.mpr c8; subst c8; rw [if_neg qff] at H; obtain rfl := Option.some.inj H; (try go_wp2); replace HB := qK (bd1 HB.out); have p318 : 0 ≤ (x5_1 : Int) := of_decide_eq_true qa; have q318 : x5_1 < (l0.length : Int) := of_decide_eq_true qa; obtain ⟨ad318, e318, hx318_0, hx318_1⟩ := at_T46 HR0.out x5_1 p318 q318; have hw318_1 := hx318_1; have hw318_0 := hx318_0; cases e318; replace hx318_0 := (HB.out.cell (World.block_lt_of_cell? w _ hx318_0)).trans hx318_0; replace hx318_1 := (HB.out.cell (World.block_lt_of_cell? w _ hx318_1)).trans hx318_1; replace p318 := eq_true p318; replace q318 := eq_true q318; have p319 : 0 ≤ (x5_1 : Int) := of_decide_eq_true qa; have q319 : x5_1 < (l1.length : Int) := of_decide_eq_true qa; obtain ⟨ad319, e319, hx319_0, hx319_1⟩ := at_T46 HR1.out x5_1 p319 q319; have hw319_1 := hx319_1; have hw319_0 := hx319_0; cases e319; replace hx319_0 := (HB.out.cell (World.block_lt_of_cell? w _ hx319_0)).trans hx319_0; replace hx319_1 := (HB.out.cell (World.block_lt_of_cell? w _ hx319_1)).trans hx319_1; replace p319 := eq_true p319; replace q319 := eq_true q319; refine qs 10 (fun w' => w'.cell? (ad318.add ((x5_1).toNat * 2)) = some (.string ((rd_T46 l0 x5_1).f0)) ∧ w'.cell? ⟨(ad318.add ((x5_1).toNat * 2)).block, (ad318.add ((x5_1).toNat * 2)).off + 1, none⟩ = some (.int .i64 ((rd_T46 l0 x5_1).f1)) ∧ w'.cell? (ad319.add ((x5_1).toNat * 2)) = some (.string ((rd_T46 l1 x5_1).f0)) ∧ w'.cell? ⟨(ad319.add ((x5_1).toNat * 2)).block, (ad319.add ((x5_1).toNat * 2)).off + 1, none⟩ = some (.int .i64 ((rd_T46 l1 x5_1).f1))) (ds := []) ⟨((HB.out.cell (World.block_lt_of_cell? w _ hw318_0)).trans hw318_0), ((HB.out.cell (World.block_lt_of_cell? w _ hw318_1)).trans hw318_1), ((HB.out.cell (World.block_lt_of_cell? w _ hw319_0)).trans hw319_0), ((HB.out.cell (World.block_lt_of_cell? w _ hw319_1)).trans hw319_1)⟩ (fun hHeld => ?_); refine with_tabW laws_eqColumnS.tab6 laws_eqColumnS.bits6 (fun HT_ HW_ => ?_); generalize wr.drew = w11 at HB hx318_0 hx318_1 hx319_0 hx319_1 hHeld ⊢; refine qp 0 17 ?_; refine qp 1 18 ?_; refine qp 2 19 ?_; refine qp 4 21 ?_; refine qp 5 22 ?_; refine qp 6 23 ?_; refine qt 3 20 ?_; refine qt 7 24 ?_; refine qo 8 25 (fun K hK => ?_); refine goes_ Tryz.func53 (by kernel_rfl) rfl #[.agg #[.string ((rd_T46 l0 x5_1).f0), .int .i64 ((rd_T46 l0 x5_1).f1)], .agg #[.string ((rd_T46 l1 x5_1).f0), .int .i64 ((rd_T46 l1 x5_1).f1)]] (by rfl) rfl rfl qA ?_; (with_reducible refine (laws_eqColumn.calls ((rd_T46 l0 x5_1).f0) ((rd_T46 l0 x5_1).f1) ((rd_T46 l1 x5_1).f0) ((rd_T46 l1 x5_1).f1) false _ A7.out).mono ?_); rintro e w12 ⟨rfl, hb⟩; refine ⟨_, rfl, ?_⟩; replace HB := qHB HB hb; (try clear hb); (try clear hb2); (try clear hk); (try clear hi); refine hK.out _ _ ⟨((HB.out.cell (World.block_lt_of_cell? w _ hw318_0)).trans hw318_0), ((HB.out.cell (World.block_lt_of_cell? w _ hw318_1)).trans hw318_1), ((HB.out.cell (World.block_lt_of_cell? w _ hw319_0)).trans hw319_0), ((HB.out.cell (World.block_lt_of_cell? w _ hw319_1)).trans hw319_1)⟩ (fun hHeld => ?_); clear hK K; refine norm_ (a' := ?_) ?_ ?_; rotate_left
                · show Act.put _ (some 25) _ = _; simp only [Act.put, List.setIfInBounds_toArray, List.set_cons_zero, List.set_cons_succ, i64_w, i32_w]; rfl
                refine qp 9 26 ?_; refine done_ (done_of HT_.out (by kernel_rfl)) ?_; (try go_wp2); go_ret; exact ⟨qR, qB⟩
            · rw [if_neg c6] at H; exact absurd H (by simp)
          · rw [if_neg c5] at H; exact absurd H (by simp)
        · rw [if_neg c4] at H; have c4b0 : decide (x5_1 < (l0.length : Int)) = false := decide_eq_false c4; clear c4; obtain rfl := Option.some.inj H; go_wp2; go_ret; exact ⟨qR, qB⟩
  · rw [if_neg c3] at H; have c3b0 : ((l0.length : Int) == (l1.length : Int)) = false := beq_eq_false_iff_ne.mpr c3; have c3b1 : ((l0.length : Int) != (l1.length : Int)) = true := bne_iff_ne.mpr c3; (have c3b2 : (l0.length == l1.length) = false := by first | simpa using c3 | (simp at c3 ⊢; omega)); obtain rfl := Option.some.inj H; go_enter Tryz.func26, Tryz.ntmps26; go_wp2; go_ret; exact ⟨qR, qB⟩
def laws_eqValue.f (a0_0 : Int) (a0_1 : Int) (a0_2 : ByteArray) (a1_0 : Int) (a1_1 : Int) (a1_2 : ByteArray) : Option (Bool) := if a0_0 = a1_0 then (if a0_1 = a1_1 then (if a0_2.toList = a1_2.toList then (some true) else (some false)) else (some false)) else (some false)
set_option maxHeartbeats 8000000 in
set_option maxRecDepth 100000 in
theorem laws_eqValue.calls (a0_0 : Int) (a0_1 : Int) (a0_2 : ByteArray) (a1_0 : Int) (a1_1 : Int) (a1_2 : ByteArray) (r : Bool) (w : World) (h : laws_eqValue.f a0_0 a0_1 a0_2 a1_0 a1_1 a1_2 = some r) :
    Calls Tryz.prog 54 #[.agg #[.int .i64 a0_0, .int .i64 a0_1, .string a0_2], .agg #[.int .i64 a1_0, .int .i64 a1_1, .string a1_2]] w fun e w' => e = .returned (.bool r) ∧ Below w.heap.size w w' := by
  have hu49 := Tryz.underlying49; have HB := qK (Below.refl w.heap.size w); have H : (if a0_0 = a1_0 then (if a0_1 = a1_1 then (if a0_2.toList = a1_2.toList then (some true) else (some false)) else (some false)) else (some false)) = some r := h; clear h; by_cases c3 : a0_0 = a1_0
  · rw [if_pos c3] at H; have c3b0 : (a0_0 == a1_0) = true := beq_iff_eq.mpr c3; have c3b1 : (a0_0 != a1_0) = false := bne_eq_false_iff_eq.mpr c3; clear c3; by_cases c4 : a0_1 = a1_1
    · rw [if_pos c4] at H; have c4b0 : (a0_1 == a1_1) = true := beq_iff_eq.mpr c4; have c4b1 : (a0_1 != a1_1) = false := bne_eq_false_iff_eq.mpr c4; clear c4; by_cases c5 : a0_2.toList = a1_2.toList
      · rw [if_pos c5] at H; have c5b0 : (a0_2.toList == a1_2.toList) = true := beq_iff_eq.mpr c5; have c5b1 : (a0_2.toList != a1_2.toList) = false := bne_eq_false_iff_eq.mpr c5; clear c5; obtain rfl := Option.some.inj H; go_enter Tryz.func54, Tryz.ntmps54; go_wp2_with (first | ((with_reducible refine gds (N := 2) rfl ?_); refine qbx 2 #[.int .i64 a0_0, .int .i64 a0_1, .string a0_2] 49 ?_; intro gb321 hg w6 hbox hb; have BK321 := qK (hbox); have GW321 := qK ((qW : w.heap.size ≤ gb321)); have GE321 := GW321; replace HB := qHB HB hb; clear hb hbox hg) | ((with_reducible refine gds (N := 3) rfl ?_); refine qbx 3 #[.int .i64 a1_0, .int .i64 a1_1, .string a1_2] 49 ?_; intro gb322 hg w7 hbox hb; have BK322 := qK (hbox); have GW322 := qK ((qW : w.heap.size ≤ gb322)); have GE322 := GW322; replace HB := qHB HB hb; have NB321_322 := qK (qlt BK321 hg); have NB322_321 := qK (qgt BK321 hg); replace BK321 := qbb BK321 hb; clear hb hbox hg; have hnb8 := NB321_322.out; have hnc8 := NB322_321.out; have hz9 := qz3 BK321.out; have hz10 := qz3 BK322.out)); go_ret; exact ⟨qR, qB⟩
      · rw [if_neg c5] at H; have c5b0 : (a0_2.toList == a1_2.toList) = false := beq_eq_false_iff_ne.mpr c5; have c5b1 : (a0_2.toList != a1_2.toList) = true := bne_iff_ne.mpr c5; obtain rfl := Option.some.inj H; go_enter Tryz.func54, Tryz.ntmps54; go_wp2_with (first | ((with_reducible refine gds (N := 2) rfl ?_); refine qbx 2 #[.int .i64 a0_0, .int .i64 a0_1, .string a0_2] 49 ?_; intro gb321 hg w11 hbox hb; have BK321 := qK (hbox); have GW321 := qK ((qW : w.heap.size ≤ gb321)); have GE321 := GW321; replace HB := qHB HB hb; clear hb hbox hg) | ((with_reducible refine gds (N := 3) rfl ?_); refine qbx 3 #[.int .i64 a1_0, .int .i64 a1_1, .string a1_2] 49 ?_; intro gb322 hg w12 hbox hb; have BK322 := qK (hbox); have GW322 := qK ((qW : w.heap.size ≤ gb322)); have GE322 := GW322; replace HB := qHB HB hb; have NB321_322 := qK (qlt BK321 hg); have NB322_321 := qK (qgt BK321 hg); replace BK321 := qbb BK321 hb; clear hb hbox hg; have hnb13 := NB321_322.out; have hnc13 := NB322_321.out; have hz14 := qz3 BK321.out; have hz15 := qz3 BK322.out)); go_ret; exact ⟨qR, qB⟩
    · rw [if_neg c4] at H; have c4b0 : (a0_1 == a1_1) = false := beq_eq_false_iff_ne.mpr c4; have c4b1 : (a0_1 != a1_1) = true := bne_iff_ne.mpr c4; obtain rfl := Option.some.inj H; go_enter Tryz.func54, Tryz.ntmps54; go_wp2_with (first | ((with_reducible refine gds (N := 2) rfl ?_); refine qbx 2 #[.int .i64 a0_0, .int .i64 a0_1, .string a0_2] 49 ?_; intro gb321 hg w16 hbox hb; have BK321 := qK (hbox); have GW321 := qK ((qW : w.heap.size ≤ gb321)); have GE321 := GW321; replace HB := qHB HB hb; clear hb hbox hg) | ((with_reducible refine gds (N := 3) rfl ?_); refine qbx 3 #[.int .i64 a1_0, .int .i64 a1_1, .string a1_2] 49 ?_; intro gb322 hg w17 hbox hb; have BK322 := qK (hbox); have GW322 := qK ((qW : w.heap.size ≤ gb322)); have GE322 := GW322; replace HB := qHB HB hb; have NB321_322 := qK (qlt BK321 hg); have NB322_321 := qK (qgt BK321 hg); replace BK321 := qbb BK321 hb; clear hb hbox hg; have hnb18 := NB321_322.out; have hnc18 := NB322_321.out; have hz19 := qz3 BK321.out; have hz20 := qz3 BK322.out)); go_ret; exact ⟨qR, qB⟩
  · rw [if_neg c3] at H; have c3b0 : (a0_0 == a1_0) = false := beq_eq_false_iff_ne.mpr c3; have c3b1 : (a0_0 != a1_0) = true := bne_iff_ne.mpr c3; obtain rfl := Option.some.inj H; go_enter Tryz.func54, Tryz.ntmps54; go_wp2_with (first | ((with_reducible refine gds (N := 2) rfl ?_); refine qbx 2 #[.int .i64 a0_0, .int .i64 a0_1, .string a0_2] 49 ?_; intro gb321 hg w21 hbox hb; have BK321 := qK (hbox); have GW321 := qK ((qW : w.heap.size ≤ gb321)); have GE321 := GW321; replace HB := qHB HB hb; clear hb hbox hg) | ((with_reducible refine gds (N := 3) rfl ?_); refine qbx 3 #[.int .i64 a1_0, .int .i64 a1_1, .string a1_2] 49 ?_; intro gb322 hg w22 hbox hb; have BK322 := qK (hbox); have GW322 := qK ((qW : w.heap.size ≤ gb322)); have GE322 := GW322; replace HB := qHB HB hb; have NB321_322 := qK (qlt BK321 hg); have NB322_321 := qK (qgt BK321 hg); replace BK321 := qbb BK321 hb; clear hb hbox hg; have hnb23 := NB321_322.out; have hnc23 := NB322_321.out; have hz24 := qz3 BK321.out; have hz25 := qz3 BK322.out)); go_ret; exact ⟨qR, qB⟩
def laws_eqValueS.l0 : Nat → List (S49) → List (S49) → Int → Option (Bool)
  | 0, _, _, _ => none
  | k + 1, x0, x1, x5 => if x5 < (x0.length : Int) then (if 0 ≤ x5 then (if x5 < (x1.length : Int) then ((laws_eqValue.f ((rd_T49 x0 x5).f0) ((rd_T49 x0 x5).f1) ((rd_T49 x0 x5).f2) ((rd_T49 x1 x5).f0) ((rd_T49 x1 x5).f1) ((rd_T49 x1 x5).f2)).bind fun t325 => (if t325 = true then (laws_eqValueS.l0 k x0 x1 (wrap64 (x5 + 1))) else (some false))) else (none)) else (none)) else (some true)
def laws_eqValueS.f (k : Nat) (l0 : List (S49)) (l1 : List (S49)) : Option (Bool) := if (l0.length : Int) = (l1.length : Int) then (laws_eqValueS.l0 k l0 l1 0) else (some false)
theorem laws_eqValueS.mono_l : ∀ k, (∀ y0 y1 y2, LeO (laws_eqValueS.l0 k y0 y1 y2) (laws_eqValueS.l0 (k + 1) y0 y1 y2))
  | 0 => fun _ _ _ r h => by simp [laws_eqValueS.l0] at h
  | k + 1 => by
    have ih0 := laws_eqValueS.mono_l k
    · intro y0 y1 y2
      unfold laws_eqValueS.l0
      repeat' first
      | (with_reducible exact ih0 _ _ _)
      | (with_reducible exact LeO.refl _)
      | (with_reducible exact LeO.none _)
      | (with_reducible refine LeO.ite ?_ ?_)
      | (with_reducible refine LeO.bind ?_ (fun _ => ?_))
      | exact ih0 _ _ _
      | exact LeO.none _
      | refine LeO.ite ?_ ?_
      | refine LeO.bind ?_ (fun _ => ?_)
theorem laws_eqValueS.mono : ∀ a0 a1 k, LeO (laws_eqValueS.f k a0 a1) (laws_eqValueS.f (k + 1) a0 a1) := by
  intro a0 a1 k
  have ih0 := laws_eqValueS.mono_l k
  unfold laws_eqValueS.f
  repeat' first
      | (with_reducible exact ih0 _ _ _)
      | (with_reducible exact LeO.refl _)
      | (with_reducible exact LeO.none _)
      | (with_reducible refine LeO.ite ?_ ?_)
      | (with_reducible refine LeO.bind ?_ (fun _ => ?_))
      | exact ih0 _ _ _
      | exact LeO.none _
      | refine LeO.ite ?_ ?_
      | refine LeO.bind ?_ (fun _ => ?_)
def laws_eqValueS.T6 : Bool × List (List Nat × List Nat) := (true, [([], []), ([], []), ([0, 1], [0, 1]), ([2], [2]), ([], []), ([], []), ([4, 5], [4, 5]), ([6], [6]), ([3, 7], [3, 7]), ([8], [8])])
def laws_eqValueS.B6 : List Nat := [0, 0, 3, 7, 0, 0, 48, 112, 255, 511]
theorem laws_eqValueS.tab6 : rtab .any (opsOf Tryz.f27 6) = laws_eqValueS.T6 := by kernel_rfl
theorem laws_eqValueS.bits6 : waitsOk laws_eqValueS.T6.2 laws_eqValueS.B6 = true := by kernel_rfl
set_option maxHeartbeats 8000000 in
set_option maxRecDepth 100000 in
theorem laws_eqValueS.calls (k : Nat) (A0 : Option Addr) (c0 : Nat) (l0 : List (S49)) (A1 : Option Addr) (c1 : Nat) (l1 : List (S49)) (r : Bool) (w : World) (hr0 : Kd.C k49 w A0 l0.length l0) (hc0 : l0.length ≤ c0) (hr1 : Kd.C k49 w A1 l1.length l1) (hc1 : l1.length ≤ c1) (h : laws_eqValueS.f k l0 l1 = some r) :
    Calls Tryz.prog 27 #[.slice A0 l0.length c0, .slice A1 l1.length c1] w fun e w' => e = .returned (.bool r) ∧ Below w.heap.size w w' := by
  have hu49 := Tryz.underlying49; have HR0 := qK hr0; have HC0 := qK hc0; clear hr0 hc0; have HR1 := qK hr1; have HC1 := qK hc1; clear hr1 hc1; have HB := qK (Below.refl w.heap.size w); have H : (if (l0.length : Int) = (l1.length : Int) then (laws_eqValueS.l0 k l0 l1 0) else (some false)) = some r := h; clear h; by_cases c3 : (l0.length : Int) = (l1.length : Int)
  · rw [if_pos c3] at H; have c3b0 : ((l0.length : Int) == (l1.length : Int)) = true := beq_iff_eq.mpr c3; have c3b1 : ((l0.length : Int) != (l1.length : Int)) = false := bne_eq_false_iff_eq.mpr c3; (have c3b2 : (l0.length == l1.length) = true := by first | simpa using c3 | (simp at c3 ⊢; omega)); clear c3; have H' := qK H; clear H; go_enter Tryz.func27, Tryz.ntmps27; go_wp2; go_loopg [5] k (fun kq v5 w' => ∃ (x5_1 : Int), v5 = .int .i64 x5_1 ∧ Aside0 (laws_eqValueS.l0 kq l0 l1 x5_1 = some r) ∧ Aside0 (kq ≤ k) ∧ Aside0 (Below w.heap.size w w'))
    case atStart => exact ⟨(0), qS, H', ⟨Nat.le_refl _⟩, ⟨qB⟩⟩
    case round =>
      clear H'; (try clear c1); (try clear c2); (try clear p2); (try clear c3); (try clear c3b0); (try clear c3b1); (try clear c3b2); obtain ⟨x5_1, rfl, HA, HK1, HB⟩ := hrel
      cases gk with
      | zero => exact absurd HA.out (by simp [laws_eqValueS.l0])
      | succ k1 =>
        have H := HA.out; clear HA; simp only [laws_eqValueS.l0] at H; by_cases c4 : x5_1 < (l0.length : Int)
        · rw [if_pos c4] at H; have c4b0 : decide (x5_1 < (l0.length : Int)) = true := decide_eq_true c4; clear c4; by_cases c5 : 0 ≤ x5_1
          · rw [if_pos c5] at H; have c5b0 : decide (0 ≤ x5_1) = true := decide_eq_true c5; clear c5; by_cases c6 : x5_1 < (l1.length : Int)
            · rw [if_pos c6] at H; have c6b0 : decide (x5_1 < (l1.length : Int)) = true := decide_eq_true c6; clear c6; replace H := Option.bind_eq_some_iff.mp H; obtain ⟨t325, A70, H⟩ := H; have A7 := qK A70; clear A70; by_cases c8 : t325 = true
              · subst c8; rw [if_pos rfl] at H; have H' := qK H; clear H; (try go_wp2); replace HB := qK (bd1 HB.out); have p323 : 0 ≤ (x5_1 : Int) := of_decide_eq_true qa; have q323 : x5_1 < (l0.length : Int) := of_decide_eq_true qa; obtain ⟨ad323, e323, hx323_0, hx323_1, hx323_2⟩ := at_T49 HR0.out x5_1 p323 q323; have hw323_2 := hx323_2; have hw323_1 := hx323_1; have hw323_0 := hx323_0; cases e323; replace hx323_0 := (HB.out.cell (World.block_lt_of_cell? w _ hx323_0)).trans hx323_0; replace hx323_1 := (HB.out.cell (World.block_lt_of_cell? w _ hx323_1)).trans hx323_1; replace hx323_2 := (HB.out.cell (World.block_lt_of_cell? w _ hx323_2)).trans hx323_2; replace p323 := eq_true p323; replace q323 := eq_true q323; have p324 : 0 ≤ (x5_1 : Int) := of_decide_eq_true qa; have q324 : x5_1 < (l1.length : Int) := of_decide_eq_true qa; obtain ⟨ad324, e324, hx324_0, hx324_1, hx324_2⟩ := at_T49 HR1.out x5_1 p324 q324; have hw324_2 := hx324_2; have hw324_1 := hx324_1; have hw324_0 := hx324_0; cases e324; replace hx324_0 := (HB.out.cell (World.block_lt_of_cell? w _ hx324_0)).trans hx324_0; replace hx324_1 := (HB.out.cell (World.block_lt_of_cell? w _ hx324_1)).trans hx324_1; replace hx324_2 := (HB.out.cell (World.block_lt_of_cell? w _ hx324_2)).trans hx324_2; replace p324 := eq_true p324; replace q324 := eq_true q324; refine qs 10 (fun w' => w'.cell? (ad323.add ((x5_1).toNat * 3)) = some (.int .i64 ((rd_T49 l0 x5_1).f0)) ∧ w'.cell? ⟨(ad323.add ((x5_1).toNat * 3)).block, (ad323.add ((x5_1).toNat * 3)).off + 1, none⟩ = some (.int .i64 ((rd_T49 l0 x5_1).f1)) ∧ w'.cell? ⟨(ad323.add ((x5_1).toNat * 3)).block, (ad323.add ((x5_1).toNat * 3)).off + 2, none⟩ = some (.string ((rd_T49 l0 x5_1).f2)) ∧ w'.cell? (ad324.add ((x5_1).toNat * 3)) = some (.int .i64 ((rd_T49 l1 x5_1).f0)) ∧ w'.cell? ⟨(ad324.add ((x5_1).toNat * 3)).block, (ad324.add ((x5_1).toNat * 3)).off + 1, none⟩ = some (.int .i64 ((rd_T49 l1 x5_1).f1)) ∧ w'.cell? ⟨(ad324.add ((x5_1).toNat * 3)).block, (ad324.add ((x5_1).toNat * 3)).off + 2, none⟩ = some (.string ((rd_T49 l1 x5_1).f2))) (ds := []) ⟨((HB.out.cell (World.block_lt_of_cell? w _ hw323_0)).trans hw323_0), ((HB.out.cell (World.block_lt_of_cell? w _ hw323_1)).trans hw323_1), ((HB.out.cell (World.block_lt_of_cell? w _ hw323_2)).trans hw323_2), ((HB.out.cell (World.block_lt_of_cell? w _ hw324_0)).trans hw324_0), ((HB.out.cell (World.block_lt_of_cell? w _ hw324_1)).trans hw324_1), ((HB.out.cell (World.block_lt_of_cell? w _ hw324_2)).trans hw324_2)⟩ (fun hHeld => ?_); refine with_tabW laws_eqValueS.tab6 laws_eqValueS.bits6 (fun HT_ HW_ => ?_); generalize wr.drew = w9 at HB hx323_0 hx323_1 hx323_2 hx324_0 hx324_1 hx324_2 hHeld ⊢; refine qp 0 17 ?_; refine qp 1 18 ?_; refine qp 2 19 ?_; refine qp 4 21 ?_; refine qp 5 22 ?_; refine qp 6 23 ?_; refine qt 3 20 ?_; refine qt 7 24 ?_; refine qo 8 25 (fun K hK => ?_); refine goes_ Tryz.func54 (by kernel_rfl) rfl #[.agg #[.int .i64 ((rd_T49 l0 x5_1).f0), .int .i64 ((rd_T49 l0 x5_1).f1), .string ((rd_T49 l0 x5_1).f2)], .agg #[.int .i64 ((rd_T49 l1 x5_1).f0), .int .i64 ((rd_T49 l1 x5_1).f1), .string ((rd_T49 l1 x5_1).f2)]] (by rfl) rfl rfl qA ?_; (with_reducible refine (laws_eqValue.calls ((rd_T49 l0 x5_1).f0) ((rd_T49 l0 x5_1).f1) ((rd_T49 l0 x5_1).f2) ((rd_T49 l1 x5_1).f0) ((rd_T49 l1 x5_1).f1) ((rd_T49 l1 x5_1).f2) true _ A7.out).mono ?_); rintro e w10 ⟨rfl, hb⟩; refine ⟨_, rfl, ?_⟩; replace HB := qHB HB hb; (try clear hb); (try clear hb2); (try clear hk); (try clear hi); refine hK.out _ _ ⟨((HB.out.cell (World.block_lt_of_cell? w _ hw323_0)).trans hw323_0), ((HB.out.cell (World.block_lt_of_cell? w _ hw323_1)).trans hw323_1), ((HB.out.cell (World.block_lt_of_cell? w _ hw323_2)).trans hw323_2), ((HB.out.cell (World.block_lt_of_cell? w _ hw324_0)).trans hw324_0), ((HB.out.cell (World.block_lt_of_cell? w _ hw324_1)).trans hw324_1), ((HB.out.cell (World.block_lt_of_cell? w _ hw324_2)).trans hw324_2)⟩ (fun hHeld => ?_); clear hK K; refine norm_ (a' := ?_) ?_ ?_; rotate_left
                · show Act.put _ (some 25) _ = _; simp only [Act.put, List.setIfInBounds_toArray, List.set_cons_zero, List.set_cons_succ, i64_w, i32_w]; rfl
                refine qp 9 26 ?_; refine done_ (done_of HT_.out (by kernel_rfl)) ?_; (try go_wp2); go_roundg k1
                case measure => have := HK1.out; omega
                case rel => exact ⟨(wrap64 (x5_1 + 1)), qS, H', ⟨by have := HK1.out; omega⟩, ⟨qB⟩⟩
              · replace c8 := Bool.eq_false_iff.mpr c8; subst c8; rw [if_neg qff] at H; obtain rfl := Option.some.inj H; (try go_wp2); replace HB := qK (bd1 HB.out); have p323 : 0 ≤ (x5_1 : Int) := of_decide_eq_true qa; have q323 : x5_1 < (l0.length : Int) := of_decide_eq_true qa; obtain ⟨ad323, e323, hx323_0, hx323_1, hx323_2⟩ := at_T49 HR0.out x5_1 p323 q323; have hw323_2 := hx323_2; have hw323_1 := hx323_1; have hw323_0 := hx323_0; cases e323; replace hx323_0 := (HB.out.cell (World.block_lt_of_cell? w _ hx323_0)).trans hx323_0; replace hx323_1 := (HB.out.cell (World.block_lt_of_cell? w _ hx323_1)).trans hx323_1; replace hx323_2 := (HB.out.cell (World.block_lt_of_cell? w _ hx323_2)).trans hx323_2; replace p323 := eq_true p323; replace q323 := eq_true q323; have p324 : 0 ≤ (x5_1 : Int) := of_decide_eq_true qa; have q324 : x5_1 < (l1.length : Int) := of_decide_eq_true qa; obtain ⟨ad324, e324, hx324_0, hx324_1, hx324_2⟩ := at_T49 HR1.out x5_1 p324 q324; have hw324_2 := hx324_2; have hw324_1 := hx324_1; have hw324_0 := hx324_0; cases e324; replace hx324_0 := (HB.out.cell (World.block_lt_of_cell? w _ hx324_0)).trans hx324_0; replace hx324_1 := (HB.out.cell (World.block_lt_of_cell? w _ hx324_1)).trans hx324_1; replace hx324_2 := (HB.out.cell (World.block_lt_of_cell? w _ hx324_2)).trans hx324_2; replace p324 := eq_true p324; replace q324 := eq_true q324; refine qs 10 (fun w' => w'.cell? (ad323.add ((x5_1).toNat * 3)) = some (.int .i64 ((rd_T49 l0 x5_1).f0)) ∧ w'.cell? ⟨(ad323.add ((x5_1).toNat * 3)).block, (ad323.add ((x5_1).toNat * 3)).off + 1, none⟩ = some (.int .i64 ((rd_T49 l0 x5_1).f1)) ∧ w'.cell? ⟨(ad323.add ((x5_1).toNat * 3)).block, (ad323.add ((x5_1).toNat * 3)).off + 2, none⟩ = some (.string ((rd_T49 l0 x5_1).f2)) ∧ w'.cell? (ad324.add ((x5_1).toNat * 3)) = some (.int .i64 ((rd_T49 l1 x5_1).f0)) ∧ w'.cell? ⟨(ad324.add ((x5_1).toNat * 3)).block, (ad324.add ((x5_1).toNat * 3)).off + 1, none⟩ = some (.int .i64 ((rd_T49 l1 x5_1).f1)) ∧ w'.cell? ⟨(ad324.add ((x5_1).toNat * 3)).block, (ad324.add ((x5_1).toNat * 3)).off + 2, none⟩ = some (.string ((rd_T49 l1 x5_1).f2))) (ds := []) ⟨((HB.out.cell (World.block_lt_of_cell? w _ hw323_0)).trans hw323_0), ((HB.out.cell (World.block_lt_of_cell? w _ hw323_1)).trans hw323_1), ((HB.out.cell (World.block_lt_of_cell? w _ hw323_2)).trans hw323_2), ((HB.out.cell (World.block_lt_of_cell? w _ hw324_0)).trans hw324_0), ((HB.out.cell (World.block_lt_of_cell? w _ hw324_1)).trans hw324_1), ((HB.out.cell (World.block_lt_of_cell? w _ hw324_2)).trans hw324_2)⟩ (fun hHeld => ?_); refine with_tabW laws_eqValueS.tab6 laws_eqValueS.bits6 (fun HT_ HW_ => ?_); generalize wr.drew = w11 at HB hx323_0 hx323_1 hx323_2 hx324_0 hx324_1 hx324_2 hHeld ⊢; refine qp 0 17 ?_; refine qp 1 18 ?_; refine qp 2 19 ?_; refine qp 4 21 ?_; refine qp 5 22 ?_; refine qp 6 23 ?_; refine qt 3 20 ?_; refine qt 7 24 ?_; refine qo 8 25 (fun K hK => ?_); refine goes_ Tryz.func54 (by kernel_rfl) rfl #[.agg #[.int .i64 ((rd_T49 l0 x5_1).f0), .int .i64 ((rd_T49 l0 x5_1).f1), .string ((rd_T49 l0 x5_1).f2)], .agg #[.int .i64 ((rd_T49 l1 x5_1).f0), .int .i64 ((rd_T49 l1 x5_1).f1), .string ((rd_T49 l1 x5_1).f2)]] (by rfl) rfl rfl qA ?_; (with_reducible refine (laws_eqValue.calls ((rd_T49 l0 x5_1).f0) ((rd_T49 l0 x5_1).f1) ((rd_T49 l0 x5_1).f2) ((rd_T49 l1 x5_1).f0) ((rd_T49 l1 x5_1).f1) ((rd_T49 l1 x5_1).f2) false _ A7.out).mono ?_); rintro e w12 ⟨rfl, hb⟩; refine ⟨_, rfl, ?_⟩; replace HB := qHB HB hb; (try clear hb); (try clear hb2); (try clear hk); (try clear hi); refine hK.out _ _ ⟨((HB.out.cell (World.block_lt_of_cell? w _ hw323_0)).trans hw323_0), ((HB.out.cell (World.block_lt_of_cell? w _ hw323_1)).trans hw323_1), ((HB.out.cell (World.block_lt_of_cell? w _ hw323_2)).trans hw323_2), ((HB.out.cell (World.block_lt_of_cell? w _ hw324_0)).trans hw324_0), ((HB.out.cell (World.block_lt_of_cell? w _ hw324_1)).trans hw324_1), ((HB.out.cell (World.block_lt_of_cell? w _ hw324_2)).trans hw324_2)⟩ (fun hHeld => ?_); clear hK K; refine norm_ (a' := ?_) ?_ ?_; rotate_left
                · show Act.put _ (some 25) _ = _; simp only [Act.put, List.setIfInBounds_toArray, List.set_cons_zero, List.set_cons_succ, i64_w, i32_w]; rfl
                refine qp 9 26 ?_; refine done_ (done_of HT_.out (by kernel_rfl)) ?_; (try go_wp2); go_ret; exact ⟨qR, qB⟩
            · rw [if_neg c6] at H; exact absurd H (by simp)
          · rw [if_neg c5] at H; exact absurd H (by simp)
        · rw [if_neg c4] at H; have c4b0 : decide (x5_1 < (l0.length : Int)) = false := decide_eq_false c4; clear c4; obtain rfl := Option.some.inj H; go_wp2; go_ret; exact ⟨qR, qB⟩
  · rw [if_neg c3] at H; have c3b0 : ((l0.length : Int) == (l1.length : Int)) = false := beq_eq_false_iff_ne.mpr c3; have c3b1 : ((l0.length : Int) != (l1.length : Int)) = true := bne_iff_ne.mpr c3; (have c3b2 : (l0.length == l1.length) = false := by first | simpa using c3 | (simp at c3 ⊢; omega)); obtain rfl := Option.some.inj H; go_enter Tryz.func27, Tryz.ntmps27; go_wp2; go_ret; exact ⟨qR, qB⟩
def laws_eqItem.f (a0_0 : Int) (a0_1 : Int) (a0_2 : ByteArray) (a1_0 : Int) (a1_1 : Int) (a1_2 : ByteArray) : Option (Bool) := if a0_0 = a1_0 then (if a0_1 = a1_1 then (if a0_2.toList = a1_2.toList then (some true) else (some false)) else (some false)) else (some false)
set_option maxHeartbeats 8000000 in
set_option maxRecDepth 100000 in
theorem laws_eqItem.calls (a0_0 : Int) (a0_1 : Int) (a0_2 : ByteArray) (a1_0 : Int) (a1_1 : Int) (a1_2 : ByteArray) (r : Bool) (w : World) (h : laws_eqItem.f a0_0 a0_1 a0_2 a1_0 a1_1 a1_2 = some r) :
    Calls Tryz.prog 55 #[.agg #[.int .i64 a0_0, .int .i64 a0_1, .string a0_2], .agg #[.int .i64 a1_0, .int .i64 a1_1, .string a1_2]] w fun e w' => e = .returned (.bool r) ∧ Below w.heap.size w w' := by
  have hu75 := Tryz.underlying75; have HB := qK (Below.refl w.heap.size w); have H : (if a0_0 = a1_0 then (if a0_1 = a1_1 then (if a0_2.toList = a1_2.toList then (some true) else (some false)) else (some false)) else (some false)) = some r := h; clear h; by_cases c3 : a0_0 = a1_0
  · rw [if_pos c3] at H; have c3b0 : (a0_0 == a1_0) = true := beq_iff_eq.mpr c3; have c3b1 : (a0_0 != a1_0) = false := bne_eq_false_iff_eq.mpr c3; clear c3; by_cases c4 : a0_1 = a1_1
    · rw [if_pos c4] at H; have c4b0 : (a0_1 == a1_1) = true := beq_iff_eq.mpr c4; have c4b1 : (a0_1 != a1_1) = false := bne_eq_false_iff_eq.mpr c4; clear c4; by_cases c5 : a0_2.toList = a1_2.toList
      · rw [if_pos c5] at H; have c5b0 : (a0_2.toList == a1_2.toList) = true := beq_iff_eq.mpr c5; have c5b1 : (a0_2.toList != a1_2.toList) = false := bne_eq_false_iff_eq.mpr c5; clear c5; obtain rfl := Option.some.inj H; go_enter Tryz.func55, Tryz.ntmps55; go_wp2_with (first | ((with_reducible refine gds (N := 2) rfl ?_); refine qbx 2 #[.int .i64 a0_0, .int .i64 a0_1, .string a0_2] 75 ?_; intro gb326 hg w6 hbox hb; have BK326 := qK (hbox); have GW326 := qK ((qW : w.heap.size ≤ gb326)); have GE326 := GW326; replace HB := qHB HB hb; clear hb hbox hg) | ((with_reducible refine gds (N := 3) rfl ?_); refine qbx 3 #[.int .i64 a1_0, .int .i64 a1_1, .string a1_2] 75 ?_; intro gb327 hg w7 hbox hb; have BK327 := qK (hbox); have GW327 := qK ((qW : w.heap.size ≤ gb327)); have GE327 := GW327; replace HB := qHB HB hb; have NB326_327 := qK (qlt BK326 hg); have NB327_326 := qK (qgt BK326 hg); replace BK326 := qbb BK326 hb; clear hb hbox hg; have hnb8 := NB326_327.out; have hnc8 := NB327_326.out; have hz9 := qz3 BK326.out; have hz10 := qz3 BK327.out)); go_ret; exact ⟨qR, qB⟩
      · rw [if_neg c5] at H; have c5b0 : (a0_2.toList == a1_2.toList) = false := beq_eq_false_iff_ne.mpr c5; have c5b1 : (a0_2.toList != a1_2.toList) = true := bne_iff_ne.mpr c5; obtain rfl := Option.some.inj H; go_enter Tryz.func55, Tryz.ntmps55; go_wp2_with (first | ((with_reducible refine gds (N := 2) rfl ?_); refine qbx 2 #[.int .i64 a0_0, .int .i64 a0_1, .string a0_2] 75 ?_; intro gb326 hg w11 hbox hb; have BK326 := qK (hbox); have GW326 := qK ((qW : w.heap.size ≤ gb326)); have GE326 := GW326; replace HB := qHB HB hb; clear hb hbox hg) | ((with_reducible refine gds (N := 3) rfl ?_); refine qbx 3 #[.int .i64 a1_0, .int .i64 a1_1, .string a1_2] 75 ?_; intro gb327 hg w12 hbox hb; have BK327 := qK (hbox); have GW327 := qK ((qW : w.heap.size ≤ gb327)); have GE327 := GW327; replace HB := qHB HB hb; have NB326_327 := qK (qlt BK326 hg); have NB327_326 := qK (qgt BK326 hg); replace BK326 := qbb BK326 hb; clear hb hbox hg; have hnb13 := NB326_327.out; have hnc13 := NB327_326.out; have hz14 := qz3 BK326.out; have hz15 := qz3 BK327.out)); go_ret; exact ⟨qR, qB⟩
    · rw [if_neg c4] at H; have c4b0 : (a0_1 == a1_1) = false := beq_eq_false_iff_ne.mpr c4; have c4b1 : (a0_1 != a1_1) = true := bne_iff_ne.mpr c4; obtain rfl := Option.some.inj H; go_enter Tryz.func55, Tryz.ntmps55; go_wp2_with (first | ((with_reducible refine gds (N := 2) rfl ?_); refine qbx 2 #[.int .i64 a0_0, .int .i64 a0_1, .string a0_2] 75 ?_; intro gb326 hg w16 hbox hb; have BK326 := qK (hbox); have GW326 := qK ((qW : w.heap.size ≤ gb326)); have GE326 := GW326; replace HB := qHB HB hb; clear hb hbox hg) | ((with_reducible refine gds (N := 3) rfl ?_); refine qbx 3 #[.int .i64 a1_0, .int .i64 a1_1, .string a1_2] 75 ?_; intro gb327 hg w17 hbox hb; have BK327 := qK (hbox); have GW327 := qK ((qW : w.heap.size ≤ gb327)); have GE327 := GW327; replace HB := qHB HB hb; have NB326_327 := qK (qlt BK326 hg); have NB327_326 := qK (qgt BK326 hg); replace BK326 := qbb BK326 hb; clear hb hbox hg; have hnb18 := NB326_327.out; have hnc18 := NB327_326.out; have hz19 := qz3 BK326.out; have hz20 := qz3 BK327.out)); go_ret; exact ⟨qR, qB⟩
  · rw [if_neg c3] at H; have c3b0 : (a0_0 == a1_0) = false := beq_eq_false_iff_ne.mpr c3; have c3b1 : (a0_0 != a1_0) = true := bne_iff_ne.mpr c3; obtain rfl := Option.some.inj H; go_enter Tryz.func55, Tryz.ntmps55; go_wp2_with (first | ((with_reducible refine gds (N := 2) rfl ?_); refine qbx 2 #[.int .i64 a0_0, .int .i64 a0_1, .string a0_2] 75 ?_; intro gb326 hg w21 hbox hb; have BK326 := qK (hbox); have GW326 := qK ((qW : w.heap.size ≤ gb326)); have GE326 := GW326; replace HB := qHB HB hb; clear hb hbox hg) | ((with_reducible refine gds (N := 3) rfl ?_); refine qbx 3 #[.int .i64 a1_0, .int .i64 a1_1, .string a1_2] 75 ?_; intro gb327 hg w22 hbox hb; have BK327 := qK (hbox); have GW327 := qK ((qW : w.heap.size ≤ gb327)); have GE327 := GW327; replace HB := qHB HB hb; have NB326_327 := qK (qlt BK326 hg); have NB327_326 := qK (qgt BK326 hg); replace BK326 := qbb BK326 hb; clear hb hbox hg; have hnb23 := NB326_327.out; have hnc23 := NB327_326.out; have hz24 := qz3 BK326.out; have hz25 := qz3 BK327.out)); go_ret; exact ⟨qR, qB⟩
def laws_eqItemS.l0 : Nat → List (S75) → List (S75) → Int → Option (Bool)
  | 0, _, _, _ => none
  | k + 1, x0, x1, x5 => if x5 < (x0.length : Int) then (if 0 ≤ x5 then (if x5 < (x1.length : Int) then ((laws_eqItem.f ((rd_T75 x0 x5).f0) ((rd_T75 x0 x5).f1) ((rd_T75 x0 x5).f2) ((rd_T75 x1 x5).f0) ((rd_T75 x1 x5).f1) ((rd_T75 x1 x5).f2)).bind fun t330 => (if t330 = true then (laws_eqItemS.l0 k x0 x1 (wrap64 (x5 + 1))) else (some false))) else (none)) else (none)) else (some true)
def laws_eqItemS.f (k : Nat) (l0 : List (S75)) (l1 : List (S75)) : Option (Bool) := if (l0.length : Int) = (l1.length : Int) then (laws_eqItemS.l0 k l0 l1 0) else (some false)
theorem laws_eqItemS.mono_l : ∀ k, (∀ y0 y1 y2, LeO (laws_eqItemS.l0 k y0 y1 y2) (laws_eqItemS.l0 (k + 1) y0 y1 y2))
  | 0 => fun _ _ _ r h => by simp [laws_eqItemS.l0] at h
  | k + 1 => by
    have ih0 := laws_eqItemS.mono_l k
    · intro y0 y1 y2
      unfold laws_eqItemS.l0
      repeat' first
      | (with_reducible exact ih0 _ _ _)
      | (with_reducible exact LeO.refl _)
      | (with_reducible exact LeO.none _)
      | (with_reducible refine LeO.ite ?_ ?_)
      | (with_reducible refine LeO.bind ?_ (fun _ => ?_))
      | exact ih0 _ _ _
      | exact LeO.none _
      | refine LeO.ite ?_ ?_
      | refine LeO.bind ?_ (fun _ => ?_)
theorem laws_eqItemS.mono : ∀ a0 a1 k, LeO (laws_eqItemS.f k a0 a1) (laws_eqItemS.f (k + 1) a0 a1) := by
  intro a0 a1 k
  have ih0 := laws_eqItemS.mono_l k
  unfold laws_eqItemS.f
  repeat' first
      | (with_reducible exact ih0 _ _ _)
      | (with_reducible exact LeO.refl _)
      | (with_reducible exact LeO.none _)
      | (with_reducible refine LeO.ite ?_ ?_)
      | (with_reducible refine LeO.bind ?_ (fun _ => ?_))
      | exact ih0 _ _ _
      | exact LeO.none _
      | refine LeO.ite ?_ ?_
      | refine LeO.bind ?_ (fun _ => ?_)
def laws_eqItemS.T6 : Bool × List (List Nat × List Nat) := (true, [([], []), ([], []), ([0, 1], [0, 1]), ([2], [2]), ([], []), ([], []), ([4, 5], [4, 5]), ([6], [6]), ([3, 7], [3, 7]), ([8], [8])])
def laws_eqItemS.B6 : List Nat := [0, 0, 3, 7, 0, 0, 48, 112, 255, 511]
theorem laws_eqItemS.tab6 : rtab .any (opsOf Tryz.f28 6) = laws_eqItemS.T6 := by kernel_rfl
theorem laws_eqItemS.bits6 : waitsOk laws_eqItemS.T6.2 laws_eqItemS.B6 = true := by kernel_rfl
set_option maxHeartbeats 8000000 in
set_option maxRecDepth 100000 in
theorem laws_eqItemS.calls (k : Nat) (A0 : Option Addr) (c0 : Nat) (l0 : List (S75)) (A1 : Option Addr) (c1 : Nat) (l1 : List (S75)) (r : Bool) (w : World) (hr0 : Kd.C k75 w A0 l0.length l0) (hc0 : l0.length ≤ c0) (hr1 : Kd.C k75 w A1 l1.length l1) (hc1 : l1.length ≤ c1) (h : laws_eqItemS.f k l0 l1 = some r) :
    Calls Tryz.prog 28 #[.slice A0 l0.length c0, .slice A1 l1.length c1] w fun e w' => e = .returned (.bool r) ∧ Below w.heap.size w w' := by
  have hu75 := Tryz.underlying75; have HR0 := qK hr0; have HC0 := qK hc0; clear hr0 hc0; have HR1 := qK hr1; have HC1 := qK hc1; clear hr1 hc1; have HB := qK (Below.refl w.heap.size w); have H : (if (l0.length : Int) = (l1.length : Int) then (laws_eqItemS.l0 k l0 l1 0) else (some false)) = some r := h; clear h; by_cases c3 : (l0.length : Int) = (l1.length : Int)
  · rw [if_pos c3] at H; have c3b0 : ((l0.length : Int) == (l1.length : Int)) = true := beq_iff_eq.mpr c3; have c3b1 : ((l0.length : Int) != (l1.length : Int)) = false := bne_eq_false_iff_eq.mpr c3; (have c3b2 : (l0.length == l1.length) = true := by first | simpa using c3 | (simp at c3 ⊢; omega)); clear c3; have H' := qK H; clear H; go_enter Tryz.func28, Tryz.ntmps28; go_wp2; go_loopg [5] k (fun kq v5 w' => ∃ (x5_1 : Int), v5 = .int .i64 x5_1 ∧ Aside0 (laws_eqItemS.l0 kq l0 l1 x5_1 = some r) ∧ Aside0 (kq ≤ k) ∧ Aside0 (Below w.heap.size w w'))
    case atStart => exact ⟨(0), qS, H', ⟨Nat.le_refl _⟩, ⟨qB⟩⟩
    case round =>
      clear H'; (try clear c1); (try clear c2); (try clear p2); (try clear c3); (try clear c3b0); (try clear c3b1); (try clear c3b2); obtain ⟨x5_1, rfl, HA, HK1, HB⟩ := hrel
      cases gk with
      | zero => exact absurd HA.out (by simp [laws_eqItemS.l0])
      | succ k1 =>
        have H := HA.out; clear HA; simp only [laws_eqItemS.l0] at H; by_cases c4 : x5_1 < (l0.length : Int)
        · rw [if_pos c4] at H; have c4b0 : decide (x5_1 < (l0.length : Int)) = true := decide_eq_true c4; clear c4; by_cases c5 : 0 ≤ x5_1
          · rw [if_pos c5] at H; have c5b0 : decide (0 ≤ x5_1) = true := decide_eq_true c5; clear c5; by_cases c6 : x5_1 < (l1.length : Int)
            · rw [if_pos c6] at H; have c6b0 : decide (x5_1 < (l1.length : Int)) = true := decide_eq_true c6; clear c6; replace H := Option.bind_eq_some_iff.mp H; obtain ⟨t330, A70, H⟩ := H; have A7 := qK A70; clear A70; by_cases c8 : t330 = true
              · subst c8; rw [if_pos rfl] at H; have H' := qK H; clear H; (try go_wp2); replace HB := qK (bd1 HB.out); have p328 : 0 ≤ (x5_1 : Int) := of_decide_eq_true qa; have q328 : x5_1 < (l0.length : Int) := of_decide_eq_true qa; obtain ⟨ad328, e328, hx328_0, hx328_1, hx328_2⟩ := at_T75 HR0.out x5_1 p328 q328; have hw328_2 := hx328_2; have hw328_1 := hx328_1; have hw328_0 := hx328_0; cases e328; replace hx328_0 := (HB.out.cell (World.block_lt_of_cell? w _ hx328_0)).trans hx328_0; replace hx328_1 := (HB.out.cell (World.block_lt_of_cell? w _ hx328_1)).trans hx328_1; replace hx328_2 := (HB.out.cell (World.block_lt_of_cell? w _ hx328_2)).trans hx328_2; replace p328 := eq_true p328; replace q328 := eq_true q328; have p329 : 0 ≤ (x5_1 : Int) := of_decide_eq_true qa; have q329 : x5_1 < (l1.length : Int) := of_decide_eq_true qa; obtain ⟨ad329, e329, hx329_0, hx329_1, hx329_2⟩ := at_T75 HR1.out x5_1 p329 q329; have hw329_2 := hx329_2; have hw329_1 := hx329_1; have hw329_0 := hx329_0; cases e329; replace hx329_0 := (HB.out.cell (World.block_lt_of_cell? w _ hx329_0)).trans hx329_0; replace hx329_1 := (HB.out.cell (World.block_lt_of_cell? w _ hx329_1)).trans hx329_1; replace hx329_2 := (HB.out.cell (World.block_lt_of_cell? w _ hx329_2)).trans hx329_2; replace p329 := eq_true p329; replace q329 := eq_true q329; refine qs 10 (fun w' => w'.cell? (ad328.add ((x5_1).toNat * 3)) = some (.int .i64 ((rd_T75 l0 x5_1).f0)) ∧ w'.cell? ⟨(ad328.add ((x5_1).toNat * 3)).block, (ad328.add ((x5_1).toNat * 3)).off + 1, none⟩ = some (.int .i64 ((rd_T75 l0 x5_1).f1)) ∧ w'.cell? ⟨(ad328.add ((x5_1).toNat * 3)).block, (ad328.add ((x5_1).toNat * 3)).off + 2, none⟩ = some (.string ((rd_T75 l0 x5_1).f2)) ∧ w'.cell? (ad329.add ((x5_1).toNat * 3)) = some (.int .i64 ((rd_T75 l1 x5_1).f0)) ∧ w'.cell? ⟨(ad329.add ((x5_1).toNat * 3)).block, (ad329.add ((x5_1).toNat * 3)).off + 1, none⟩ = some (.int .i64 ((rd_T75 l1 x5_1).f1)) ∧ w'.cell? ⟨(ad329.add ((x5_1).toNat * 3)).block, (ad329.add ((x5_1).toNat * 3)).off + 2, none⟩ = some (.string ((rd_T75 l1 x5_1).f2))) (ds := []) ⟨((HB.out.cell (World.block_lt_of_cell? w _ hw328_0)).trans hw328_0), ((HB.out.cell (World.block_lt_of_cell? w _ hw328_1)).trans hw328_1), ((HB.out.cell (World.block_lt_of_cell? w _ hw328_2)).trans hw328_2), ((HB.out.cell (World.block_lt_of_cell? w _ hw329_0)).trans hw329_0), ((HB.out.cell (World.block_lt_of_cell? w _ hw329_1)).trans hw329_1), ((HB.out.cell (World.block_lt_of_cell? w _ hw329_2)).trans hw329_2)⟩ (fun hHeld => ?_); refine with_tabW laws_eqItemS.tab6 laws_eqItemS.bits6 (fun HT_ HW_ => ?_); generalize wr.drew = w9 at HB hx328_0 hx328_1 hx328_2 hx329_0 hx329_1 hx329_2 hHeld ⊢; refine qp 0 17 ?_; refine qp 1 18 ?_; refine qp 2 19 ?_; refine qp 4 21 ?_; refine qp 5 22 ?_; refine qp 6 23 ?_; refine qt 3 20 ?_; refine qt 7 24 ?_; refine qo 8 25 (fun K hK => ?_); refine goes_ Tryz.func55 (by kernel_rfl) rfl #[.agg #[.int .i64 ((rd_T75 l0 x5_1).f0), .int .i64 ((rd_T75 l0 x5_1).f1), .string ((rd_T75 l0 x5_1).f2)], .agg #[.int .i64 ((rd_T75 l1 x5_1).f0), .int .i64 ((rd_T75 l1 x5_1).f1), .string ((rd_T75 l1 x5_1).f2)]] (by rfl) rfl rfl qA ?_; (with_reducible refine (laws_eqItem.calls ((rd_T75 l0 x5_1).f0) ((rd_T75 l0 x5_1).f1) ((rd_T75 l0 x5_1).f2) ((rd_T75 l1 x5_1).f0) ((rd_T75 l1 x5_1).f1) ((rd_T75 l1 x5_1).f2) true _ A7.out).mono ?_); rintro e w10 ⟨rfl, hb⟩; refine ⟨_, rfl, ?_⟩; replace HB := qHB HB hb; (try clear hb); (try clear hb2); (try clear hk); (try clear hi); refine hK.out _ _ ⟨((HB.out.cell (World.block_lt_of_cell? w _ hw328_0)).trans hw328_0), ((HB.out.cell (World.block_lt_of_cell? w _ hw328_1)).trans hw328_1), ((HB.out.cell (World.block_lt_of_cell? w _ hw328_2)).trans hw328_2), ((HB.out.cell (World.block_lt_of_cell? w _ hw329_0)).trans hw329_0), ((HB.out.cell (World.block_lt_of_cell? w _ hw329_1)).trans hw329_1), ((HB.out.cell (World.block_lt_of_cell? w _ hw329_2)).trans hw329_2)⟩ (fun hHeld => ?_); clear hK K; refine norm_ (a' := ?_) ?_ ?_; rotate_left
                · show Act.put _ (some 25) _ = _; simp only [Act.put, List.setIfInBounds_toArray, List.set_cons_zero, List.set_cons_succ, i64_w, i32_w]; rfl
                refine qp 9 26 ?_; refine done_ (done_of HT_.out (by kernel_rfl)) ?_; (try go_wp2); go_roundg k1
                case measure => have := HK1.out; omega
                case rel => exact ⟨(wrap64 (x5_1 + 1)), qS, H', ⟨by have := HK1.out; omega⟩, ⟨qB⟩⟩
              · replace c8 := Bool.eq_false_iff.mpr c8; subst c8; rw [if_neg qff] at H; obtain rfl := Option.some.inj H; (try go_wp2); replace HB := qK (bd1 HB.out); have p328 : 0 ≤ (x5_1 : Int) := of_decide_eq_true qa; have q328 : x5_1 < (l0.length : Int) := of_decide_eq_true qa; obtain ⟨ad328, e328, hx328_0, hx328_1, hx328_2⟩ := at_T75 HR0.out x5_1 p328 q328; have hw328_2 := hx328_2; have hw328_1 := hx328_1; have hw328_0 := hx328_0; cases e328; replace hx328_0 := (HB.out.cell (World.block_lt_of_cell? w _ hx328_0)).trans hx328_0; replace hx328_1 := (HB.out.cell (World.block_lt_of_cell? w _ hx328_1)).trans hx328_1; replace hx328_2 := (HB.out.cell (World.block_lt_of_cell? w _ hx328_2)).trans hx328_2; replace p328 := eq_true p328; replace q328 := eq_true q328; have p329 : 0 ≤ (x5_1 : Int) := of_decide_eq_true qa; have q329 : x5_1 < (l1.length : Int) := of_decide_eq_true qa; obtain ⟨ad329, e329, hx329_0, hx329_1, hx329_2⟩ := at_T75 HR1.out x5_1 p329 q329; have hw329_2 := hx329_2; have hw329_1 := hx329_1; have hw329_0 := hx329_0; cases e329; replace hx329_0 := (HB.out.cell (World.block_lt_of_cell? w _ hx329_0)).trans hx329_0; replace hx329_1 := (HB.out.cell (World.block_lt_of_cell? w _ hx329_1)).trans hx329_1; replace hx329_2 := (HB.out.cell (World.block_lt_of_cell? w _ hx329_2)).trans hx329_2; replace p329 := eq_true p329; replace q329 := eq_true q329; refine qs 10 (fun w' => w'.cell? (ad328.add ((x5_1).toNat * 3)) = some (.int .i64 ((rd_T75 l0 x5_1).f0)) ∧ w'.cell? ⟨(ad328.add ((x5_1).toNat * 3)).block, (ad328.add ((x5_1).toNat * 3)).off + 1, none⟩ = some (.int .i64 ((rd_T75 l0 x5_1).f1)) ∧ w'.cell? ⟨(ad328.add ((x5_1).toNat * 3)).block, (ad328.add ((x5_1).toNat * 3)).off + 2, none⟩ = some (.string ((rd_T75 l0 x5_1).f2)) ∧ w'.cell? (ad329.add ((x5_1).toNat * 3)) = some (.int .i64 ((rd_T75 l1 x5_1).f0)) ∧ w'.cell? ⟨(ad329.add ((x5_1).toNat * 3)).block, (ad329.add ((x5_1).toNat * 3)).off + 1, none⟩ = some (.int .i64 ((rd_T75 l1 x5_1).f1)) ∧ w'.cell? ⟨(ad329.add ((x5_1).toNat * 3)).block, (ad329.add ((x5_1).toNat * 3)).off + 2, none⟩ = some (.string ((rd_T75 l1 x5_1).f2))) (ds := []) ⟨((HB.out.cell (World.block_lt_of_cell? w _ hw328_0)).trans hw328_0), ((HB.out.cell (World.block_lt_of_cell? w _ hw328_1)).trans hw328_1), ((HB.out.cell (World.block_lt_of_cell? w _ hw328_2)).trans hw328_2), ((HB.out.cell (World.block_lt_of_cell? w _ hw329_0)).trans hw329_0), ((HB.out.cell (World.block_lt_of_cell? w _ hw329_1)).trans hw329_1), ((HB.out.cell (World.block_lt_of_cell? w _ hw329_2)).trans hw329_2)⟩ (fun hHeld => ?_); refine with_tabW laws_eqItemS.tab6 laws_eqItemS.bits6 (fun HT_ HW_ => ?_); generalize wr.drew = w11 at HB hx328_0 hx328_1 hx328_2 hx329_0 hx329_1 hx329_2 hHeld ⊢; refine qp 0 17 ?_; refine qp 1 18 ?_; refine qp 2 19 ?_; refine qp 4 21 ?_; refine qp 5 22 ?_; refine qp 6 23 ?_; refine qt 3 20 ?_; refine qt 7 24 ?_; refine qo 8 25 (fun K hK => ?_); refine goes_ Tryz.func55 (by kernel_rfl) rfl #[.agg #[.int .i64 ((rd_T75 l0 x5_1).f0), .int .i64 ((rd_T75 l0 x5_1).f1), .string ((rd_T75 l0 x5_1).f2)], .agg #[.int .i64 ((rd_T75 l1 x5_1).f0), .int .i64 ((rd_T75 l1 x5_1).f1), .string ((rd_T75 l1 x5_1).f2)]] (by rfl) rfl rfl qA ?_; (with_reducible refine (laws_eqItem.calls ((rd_T75 l0 x5_1).f0) ((rd_T75 l0 x5_1).f1) ((rd_T75 l0 x5_1).f2) ((rd_T75 l1 x5_1).f0) ((rd_T75 l1 x5_1).f1) ((rd_T75 l1 x5_1).f2) false _ A7.out).mono ?_); rintro e w12 ⟨rfl, hb⟩; refine ⟨_, rfl, ?_⟩; replace HB := qHB HB hb; (try clear hb); (try clear hb2); (try clear hk); (try clear hi); refine hK.out _ _ ⟨((HB.out.cell (World.block_lt_of_cell? w _ hw328_0)).trans hw328_0), ((HB.out.cell (World.block_lt_of_cell? w _ hw328_1)).trans hw328_1), ((HB.out.cell (World.block_lt_of_cell? w _ hw328_2)).trans hw328_2), ((HB.out.cell (World.block_lt_of_cell? w _ hw329_0)).trans hw329_0), ((HB.out.cell (World.block_lt_of_cell? w _ hw329_1)).trans hw329_1), ((HB.out.cell (World.block_lt_of_cell? w _ hw329_2)).trans hw329_2)⟩ (fun hHeld => ?_); clear hK K; refine norm_ (a' := ?_) ?_ ?_; rotate_left
                · show Act.put _ (some 25) _ = _; simp only [Act.put, List.setIfInBounds_toArray, List.set_cons_zero, List.set_cons_succ, i64_w, i32_w]; rfl
                refine qp 9 26 ?_; refine done_ (done_of HT_.out (by kernel_rfl)) ?_; (try go_wp2); go_ret; exact ⟨qR, qB⟩
            · rw [if_neg c6] at H; exact absurd H (by simp)
          · rw [if_neg c5] at H; exact absurd H (by simp)
        · rw [if_neg c4] at H; have c4b0 : decide (x5_1 < (l0.length : Int)) = false := decide_eq_false c4; clear c4; obtain rfl := Option.some.inj H; go_wp2; go_ret; exact ⟨qR, qB⟩
  · rw [if_neg c3] at H; have c3b0 : ((l0.length : Int) == (l1.length : Int)) = false := beq_eq_false_iff_ne.mpr c3; have c3b1 : ((l0.length : Int) != (l1.length : Int)) = true := bne_iff_ne.mpr c3; (have c3b2 : (l0.length == l1.length) = false := by first | simpa using c3 | (simp at c3 ⊢; omega)); obtain rfl := Option.some.inj H; go_enter Tryz.func28, Tryz.ntmps28; go_wp2; go_ret; exact ⟨qR, qB⟩
end Go.Proofs.YtbpfdjbnfkclcaaGreatDoor.L
end
section
namespace Go.Proofs.YtbpfdjbnfkclcaaGreatDoor.L
open Go.RowKit Go.Proofs.YtbpfdjbnfkclcaaGreatDoorW.PrintWords Go.Proofs.YtbpfdjbnfkclcaaGreatDoorW.PrintLast Go.Proofs.YtbpfdjbnfkclcaaGreatDoorW.PrintMore
attribute [local go_sem] max2_int min2_int max_two min_two max_three min_three max_four min_four
set_option linter.unusedVariables false
set_option linter.unusedSimpArgs false
def laws_eqItemSS.l0 : Nat → List (List (S75)) → List (List (S75)) → Int → Option (Bool)
  | 0, _, _, _ => none
  | k + 1, x0, x1, x5 => if x5 < (x0.length : Int) then (if 0 ≤ x5 then (if x5 < (x1.length : Int) then ((laws_eqItemS.f k (rd_L9 x0 x5) (rd_L9 x1 x5)).bind fun t333 => (if t333 = true then (laws_eqItemSS.l0 k x0 x1 (wrap64 (x5 + 1))) else (some false))) else (none)) else (none)) else (some true)
def laws_eqItemSS.f (k : Nat) (l0 : List (List (S75))) (l1 : List (List (S75))) : Option (Bool) := if (l0.length : Int) = (l1.length : Int) then (laws_eqItemSS.l0 k l0 l1 0) else (some false)
theorem laws_eqItemSS.mono_l : ∀ k, (∀ y0 y1 y2, LeO (laws_eqItemSS.l0 k y0 y1 y2) (laws_eqItemSS.l0 (k + 1) y0 y1 y2))
  | 0 => fun _ _ _ r h => by simp [laws_eqItemSS.l0] at h
  | k + 1 => by
    have ih0 := laws_eqItemSS.mono_l k
    · intro y0 y1 y2
      unfold laws_eqItemSS.l0
      repeat' first
      | (with_reducible exact ih0 _ _ _)
      | (with_reducible exact laws_eqItemS.mono _ _ _)
      | (with_reducible exact LeO.refl _)
      | (with_reducible exact LeO.none _)
      | (with_reducible refine LeO.ite ?_ ?_)
      | (with_reducible refine LeO.bind ?_ (fun _ => ?_))
      | exact ih0 _ _ _
      | exact laws_eqItemS.mono _ _ _
      | exact LeO.none _
      | refine LeO.ite ?_ ?_
      | refine LeO.bind ?_ (fun _ => ?_)
theorem laws_eqItemSS.mono : ∀ a0 a1 k, LeO (laws_eqItemSS.f k a0 a1) (laws_eqItemSS.f (k + 1) a0 a1) := by
  intro a0 a1 k
  have ih0 := laws_eqItemSS.mono_l k
  unfold laws_eqItemSS.f
  repeat' first
      | (with_reducible exact ih0 _ _ _)
      | (with_reducible exact laws_eqItemS.mono _ _ _)
      | (with_reducible exact LeO.refl _)
      | (with_reducible exact LeO.none _)
      | (with_reducible refine LeO.ite ?_ ?_)
      | (with_reducible refine LeO.bind ?_ (fun _ => ?_))
      | exact ih0 _ _ _
      | exact laws_eqItemS.mono _ _ _
      | exact LeO.none _
      | refine LeO.ite ?_ ?_
      | refine LeO.bind ?_ (fun _ => ?_)
def laws_eqItemSS.T6 : Bool × List (List Nat × List Nat) := (true, [([], []), ([], []), ([0, 1], [0, 1]), ([2], [2]), ([], []), ([], []), ([4, 5], [4, 5]), ([6], [6]), ([3, 7], [3, 7]), ([8], [8])])
def laws_eqItemSS.B6 : List Nat := [0, 0, 3, 7, 0, 0, 48, 112, 255, 511]
theorem laws_eqItemSS.tab6 : rtab .any (opsOf Tryz.f29 6) = laws_eqItemSS.T6 := by kernel_rfl
theorem laws_eqItemSS.bits6 : waitsOk laws_eqItemSS.T6.2 laws_eqItemSS.B6 = true := by kernel_rfl
set_option maxHeartbeats 8000000 in
set_option maxRecDepth 100000 in
theorem laws_eqItemSS.calls (k : Nat) (A0 : Option Addr) (c0 : Nat) (l0 : List (List (S75))) (A1 : Option Addr) (c1 : Nat) (l1 : List (List (S75))) (r : Bool) (w : World) (hr0 : Kd.C (Kd.slice 75 k75) w A0 l0.length l0) (hc0 : l0.length ≤ c0) (hr1 : Kd.C (Kd.slice 75 k75) w A1 l1.length l1) (hc1 : l1.length ≤ c1) (h : laws_eqItemSS.f k l0 l1 = some r) :
    Calls Tryz.prog 29 #[.slice A0 l0.length c0, .slice A1 l1.length c1] w fun e w' => e = .returned (.bool r) ∧ Below w.heap.size w w' := by
  have HR0 := qK hr0; have HC0 := qK hc0; clear hr0 hc0; have HR1 := qK hr1; have HC1 := qK hc1; clear hr1 hc1; have HB := qK (Below.refl w.heap.size w); have H : (if (l0.length : Int) = (l1.length : Int) then (laws_eqItemSS.l0 k l0 l1 0) else (some false)) = some r := h; clear h; by_cases c3 : (l0.length : Int) = (l1.length : Int)
  · rw [if_pos c3] at H; have c3b0 : ((l0.length : Int) == (l1.length : Int)) = true := beq_iff_eq.mpr c3; have c3b1 : ((l0.length : Int) != (l1.length : Int)) = false := bne_eq_false_iff_eq.mpr c3; (have c3b2 : (l0.length == l1.length) = true := by first | simpa using c3 | (simp at c3 ⊢; omega)); clear c3; have H' := qK H; clear H; go_enter Tryz.func29, Tryz.ntmps29; go_wp2; go_loopg [5] k (fun kq v5 w' => ∃ (x5_1 : Int), v5 = .int .i64 x5_1 ∧ Aside0 (laws_eqItemSS.l0 kq l0 l1 x5_1 = some r) ∧ Aside0 (kq ≤ k) ∧ Aside0 (Below w.heap.size w w'))
    case atStart => exact ⟨(0), qS, H', ⟨Nat.le_refl _⟩, ⟨qB⟩⟩
    case round =>
      clear H'; (try clear c1); (try clear c2); (try clear p2); (try clear c3); (try clear c3b0); (try clear c3b1); (try clear c3b2); obtain ⟨x5_1, rfl, HA, HK1, HB⟩ := hrel
      cases gk with
      | zero => exact absurd HA.out (by simp [laws_eqItemSS.l0])
      | succ k1 =>
        have H := HA.out; clear HA; simp only [laws_eqItemSS.l0] at H; by_cases c4 : x5_1 < (l0.length : Int)
        · rw [if_pos c4] at H; have c4b0 : decide (x5_1 < (l0.length : Int)) = true := decide_eq_true c4; clear c4; by_cases c5 : 0 ≤ x5_1
          · rw [if_pos c5] at H; have c5b0 : decide (0 ≤ x5_1) = true := decide_eq_true c5; clear c5; by_cases c6 : x5_1 < (l1.length : Int)
            · rw [if_pos c6] at H; have c6b0 : decide (x5_1 < (l1.length : Int)) = true := decide_eq_true c6; clear c6; replace H := Option.bind_eq_some_iff.mp H; obtain ⟨t333, A70, H⟩ := H; have A7 := qK A70; clear A70; by_cases c8 : t333 = true
              · subst c8; rw [if_pos rfl] at H; have H' := qK H; clear H; (try go_wp2); replace HB := qK (bd1 HB.out); have p331 : 0 ≤ (x5_1 : Int) := of_decide_eq_true qa; have q331 : x5_1 < (l0.length : Int) := of_decide_eq_true qa; obtain ⟨ad331, A331_0, c331_0, e331, hx331_0, hl331_0, hi331_0⟩ := at_L9 HR0.out x5_1 p331 q331; have hw331_0 := hx331_0; cases e331; replace hx331_0 := (HB.out.cell (World.block_lt_of_cell? w _ hx331_0)).trans hx331_0; have HR331_0 := qK hi331_0; have HC331_0 := qK hl331_0; clear hi331_0 hl331_0; replace p331 := eq_true p331; replace q331 := eq_true q331; have p332 : 0 ≤ (x5_1 : Int) := of_decide_eq_true qa; have q332 : x5_1 < (l1.length : Int) := of_decide_eq_true qa; obtain ⟨ad332, A332_0, c332_0, e332, hx332_0, hl332_0, hi332_0⟩ := at_L9 HR1.out x5_1 p332 q332; have hw332_0 := hx332_0; cases e332; replace hx332_0 := (HB.out.cell (World.block_lt_of_cell? w _ hx332_0)).trans hx332_0; have HR332_0 := qK hi332_0; have HC332_0 := qK hl332_0; clear hi332_0 hl332_0; replace p332 := eq_true p332; replace q332 := eq_true q332; refine qs 10 (fun w' => w'.cell? (ad331.add (x5_1).toNat) = some (.slice A331_0 (rd_L9 l0 x5_1).length c331_0) ∧ w'.cell? (ad332.add (x5_1).toNat) = some (.slice A332_0 (rd_L9 l1 x5_1).length c332_0)) (ds := []) ⟨((HB.out.cell (World.block_lt_of_cell? w _ hw331_0)).trans hw331_0), ((HB.out.cell (World.block_lt_of_cell? w _ hw332_0)).trans hw332_0)⟩ (fun hHeld => ?_); refine with_tabW laws_eqItemSS.tab6 laws_eqItemSS.bits6 (fun HT_ HW_ => ?_); generalize wr.drew = w9 at HB HR331_0 HR332_0 hx331_0 hx332_0 hHeld ⊢; refine qp 0 17 ?_; refine qp 1 18 ?_; refine qp 2 19 ?_; refine qp 4 21 ?_; refine qp 5 22 ?_; refine qp 6 23 ?_; refine qt 3 20 ?_; refine qt 7 24 ?_; refine qo 8 25 (fun K hK => ?_); refine goes_ Tryz.func28 (by kernel_rfl) rfl #[.slice A331_0 (rd_L9 l0 x5_1).length c331_0, .slice A332_0 (rd_L9 l1 x5_1).length c332_0] (by rfl) rfl rfl qA ?_; (with_reducible refine (laws_eqItemS.calls k1 _ _ (rd_L9 l0 x5_1) _ _ (rd_L9 l1 x5_1) true _ ?side1 ?side2 ?side3 ?side4 A7.out).mono ?_); (case side1 => exact qC HR331_0); (case side2 => exact HC331_0.out); (case side3 => exact qC HR332_0); (case side4 => exact HC332_0.out); rintro e w10 ⟨rfl, hb⟩; refine ⟨_, rfl, ?_⟩; replace HB := qHB HB hb; (try clear hb); (try clear hb2); (try clear hk); (try clear hi); refine hK.out _ _ ⟨((HB.out.cell (World.block_lt_of_cell? w _ hw331_0)).trans hw331_0), ((HB.out.cell (World.block_lt_of_cell? w _ hw332_0)).trans hw332_0)⟩ (fun hHeld => ?_); clear hK K; refine norm_ (a' := ?_) ?_ ?_; rotate_left
                · show Act.put _ (some 25) _ = _; simp only [Act.put, List.setIfInBounds_toArray, List.set_cons_zero, List.set_cons_succ, i64_w, i32_w]; rfl
                refine qp 9 26 ?_; refine done_ (done_of HT_.out (by kernel_rfl)) ?_; (try go_wp2); go_roundg k1
                case measure => have := HK1.out; omega
                case rel => exact ⟨(wrap64 (x5_1 + 1)), qS, H', ⟨by have := HK1.out; omega⟩, ⟨qB⟩⟩
              · replace c8 := Bool.eq_false_iff.mpr c8; subst c8; rw [if_neg qff] at H; obtain rfl := Option.some.inj H; (try go_wp2); replace HB := qK (bd1 HB.out); have p331 : 0 ≤ (x5_1 : Int) := of_decide_eq_true qa; have q331 : x5_1 < (l0.length : Int) := of_decide_eq_true qa; obtain ⟨ad331, A331_0, c331_0, e331, hx331_0, hl331_0, hi331_0⟩ := at_L9 HR0.out x5_1 p331 q331; have hw331_0 := hx331_0; cases e331; replace hx331_0 := (HB.out.cell (World.block_lt_of_cell? w _ hx331_0)).trans hx331_0; have HR331_0 := qK hi331_0; have HC331_0 := qK hl331_0; clear hi331_0 hl331_0; replace p331 := eq_true p331; replace q331 := eq_true q331; have p332 : 0 ≤ (x5_1 : Int) := of_decide_eq_true qa; have q332 : x5_1 < (l1.length : Int) := of_decide_eq_true qa; obtain ⟨ad332, A332_0, c332_0, e332, hx332_0, hl332_0, hi332_0⟩ := at_L9 HR1.out x5_1 p332 q332; have hw332_0 := hx332_0; cases e332; replace hx332_0 := (HB.out.cell (World.block_lt_of_cell? w _ hx332_0)).trans hx332_0; have HR332_0 := qK hi332_0; have HC332_0 := qK hl332_0; clear hi332_0 hl332_0; replace p332 := eq_true p332; replace q332 := eq_true q332; refine qs 10 (fun w' => w'.cell? (ad331.add (x5_1).toNat) = some (.slice A331_0 (rd_L9 l0 x5_1).length c331_0) ∧ w'.cell? (ad332.add (x5_1).toNat) = some (.slice A332_0 (rd_L9 l1 x5_1).length c332_0)) (ds := []) ⟨((HB.out.cell (World.block_lt_of_cell? w _ hw331_0)).trans hw331_0), ((HB.out.cell (World.block_lt_of_cell? w _ hw332_0)).trans hw332_0)⟩ (fun hHeld => ?_); refine with_tabW laws_eqItemSS.tab6 laws_eqItemSS.bits6 (fun HT_ HW_ => ?_); generalize wr.drew = w11 at HB HR331_0 HR332_0 hx331_0 hx332_0 hHeld ⊢; refine qp 0 17 ?_; refine qp 1 18 ?_; refine qp 2 19 ?_; refine qp 4 21 ?_; refine qp 5 22 ?_; refine qp 6 23 ?_; refine qt 3 20 ?_; refine qt 7 24 ?_; refine qo 8 25 (fun K hK => ?_); refine goes_ Tryz.func28 (by kernel_rfl) rfl #[.slice A331_0 (rd_L9 l0 x5_1).length c331_0, .slice A332_0 (rd_L9 l1 x5_1).length c332_0] (by rfl) rfl rfl qA ?_; (with_reducible refine (laws_eqItemS.calls k1 _ _ (rd_L9 l0 x5_1) _ _ (rd_L9 l1 x5_1) false _ ?side1 ?side2 ?side3 ?side4 A7.out).mono ?_); (case side1 => exact qC HR331_0); (case side2 => exact HC331_0.out); (case side3 => exact qC HR332_0); (case side4 => exact HC332_0.out); rintro e w12 ⟨rfl, hb⟩; refine ⟨_, rfl, ?_⟩; replace HB := qHB HB hb; (try clear hb); (try clear hb2); (try clear hk); (try clear hi); refine hK.out _ _ ⟨((HB.out.cell (World.block_lt_of_cell? w _ hw331_0)).trans hw331_0), ((HB.out.cell (World.block_lt_of_cell? w _ hw332_0)).trans hw332_0)⟩ (fun hHeld => ?_); clear hK K; refine norm_ (a' := ?_) ?_ ?_; rotate_left
                · show Act.put _ (some 25) _ = _; simp only [Act.put, List.setIfInBounds_toArray, List.set_cons_zero, List.set_cons_succ, i64_w, i32_w]; rfl
                refine qp 9 26 ?_; refine done_ (done_of HT_.out (by kernel_rfl)) ?_; (try go_wp2); go_ret; exact ⟨qR, qB⟩
            · rw [if_neg c6] at H; exact absurd H (by simp)
          · rw [if_neg c5] at H; exact absurd H (by simp)
        · rw [if_neg c4] at H; have c4b0 : decide (x5_1 < (l0.length : Int)) = false := decide_eq_false c4; clear c4; obtain rfl := Option.some.inj H; go_wp2; go_ret; exact ⟨qR, qB⟩
  · rw [if_neg c3] at H; have c3b0 : ((l0.length : Int) == (l1.length : Int)) = false := beq_eq_false_iff_ne.mpr c3; have c3b1 : ((l0.length : Int) != (l1.length : Int)) = true := bne_iff_ne.mpr c3; (have c3b2 : (l0.length == l1.length) = false := by first | simpa using c3 | (simp at c3 ⊢; omega)); obtain rfl := Option.some.inj H; go_enter Tryz.func29, Tryz.ntmps29; go_wp2; go_ret; exact ⟨qR, qB⟩
def laws_eqStm.f (k : Nat) (a0_0 : Int) (a0_1 : ByteArray) (l0_2 : List (S46)) (l0_3 : List (S49)) (a0_4 : ByteArray) (l0_5 : List (S75)) (l0_6 : List (S75)) (l0_7 : List (List (S75))) (a1_0 : Int) (a1_1 : ByteArray) (l1_2 : List (S46)) (l1_3 : List (S49)) (a1_4 : ByteArray) (l1_5 : List (S75)) (l1_6 : List (S75)) (l1_7 : List (List (S75))) : Option (Bool) := if a0_0 = a1_0 then (if a0_1.toList = a1_1.toList then ((laws_eqColumnS.f k l0_2 l1_2).bind fun t336 => (if t336 = true then ((laws_eqValueS.f k l0_3 l1_3).bind fun t337 => (if t337 = true then (if a0_4.toList = a1_4.toList then ((laws_eqItemS.f k l0_5 l1_5).bind fun t338 => (if t338 = true then ((laws_eqItemS.f k l0_6 l1_6).bind fun t339 => (if t339 = true then ((laws_eqItemSS.f k l0_7 l1_7).bind fun t340 => (if t340 = true then (some true) else (some false))) else (some false))) else (some false))) else (some false)) else (some false))) else (some false))) else (some false)) else (some false)
theorem laws_eqStm.mono : ∀ a0 a1 a2 a3 a4 a5 a6 a7 a8 a9 a10 a11 a12 a13 a14 a15 k, LeO (laws_eqStm.f k a0 a1 a2 a3 a4 a5 a6 a7 a8 a9 a10 a11 a12 a13 a14 a15) (laws_eqStm.f (k + 1) a0 a1 a2 a3 a4 a5 a6 a7 a8 a9 a10 a11 a12 a13 a14 a15) := by
  intro a0 a1 a2 a3 a4 a5 a6 a7 a8 a9 a10 a11 a12 a13 a14 a15 k
  unfold laws_eqStm.f
  repeat' first
      | (with_reducible exact laws_eqColumnS.mono _ _ _)
      | (with_reducible exact laws_eqItemS.mono _ _ _)
      | (with_reducible exact laws_eqItemSS.mono _ _ _)
      | (with_reducible exact laws_eqValueS.mono _ _ _)
      | (with_reducible exact LeO.refl _)
      | (with_reducible exact LeO.none _)
      | (with_reducible refine LeO.ite ?_ ?_)
      | (with_reducible refine LeO.bind ?_ (fun _ => ?_))
      | exact laws_eqColumnS.mono _ _ _
      | exact laws_eqItemS.mono _ _ _
      | exact laws_eqItemSS.mono _ _ _
      | exact laws_eqValueS.mono _ _ _
      | exact LeO.none _
      | refine LeO.ite ?_ ?_
      | refine LeO.bind ?_ (fun _ => ?_)
set_option maxHeartbeats 8000000 in
set_option maxRecDepth 100000 in
theorem laws_eqStm.calls (k : Nat) (a0_0 : Int) (a0_1 : ByteArray) (A0_2 : Option Addr) (c0_2 : Nat) (l0_2 : List (S46)) (A0_3 : Option Addr) (c0_3 : Nat) (l0_3 : List (S49)) (a0_4 : ByteArray) (A0_5 : Option Addr) (c0_5 : Nat) (l0_5 : List (S75)) (A0_6 : Option Addr) (c0_6 : Nat) (l0_6 : List (S75)) (A0_7 : Option Addr) (c0_7 : Nat) (l0_7 : List (List (S75))) (a1_0 : Int) (a1_1 : ByteArray) (A1_2 : Option Addr) (c1_2 : Nat) (l1_2 : List (S46)) (A1_3 : Option Addr) (c1_3 : Nat) (l1_3 : List (S49)) (a1_4 : ByteArray) (A1_5 : Option Addr) (c1_5 : Nat) (l1_5 : List (S75)) (A1_6 : Option Addr) (c1_6 : Nat) (l1_6 : List (S75)) (A1_7 : Option Addr) (c1_7 : Nat) (l1_7 : List (List (S75))) (r : Bool) (w : World) (hr0_2 : Kd.C k46 w A0_2 l0_2.length l0_2) (hc0_2 : l0_2.length ≤ c0_2) (hr0_3 : Kd.C k49 w A0_3 l0_3.length l0_3) (hc0_3 : l0_3.length ≤ c0_3) (hr0_5 : Kd.C k75 w A0_5 l0_5.length l0_5) (hc0_5 : l0_5.length ≤ c0_5) (hr0_6 : Kd.C k75 w A0_6 l0_6.length l0_6) (hc0_6 : l0_6.length ≤ c0_6) (hr0_7 : Kd.C (Kd.slice 75 k75) w A0_7 l0_7.length l0_7) (hc0_7 : l0_7.length ≤ c0_7) (hr1_2 : Kd.C k46 w A1_2 l1_2.length l1_2) (hc1_2 : l1_2.length ≤ c1_2) (hr1_3 : Kd.C k49 w A1_3 l1_3.length l1_3) (hc1_3 : l1_3.length ≤ c1_3) (hr1_5 : Kd.C k75 w A1_5 l1_5.length l1_5) (hc1_5 : l1_5.length ≤ c1_5) (hr1_6 : Kd.C k75 w A1_6 l1_6.length l1_6) (hc1_6 : l1_6.length ≤ c1_6) (hr1_7 : Kd.C (Kd.slice 75 k75) w A1_7 l1_7.length l1_7) (hc1_7 : l1_7.length ≤ c1_7) (h : laws_eqStm.f k a0_0 a0_1 l0_2 l0_3 a0_4 l0_5 l0_6 l0_7 a1_0 a1_1 l1_2 l1_3 a1_4 l1_5 l1_6 l1_7 = some r) :
    Calls Tryz.prog 8 #[.agg #[.int .i64 a0_0, .string a0_1, .slice A0_2 l0_2.length c0_2, .slice A0_3 l0_3.length c0_3, .string a0_4, .slice A0_5 l0_5.length c0_5, .slice A0_6 l0_6.length c0_6, .slice A0_7 l0_7.length c0_7], .agg #[.int .i64 a1_0, .string a1_1, .slice A1_2 l1_2.length c1_2, .slice A1_3 l1_3.length c1_3, .string a1_4, .slice A1_5 l1_5.length c1_5, .slice A1_6 l1_6.length c1_6, .slice A1_7 l1_7.length c1_7]] w fun e w' => e = .returned (.bool r) ∧ Below w.heap.size w w' := by
  have hu35 := Tryz.underlying35; have HR0_2 := qK hr0_2; have HC0_2 := qK hc0_2; clear hr0_2 hc0_2; have HR0_3 := qK hr0_3; have HC0_3 := qK hc0_3; clear hr0_3 hc0_3; have HR0_5 := qK hr0_5; have HC0_5 := qK hc0_5; clear hr0_5 hc0_5; have HR0_6 := qK hr0_6; have HC0_6 := qK hc0_6; clear hr0_6 hc0_6; have HR0_7 := qK hr0_7; have HC0_7 := qK hc0_7; clear hr0_7 hc0_7; have HR1_2 := qK hr1_2; have HC1_2 := qK hc1_2; clear hr1_2 hc1_2; have HR1_3 := qK hr1_3; have HC1_3 := qK hc1_3; clear hr1_3 hc1_3; have HR1_5 := qK hr1_5; have HC1_5 := qK hc1_5; clear hr1_5 hc1_5; have HR1_6 := qK hr1_6; have HC1_6 := qK hc1_6; clear hr1_6 hc1_6; have HR1_7 := qK hr1_7; have HC1_7 := qK hc1_7; clear hr1_7 hc1_7; have HB := qK (Below.refl w.heap.size w); have H : (if a0_0 = a1_0 then (if a0_1.toList = a1_1.toList then ((laws_eqColumnS.f k l0_2 l1_2).bind fun t336 => (if t336 = true then ((laws_eqValueS.f k l0_3 l1_3).bind fun t337 => (if t337 = true then (if a0_4.toList = a1_4.toList then ((laws_eqItemS.f k l0_5 l1_5).bind fun t338 => (if t338 = true then ((laws_eqItemS.f k l0_6 l1_6).bind fun t339 => (if t339 = true then ((laws_eqItemSS.f k l0_7 l1_7).bind fun t340 => (if t340 = true then (some true) else (some false))) else (some false))) else (some false))) else (some false)) else (some false))) else (some false))) else (some false)) else (some false)) = some r := h; clear h; by_cases c3 : a0_0 = a1_0
  · rw [if_pos c3] at H; have c3b0 : (a0_0 == a1_0) = true := beq_iff_eq.mpr c3; have c3b1 : (a0_0 != a1_0) = false := bne_eq_false_iff_eq.mpr c3; clear c3; by_cases c4 : a0_1.toList = a1_1.toList
    · rw [if_pos c4] at H; have c4b0 : (a0_1.toList == a1_1.toList) = true := beq_iff_eq.mpr c4; have c4b1 : (a0_1.toList != a1_1.toList) = false := bne_eq_false_iff_eq.mpr c4; clear c4; replace H := Option.bind_eq_some_iff.mp H; obtain ⟨t336, A50, H⟩ := H; have A5 := qK A50; clear A50; by_cases c6 : t336 = true
      · subst c6; rw [if_pos rfl] at H; replace H := Option.bind_eq_some_iff.mp H; obtain ⟨t337, A70, H⟩ := H; have A7 := qK A70; clear A70; by_cases c8 : t337 = true
        · subst c8; rw [if_pos rfl] at H; by_cases c9 : a0_4.toList = a1_4.toList
          · rw [if_pos c9] at H; have c9b0 : (a0_4.toList == a1_4.toList) = true := beq_iff_eq.mpr c9; have c9b1 : (a0_4.toList != a1_4.toList) = false := bne_eq_false_iff_eq.mpr c9; clear c9; replace H := Option.bind_eq_some_iff.mp H; obtain ⟨t338, A100, H⟩ := H; have A10 := qK A100; clear A100; by_cases c11 : t338 = true
            · subst c11; rw [if_pos rfl] at H; replace H := Option.bind_eq_some_iff.mp H; obtain ⟨t339, A120, H⟩ := H; have A12 := qK A120; clear A120; by_cases c13 : t339 = true
              · subst c13; rw [if_pos rfl] at H; replace H := Option.bind_eq_some_iff.mp H; obtain ⟨t340, A140, H⟩ := H; have A14 := qK A140; clear A140; by_cases c15 : t340 = true
                · subst c15; rw [if_pos rfl] at H; obtain rfl := Option.some.inj H; go_enter Tryz.func8, Tryz.ntmps8; go_wp2_with (first | ((with_reducible refine gds (N := 2) rfl ?_); refine qbx 2 #[.int .i64 a0_0, .string a0_1, .slice A0_2 l0_2.length c0_2, .slice A0_3 l0_3.length c0_3, .string a0_4, .slice A0_5 l0_5.length c0_5, .slice A0_6 l0_6.length c0_6, .slice A0_7 l0_7.length c0_7] 35 ?_; intro gb334 hg w16 hbox hb; have BK334 := qK (hbox); have GW334 := qK ((qW : w.heap.size ≤ gb334)); have GE334 := GW334; replace HB := qHB HB hb; clear hb hbox hg) | ((with_reducible refine gds (N := 3) rfl ?_); refine qbx 3 #[.int .i64 a1_0, .string a1_1, .slice A1_2 l1_2.length c1_2, .slice A1_3 l1_3.length c1_3, .string a1_4, .slice A1_5 l1_5.length c1_5, .slice A1_6 l1_6.length c1_6, .slice A1_7 l1_7.length c1_7] 35 ?_; intro gb335 hg w17 hbox hb; have BK335 := qK (hbox); have GW335 := qK ((qW : w.heap.size ≤ gb335)); have GE335 := GW335; replace HB := qHB HB hb; have NB334_335 := qK (qlt BK334 hg); have NB335_334 := qK (qgt BK334 hg); replace BK334 := qbb BK334 hb; clear hb hbox hg; have hnb18 := NB334_335.out; have hnc18 := NB335_334.out; have hz19 := qz8 BK334.out; have hz20 := qz8 BK335.out) | ((with_reducible refine gcl (f := 26) rfl ?_); refine goesL_ (some 19) rfl rfl Tryz.func26 (by kernel_rfl) rfl #[.slice A0_2 l0_2.length c0_2, .slice A1_2 l1_2.length c1_2] rfl qA ?_; (with_reducible refine (laws_eqColumnS.calls k _ _ l0_2 _ _ l1_2 true _ ?side1 ?side2 ?side3 ?side4 A5.out).mono ?_); (case side1 => exact qC HR0_2); (case side2 => exact HC0_2.out); (case side3 => exact qC HR1_2); (case side4 => exact HC1_2.out); rintro e w21 ⟨rfl, hb⟩; refine ⟨_, rfl, ?_⟩; replace BK334 := qbb BK334 hb; replace BK335 := qbb BK335 hb; replace HB := qHB HB hb; (try clear hb); (try clear hb2); (try clear hk); (try clear hi); have hz22 := qz8 BK334.out; have hz23 := qz8 BK335.out) | ((with_reducible refine gcl (f := 27) rfl ?_); refine goesL_ (some 25) rfl rfl Tryz.func27 (by kernel_rfl) rfl #[.slice A0_3 l0_3.length c0_3, .slice A1_3 l1_3.length c1_3] rfl qA ?_; (with_reducible refine (laws_eqValueS.calls k _ _ l0_3 _ _ l1_3 true _ ?side1 ?side2 ?side3 ?side4 A7.out).mono ?_); (case side1 => exact qC HR0_3); (case side2 => exact HC0_3.out); (case side3 => exact qC HR1_3); (case side4 => exact HC1_3.out); rintro e w24 ⟨rfl, hb⟩; refine ⟨_, rfl, ?_⟩; replace BK334 := qbb BK334 hb; replace BK335 := qbb BK335 hb; replace HB := qHB HB hb; (try clear hb); (try clear hb2); (try clear hk); (try clear hi); have hz25 := qz8 BK334.out; have hz26 := qz8 BK335.out) | ((with_reducible refine gcl (f := 28) rfl ?_); refine goesL_ (some 36) rfl rfl Tryz.func28 (by kernel_rfl) rfl #[.slice A0_5 l0_5.length c0_5, .slice A1_5 l1_5.length c1_5] rfl qA ?_; (with_reducible refine (laws_eqItemS.calls k _ _ l0_5 _ _ l1_5 true _ ?side1 ?side2 ?side3 ?side4 A10.out).mono ?_); (case side1 => exact qC HR0_5); (case side2 => exact HC0_5.out); (case side3 => exact qC HR1_5); (case side4 => exact HC1_5.out); rintro e w27 ⟨rfl, hb⟩; refine ⟨_, rfl, ?_⟩; replace BK334 := qbb BK334 hb; replace BK335 := qbb BK335 hb; replace HB := qHB HB hb; (try clear hb); (try clear hb2); (try clear hk); (try clear hi); have hz28 := qz8 BK334.out; have hz29 := qz8 BK335.out) | ((with_reducible refine gcl (f := 28) rfl ?_); refine goesL_ (some 42) rfl rfl Tryz.func28 (by kernel_rfl) rfl #[.slice A0_6 l0_6.length c0_6, .slice A1_6 l1_6.length c1_6] rfl qA ?_; (with_reducible refine (laws_eqItemS.calls k _ _ l0_6 _ _ l1_6 true _ ?side1 ?side2 ?side3 ?side4 A12.out).mono ?_); (case side1 => exact qC HR0_6); (case side2 => exact HC0_6.out); (case side3 => exact qC HR1_6); (case side4 => exact HC1_6.out); rintro e w30 ⟨rfl, hb⟩; refine ⟨_, rfl, ?_⟩; replace BK334 := qbb BK334 hb; replace BK335 := qbb BK335 hb; replace HB := qHB HB hb; (try clear hb); (try clear hb2); (try clear hk); (try clear hi); have hz31 := qz8 BK334.out; have hz32 := qz8 BK335.out) | ((with_reducible refine gcl (f := 29) rfl ?_); refine goesL_ (some 48) rfl rfl Tryz.func29 (by kernel_rfl) rfl #[.slice A0_7 l0_7.length c0_7, .slice A1_7 l1_7.length c1_7] rfl qA ?_; (with_reducible refine (laws_eqItemSS.calls k _ _ l0_7 _ _ l1_7 true _ ?side1 ?side2 ?side3 ?side4 A14.out).mono ?_); (case side1 => exact qC HR0_7); (case side2 => exact HC0_7.out); (case side3 => exact qC HR1_7); (case side4 => exact HC1_7.out); rintro e w33 ⟨rfl, hb⟩; refine ⟨_, rfl, ?_⟩; replace BK334 := qbb BK334 hb; replace BK335 := qbb BK335 hb; replace HB := qHB HB hb; (try clear hb); (try clear hb2); (try clear hk); (try clear hi))); go_ret; exact ⟨qR, qB⟩
                · replace c15 := Bool.eq_false_iff.mpr c15; subst c15; rw [if_neg qff] at H; obtain rfl := Option.some.inj H; go_enter Tryz.func8, Tryz.ntmps8; go_wp2_with (first | ((with_reducible refine gds (N := 2) rfl ?_); refine qbx 2 #[.int .i64 a0_0, .string a0_1, .slice A0_2 l0_2.length c0_2, .slice A0_3 l0_3.length c0_3, .string a0_4, .slice A0_5 l0_5.length c0_5, .slice A0_6 l0_6.length c0_6, .slice A0_7 l0_7.length c0_7] 35 ?_; intro gb334 hg w34 hbox hb; have BK334 := qK (hbox); have GW334 := qK ((qW : w.heap.size ≤ gb334)); have GE334 := GW334; replace HB := qHB HB hb; clear hb hbox hg) | ((with_reducible refine gds (N := 3) rfl ?_); refine qbx 3 #[.int .i64 a1_0, .string a1_1, .slice A1_2 l1_2.length c1_2, .slice A1_3 l1_3.length c1_3, .string a1_4, .slice A1_5 l1_5.length c1_5, .slice A1_6 l1_6.length c1_6, .slice A1_7 l1_7.length c1_7] 35 ?_; intro gb335 hg w35 hbox hb; have BK335 := qK (hbox); have GW335 := qK ((qW : w.heap.size ≤ gb335)); have GE335 := GW335; replace HB := qHB HB hb; have NB334_335 := qK (qlt BK334 hg); have NB335_334 := qK (qgt BK334 hg); replace BK334 := qbb BK334 hb; clear hb hbox hg; have hnb36 := NB334_335.out; have hnc36 := NB335_334.out; have hz37 := qz8 BK334.out; have hz38 := qz8 BK335.out) | ((with_reducible refine gcl (f := 26) rfl ?_); refine goesL_ (some 19) rfl rfl Tryz.func26 (by kernel_rfl) rfl #[.slice A0_2 l0_2.length c0_2, .slice A1_2 l1_2.length c1_2] rfl qA ?_; (with_reducible refine (laws_eqColumnS.calls k _ _ l0_2 _ _ l1_2 true _ ?side1 ?side2 ?side3 ?side4 A5.out).mono ?_); (case side1 => exact qC HR0_2); (case side2 => exact HC0_2.out); (case side3 => exact qC HR1_2); (case side4 => exact HC1_2.out); rintro e w39 ⟨rfl, hb⟩; refine ⟨_, rfl, ?_⟩; replace BK334 := qbb BK334 hb; replace BK335 := qbb BK335 hb; replace HB := qHB HB hb; (try clear hb); (try clear hb2); (try clear hk); (try clear hi); have hz40 := qz8 BK334.out; have hz41 := qz8 BK335.out) | ((with_reducible refine gcl (f := 27) rfl ?_); refine goesL_ (some 25) rfl rfl Tryz.func27 (by kernel_rfl) rfl #[.slice A0_3 l0_3.length c0_3, .slice A1_3 l1_3.length c1_3] rfl qA ?_; (with_reducible refine (laws_eqValueS.calls k _ _ l0_3 _ _ l1_3 true _ ?side1 ?side2 ?side3 ?side4 A7.out).mono ?_); (case side1 => exact qC HR0_3); (case side2 => exact HC0_3.out); (case side3 => exact qC HR1_3); (case side4 => exact HC1_3.out); rintro e w42 ⟨rfl, hb⟩; refine ⟨_, rfl, ?_⟩; replace BK334 := qbb BK334 hb; replace BK335 := qbb BK335 hb; replace HB := qHB HB hb; (try clear hb); (try clear hb2); (try clear hk); (try clear hi); have hz43 := qz8 BK334.out; have hz44 := qz8 BK335.out) | ((with_reducible refine gcl (f := 28) rfl ?_); refine goesL_ (some 36) rfl rfl Tryz.func28 (by kernel_rfl) rfl #[.slice A0_5 l0_5.length c0_5, .slice A1_5 l1_5.length c1_5] rfl qA ?_; (with_reducible refine (laws_eqItemS.calls k _ _ l0_5 _ _ l1_5 true _ ?side1 ?side2 ?side3 ?side4 A10.out).mono ?_); (case side1 => exact qC HR0_5); (case side2 => exact HC0_5.out); (case side3 => exact qC HR1_5); (case side4 => exact HC1_5.out); rintro e w45 ⟨rfl, hb⟩; refine ⟨_, rfl, ?_⟩; replace BK334 := qbb BK334 hb; replace BK335 := qbb BK335 hb; replace HB := qHB HB hb; (try clear hb); (try clear hb2); (try clear hk); (try clear hi); have hz46 := qz8 BK334.out; have hz47 := qz8 BK335.out) | ((with_reducible refine gcl (f := 28) rfl ?_); refine goesL_ (some 42) rfl rfl Tryz.func28 (by kernel_rfl) rfl #[.slice A0_6 l0_6.length c0_6, .slice A1_6 l1_6.length c1_6] rfl qA ?_; (with_reducible refine (laws_eqItemS.calls k _ _ l0_6 _ _ l1_6 true _ ?side1 ?side2 ?side3 ?side4 A12.out).mono ?_); (case side1 => exact qC HR0_6); (case side2 => exact HC0_6.out); (case side3 => exact qC HR1_6); (case side4 => exact HC1_6.out); rintro e w48 ⟨rfl, hb⟩; refine ⟨_, rfl, ?_⟩; replace BK334 := qbb BK334 hb; replace BK335 := qbb BK335 hb; replace HB := qHB HB hb; (try clear hb); (try clear hb2); (try clear hk); (try clear hi); have hz49 := qz8 BK334.out; have hz50 := qz8 BK335.out) | ((with_reducible refine gcl (f := 29) rfl ?_); refine goesL_ (some 48) rfl rfl Tryz.func29 (by kernel_rfl) rfl #[.slice A0_7 l0_7.length c0_7, .slice A1_7 l1_7.length c1_7] rfl qA ?_; (with_reducible refine (laws_eqItemSS.calls k _ _ l0_7 _ _ l1_7 false _ ?side1 ?side2 ?side3 ?side4 A14.out).mono ?_); (case side1 => exact qC HR0_7); (case side2 => exact HC0_7.out); (case side3 => exact qC HR1_7); (case side4 => exact HC1_7.out); rintro e w51 ⟨rfl, hb⟩; refine ⟨_, rfl, ?_⟩; replace BK334 := qbb BK334 hb; replace BK335 := qbb BK335 hb; replace HB := qHB HB hb; (try clear hb); (try clear hb2); (try clear hk); (try clear hi))); go_ret; exact ⟨qR, qB⟩
              · replace c13 := Bool.eq_false_iff.mpr c13; subst c13; rw [if_neg qff] at H; obtain rfl := Option.some.inj H; go_enter Tryz.func8, Tryz.ntmps8; go_wp2_with (first | ((with_reducible refine gds (N := 2) rfl ?_); refine qbx 2 #[.int .i64 a0_0, .string a0_1, .slice A0_2 l0_2.length c0_2, .slice A0_3 l0_3.length c0_3, .string a0_4, .slice A0_5 l0_5.length c0_5, .slice A0_6 l0_6.length c0_6, .slice A0_7 l0_7.length c0_7] 35 ?_; intro gb334 hg w52 hbox hb; have BK334 := qK (hbox); have GW334 := qK ((qW : w.heap.size ≤ gb334)); have GE334 := GW334; replace HB := qHB HB hb; clear hb hbox hg) | ((with_reducible refine gds (N := 3) rfl ?_); refine qbx 3 #[.int .i64 a1_0, .string a1_1, .slice A1_2 l1_2.length c1_2, .slice A1_3 l1_3.length c1_3, .string a1_4, .slice A1_5 l1_5.length c1_5, .slice A1_6 l1_6.length c1_6, .slice A1_7 l1_7.length c1_7] 35 ?_; intro gb335 hg w53 hbox hb; have BK335 := qK (hbox); have GW335 := qK ((qW : w.heap.size ≤ gb335)); have GE335 := GW335; replace HB := qHB HB hb; have NB334_335 := qK (qlt BK334 hg); have NB335_334 := qK (qgt BK334 hg); replace BK334 := qbb BK334 hb; clear hb hbox hg; have hnb54 := NB334_335.out; have hnc54 := NB335_334.out; have hz55 := qz8 BK334.out; have hz56 := qz8 BK335.out) | ((with_reducible refine gcl (f := 26) rfl ?_); refine goesL_ (some 19) rfl rfl Tryz.func26 (by kernel_rfl) rfl #[.slice A0_2 l0_2.length c0_2, .slice A1_2 l1_2.length c1_2] rfl qA ?_; (with_reducible refine (laws_eqColumnS.calls k _ _ l0_2 _ _ l1_2 true _ ?side1 ?side2 ?side3 ?side4 A5.out).mono ?_); (case side1 => exact qC HR0_2); (case side2 => exact HC0_2.out); (case side3 => exact qC HR1_2); (case side4 => exact HC1_2.out); rintro e w57 ⟨rfl, hb⟩; refine ⟨_, rfl, ?_⟩; replace BK334 := qbb BK334 hb; replace BK335 := qbb BK335 hb; replace HB := qHB HB hb; (try clear hb); (try clear hb2); (try clear hk); (try clear hi); have hz58 := qz8 BK334.out; have hz59 := qz8 BK335.out) | ((with_reducible refine gcl (f := 27) rfl ?_); refine goesL_ (some 25) rfl rfl Tryz.func27 (by kernel_rfl) rfl #[.slice A0_3 l0_3.length c0_3, .slice A1_3 l1_3.length c1_3] rfl qA ?_; (with_reducible refine (laws_eqValueS.calls k _ _ l0_3 _ _ l1_3 true _ ?side1 ?side2 ?side3 ?side4 A7.out).mono ?_); (case side1 => exact qC HR0_3); (case side2 => exact HC0_3.out); (case side3 => exact qC HR1_3); (case side4 => exact HC1_3.out); rintro e w60 ⟨rfl, hb⟩; refine ⟨_, rfl, ?_⟩; replace BK334 := qbb BK334 hb; replace BK335 := qbb BK335 hb; replace HB := qHB HB hb; (try clear hb); (try clear hb2); (try clear hk); (try clear hi); have hz61 := qz8 BK334.out; have hz62 := qz8 BK335.out) | ((with_reducible refine gcl (f := 28) rfl ?_); refine goesL_ (some 36) rfl rfl Tryz.func28 (by kernel_rfl) rfl #[.slice A0_5 l0_5.length c0_5, .slice A1_5 l1_5.length c1_5] rfl qA ?_; (with_reducible refine (laws_eqItemS.calls k _ _ l0_5 _ _ l1_5 true _ ?side1 ?side2 ?side3 ?side4 A10.out).mono ?_); (case side1 => exact qC HR0_5); (case side2 => exact HC0_5.out); (case side3 => exact qC HR1_5); (case side4 => exact HC1_5.out); rintro e w63 ⟨rfl, hb⟩; refine ⟨_, rfl, ?_⟩; replace BK334 := qbb BK334 hb; replace BK335 := qbb BK335 hb; replace HB := qHB HB hb; (try clear hb); (try clear hb2); (try clear hk); (try clear hi); have hz64 := qz8 BK334.out; have hz65 := qz8 BK335.out) | ((with_reducible refine gcl (f := 28) rfl ?_); refine goesL_ (some 42) rfl rfl Tryz.func28 (by kernel_rfl) rfl #[.slice A0_6 l0_6.length c0_6, .slice A1_6 l1_6.length c1_6] rfl qA ?_; (with_reducible refine (laws_eqItemS.calls k _ _ l0_6 _ _ l1_6 false _ ?side1 ?side2 ?side3 ?side4 A12.out).mono ?_); (case side1 => exact qC HR0_6); (case side2 => exact HC0_6.out); (case side3 => exact qC HR1_6); (case side4 => exact HC1_6.out); rintro e w66 ⟨rfl, hb⟩; refine ⟨_, rfl, ?_⟩; replace BK334 := qbb BK334 hb; replace BK335 := qbb BK335 hb; replace HB := qHB HB hb; (try clear hb); (try clear hb2); (try clear hk); (try clear hi))); go_ret; exact ⟨qR, qB⟩
            · replace c11 := Bool.eq_false_iff.mpr c11; subst c11; rw [if_neg qff] at H; obtain rfl := Option.some.inj H; go_enter Tryz.func8, Tryz.ntmps8; go_wp2_with (first | ((with_reducible refine gds (N := 2) rfl ?_); refine qbx 2 #[.int .i64 a0_0, .string a0_1, .slice A0_2 l0_2.length c0_2, .slice A0_3 l0_3.length c0_3, .string a0_4, .slice A0_5 l0_5.length c0_5, .slice A0_6 l0_6.length c0_6, .slice A0_7 l0_7.length c0_7] 35 ?_; intro gb334 hg w67 hbox hb; have BK334 := qK (hbox); have GW334 := qK ((qW : w.heap.size ≤ gb334)); have GE334 := GW334; replace HB := qHB HB hb; clear hb hbox hg) | ((with_reducible refine gds (N := 3) rfl ?_); refine qbx 3 #[.int .i64 a1_0, .string a1_1, .slice A1_2 l1_2.length c1_2, .slice A1_3 l1_3.length c1_3, .string a1_4, .slice A1_5 l1_5.length c1_5, .slice A1_6 l1_6.length c1_6, .slice A1_7 l1_7.length c1_7] 35 ?_; intro gb335 hg w68 hbox hb; have BK335 := qK (hbox); have GW335 := qK ((qW : w.heap.size ≤ gb335)); have GE335 := GW335; replace HB := qHB HB hb; have NB334_335 := qK (qlt BK334 hg); have NB335_334 := qK (qgt BK334 hg); replace BK334 := qbb BK334 hb; clear hb hbox hg; have hnb69 := NB334_335.out; have hnc69 := NB335_334.out; have hz70 := qz8 BK334.out; have hz71 := qz8 BK335.out) | ((with_reducible refine gcl (f := 26) rfl ?_); refine goesL_ (some 19) rfl rfl Tryz.func26 (by kernel_rfl) rfl #[.slice A0_2 l0_2.length c0_2, .slice A1_2 l1_2.length c1_2] rfl qA ?_; (with_reducible refine (laws_eqColumnS.calls k _ _ l0_2 _ _ l1_2 true _ ?side1 ?side2 ?side3 ?side4 A5.out).mono ?_); (case side1 => exact qC HR0_2); (case side2 => exact HC0_2.out); (case side3 => exact qC HR1_2); (case side4 => exact HC1_2.out); rintro e w72 ⟨rfl, hb⟩; refine ⟨_, rfl, ?_⟩; replace BK334 := qbb BK334 hb; replace BK335 := qbb BK335 hb; replace HB := qHB HB hb; (try clear hb); (try clear hb2); (try clear hk); (try clear hi); have hz73 := qz8 BK334.out; have hz74 := qz8 BK335.out) | ((with_reducible refine gcl (f := 27) rfl ?_); refine goesL_ (some 25) rfl rfl Tryz.func27 (by kernel_rfl) rfl #[.slice A0_3 l0_3.length c0_3, .slice A1_3 l1_3.length c1_3] rfl qA ?_; (with_reducible refine (laws_eqValueS.calls k _ _ l0_3 _ _ l1_3 true _ ?side1 ?side2 ?side3 ?side4 A7.out).mono ?_); (case side1 => exact qC HR0_3); (case side2 => exact HC0_3.out); (case side3 => exact qC HR1_3); (case side4 => exact HC1_3.out); rintro e w75 ⟨rfl, hb⟩; refine ⟨_, rfl, ?_⟩; replace BK334 := qbb BK334 hb; replace BK335 := qbb BK335 hb; replace HB := qHB HB hb; (try clear hb); (try clear hb2); (try clear hk); (try clear hi); have hz76 := qz8 BK334.out; have hz77 := qz8 BK335.out) | ((with_reducible refine gcl (f := 28) rfl ?_); refine goesL_ (some 36) rfl rfl Tryz.func28 (by kernel_rfl) rfl #[.slice A0_5 l0_5.length c0_5, .slice A1_5 l1_5.length c1_5] rfl qA ?_; (with_reducible refine (laws_eqItemS.calls k _ _ l0_5 _ _ l1_5 false _ ?side1 ?side2 ?side3 ?side4 A10.out).mono ?_); (case side1 => exact qC HR0_5); (case side2 => exact HC0_5.out); (case side3 => exact qC HR1_5); (case side4 => exact HC1_5.out); rintro e w78 ⟨rfl, hb⟩; refine ⟨_, rfl, ?_⟩; replace BK334 := qbb BK334 hb; replace BK335 := qbb BK335 hb; replace HB := qHB HB hb; (try clear hb); (try clear hb2); (try clear hk); (try clear hi))); go_ret; exact ⟨qR, qB⟩
          · rw [if_neg c9] at H; have c9b0 : (a0_4.toList == a1_4.toList) = false := beq_eq_false_iff_ne.mpr c9; have c9b1 : (a0_4.toList != a1_4.toList) = true := bne_iff_ne.mpr c9; obtain rfl := Option.some.inj H; go_enter Tryz.func8, Tryz.ntmps8; go_wp2_with (first | ((with_reducible refine gds (N := 2) rfl ?_); refine qbx 2 #[.int .i64 a0_0, .string a0_1, .slice A0_2 l0_2.length c0_2, .slice A0_3 l0_3.length c0_3, .string a0_4, .slice A0_5 l0_5.length c0_5, .slice A0_6 l0_6.length c0_6, .slice A0_7 l0_7.length c0_7] 35 ?_; intro gb334 hg w79 hbox hb; have BK334 := qK (hbox); have GW334 := qK ((qW : w.heap.size ≤ gb334)); have GE334 := GW334; replace HB := qHB HB hb; clear hb hbox hg) | ((with_reducible refine gds (N := 3) rfl ?_); refine qbx 3 #[.int .i64 a1_0, .string a1_1, .slice A1_2 l1_2.length c1_2, .slice A1_3 l1_3.length c1_3, .string a1_4, .slice A1_5 l1_5.length c1_5, .slice A1_6 l1_6.length c1_6, .slice A1_7 l1_7.length c1_7] 35 ?_; intro gb335 hg w80 hbox hb; have BK335 := qK (hbox); have GW335 := qK ((qW : w.heap.size ≤ gb335)); have GE335 := GW335; replace HB := qHB HB hb; have NB334_335 := qK (qlt BK334 hg); have NB335_334 := qK (qgt BK334 hg); replace BK334 := qbb BK334 hb; clear hb hbox hg; have hnb81 := NB334_335.out; have hnc81 := NB335_334.out; have hz82 := qz8 BK334.out; have hz83 := qz8 BK335.out) | ((with_reducible refine gcl (f := 26) rfl ?_); refine goesL_ (some 19) rfl rfl Tryz.func26 (by kernel_rfl) rfl #[.slice A0_2 l0_2.length c0_2, .slice A1_2 l1_2.length c1_2] rfl qA ?_; (with_reducible refine (laws_eqColumnS.calls k _ _ l0_2 _ _ l1_2 true _ ?side1 ?side2 ?side3 ?side4 A5.out).mono ?_); (case side1 => exact qC HR0_2); (case side2 => exact HC0_2.out); (case side3 => exact qC HR1_2); (case side4 => exact HC1_2.out); rintro e w84 ⟨rfl, hb⟩; refine ⟨_, rfl, ?_⟩; replace BK334 := qbb BK334 hb; replace BK335 := qbb BK335 hb; replace HB := qHB HB hb; (try clear hb); (try clear hb2); (try clear hk); (try clear hi); have hz85 := qz8 BK334.out; have hz86 := qz8 BK335.out) | ((with_reducible refine gcl (f := 27) rfl ?_); refine goesL_ (some 25) rfl rfl Tryz.func27 (by kernel_rfl) rfl #[.slice A0_3 l0_3.length c0_3, .slice A1_3 l1_3.length c1_3] rfl qA ?_; (with_reducible refine (laws_eqValueS.calls k _ _ l0_3 _ _ l1_3 true _ ?side1 ?side2 ?side3 ?side4 A7.out).mono ?_); (case side1 => exact qC HR0_3); (case side2 => exact HC0_3.out); (case side3 => exact qC HR1_3); (case side4 => exact HC1_3.out); rintro e w87 ⟨rfl, hb⟩; refine ⟨_, rfl, ?_⟩; replace BK334 := qbb BK334 hb; replace BK335 := qbb BK335 hb; replace HB := qHB HB hb; (try clear hb); (try clear hb2); (try clear hk); (try clear hi); have hz88 := qz8 BK334.out; have hz89 := qz8 BK335.out)); go_ret; exact ⟨qR, qB⟩
        · replace c8 := Bool.eq_false_iff.mpr c8; subst c8; rw [if_neg qff] at H; obtain rfl := Option.some.inj H; go_enter Tryz.func8, Tryz.ntmps8; go_wp2_with (first | ((with_reducible refine gds (N := 2) rfl ?_); refine qbx 2 #[.int .i64 a0_0, .string a0_1, .slice A0_2 l0_2.length c0_2, .slice A0_3 l0_3.length c0_3, .string a0_4, .slice A0_5 l0_5.length c0_5, .slice A0_6 l0_6.length c0_6, .slice A0_7 l0_7.length c0_7] 35 ?_; intro gb334 hg w90 hbox hb; have BK334 := qK (hbox); have GW334 := qK ((qW : w.heap.size ≤ gb334)); have GE334 := GW334; replace HB := qHB HB hb; clear hb hbox hg) | ((with_reducible refine gds (N := 3) rfl ?_); refine qbx 3 #[.int .i64 a1_0, .string a1_1, .slice A1_2 l1_2.length c1_2, .slice A1_3 l1_3.length c1_3, .string a1_4, .slice A1_5 l1_5.length c1_5, .slice A1_6 l1_6.length c1_6, .slice A1_7 l1_7.length c1_7] 35 ?_; intro gb335 hg w91 hbox hb; have BK335 := qK (hbox); have GW335 := qK ((qW : w.heap.size ≤ gb335)); have GE335 := GW335; replace HB := qHB HB hb; have NB334_335 := qK (qlt BK334 hg); have NB335_334 := qK (qgt BK334 hg); replace BK334 := qbb BK334 hb; clear hb hbox hg; have hnb92 := NB334_335.out; have hnc92 := NB335_334.out; have hz93 := qz8 BK334.out; have hz94 := qz8 BK335.out) | ((with_reducible refine gcl (f := 26) rfl ?_); refine goesL_ (some 19) rfl rfl Tryz.func26 (by kernel_rfl) rfl #[.slice A0_2 l0_2.length c0_2, .slice A1_2 l1_2.length c1_2] rfl qA ?_; (with_reducible refine (laws_eqColumnS.calls k _ _ l0_2 _ _ l1_2 true _ ?side1 ?side2 ?side3 ?side4 A5.out).mono ?_); (case side1 => exact qC HR0_2); (case side2 => exact HC0_2.out); (case side3 => exact qC HR1_2); (case side4 => exact HC1_2.out); rintro e w95 ⟨rfl, hb⟩; refine ⟨_, rfl, ?_⟩; replace BK334 := qbb BK334 hb; replace BK335 := qbb BK335 hb; replace HB := qHB HB hb; (try clear hb); (try clear hb2); (try clear hk); (try clear hi); have hz96 := qz8 BK334.out; have hz97 := qz8 BK335.out) | ((with_reducible refine gcl (f := 27) rfl ?_); refine goesL_ (some 25) rfl rfl Tryz.func27 (by kernel_rfl) rfl #[.slice A0_3 l0_3.length c0_3, .slice A1_3 l1_3.length c1_3] rfl qA ?_; (with_reducible refine (laws_eqValueS.calls k _ _ l0_3 _ _ l1_3 false _ ?side1 ?side2 ?side3 ?side4 A7.out).mono ?_); (case side1 => exact qC HR0_3); (case side2 => exact HC0_3.out); (case side3 => exact qC HR1_3); (case side4 => exact HC1_3.out); rintro e w98 ⟨rfl, hb⟩; refine ⟨_, rfl, ?_⟩; replace BK334 := qbb BK334 hb; replace BK335 := qbb BK335 hb; replace HB := qHB HB hb; (try clear hb); (try clear hb2); (try clear hk); (try clear hi))); go_ret; exact ⟨qR, qB⟩
      · replace c6 := Bool.eq_false_iff.mpr c6; subst c6; rw [if_neg qff] at H; obtain rfl := Option.some.inj H; go_enter Tryz.func8, Tryz.ntmps8; go_wp2_with (first | ((with_reducible refine gds (N := 2) rfl ?_); refine qbx 2 #[.int .i64 a0_0, .string a0_1, .slice A0_2 l0_2.length c0_2, .slice A0_3 l0_3.length c0_3, .string a0_4, .slice A0_5 l0_5.length c0_5, .slice A0_6 l0_6.length c0_6, .slice A0_7 l0_7.length c0_7] 35 ?_; intro gb334 hg w99 hbox hb; have BK334 := qK (hbox); have GW334 := qK ((qW : w.heap.size ≤ gb334)); have GE334 := GW334; replace HB := qHB HB hb; clear hb hbox hg) | ((with_reducible refine gds (N := 3) rfl ?_); refine qbx 3 #[.int .i64 a1_0, .string a1_1, .slice A1_2 l1_2.length c1_2, .slice A1_3 l1_3.length c1_3, .string a1_4, .slice A1_5 l1_5.length c1_5, .slice A1_6 l1_6.length c1_6, .slice A1_7 l1_7.length c1_7] 35 ?_; intro gb335 hg w100 hbox hb; have BK335 := qK (hbox); have GW335 := qK ((qW : w.heap.size ≤ gb335)); have GE335 := GW335; replace HB := qHB HB hb; have NB334_335 := qK (qlt BK334 hg); have NB335_334 := qK (qgt BK334 hg); replace BK334 := qbb BK334 hb; clear hb hbox hg; have hnb101 := NB334_335.out; have hnc101 := NB335_334.out; have hz102 := qz8 BK334.out; have hz103 := qz8 BK335.out) | ((with_reducible refine gcl (f := 26) rfl ?_); refine goesL_ (some 19) rfl rfl Tryz.func26 (by kernel_rfl) rfl #[.slice A0_2 l0_2.length c0_2, .slice A1_2 l1_2.length c1_2] rfl qA ?_; (with_reducible refine (laws_eqColumnS.calls k _ _ l0_2 _ _ l1_2 false _ ?side1 ?side2 ?side3 ?side4 A5.out).mono ?_); (case side1 => exact qC HR0_2); (case side2 => exact HC0_2.out); (case side3 => exact qC HR1_2); (case side4 => exact HC1_2.out); rintro e w104 ⟨rfl, hb⟩; refine ⟨_, rfl, ?_⟩; replace BK334 := qbb BK334 hb; replace BK335 := qbb BK335 hb; replace HB := qHB HB hb; (try clear hb); (try clear hb2); (try clear hk); (try clear hi))); go_ret; exact ⟨qR, qB⟩
    · rw [if_neg c4] at H; have c4b0 : (a0_1.toList == a1_1.toList) = false := beq_eq_false_iff_ne.mpr c4; have c4b1 : (a0_1.toList != a1_1.toList) = true := bne_iff_ne.mpr c4; obtain rfl := Option.some.inj H; go_enter Tryz.func8, Tryz.ntmps8; go_wp2_with (first | ((with_reducible refine gds (N := 2) rfl ?_); refine qbx 2 #[.int .i64 a0_0, .string a0_1, .slice A0_2 l0_2.length c0_2, .slice A0_3 l0_3.length c0_3, .string a0_4, .slice A0_5 l0_5.length c0_5, .slice A0_6 l0_6.length c0_6, .slice A0_7 l0_7.length c0_7] 35 ?_; intro gb334 hg w105 hbox hb; have BK334 := qK (hbox); have GW334 := qK ((qW : w.heap.size ≤ gb334)); have GE334 := GW334; replace HB := qHB HB hb; clear hb hbox hg) | ((with_reducible refine gds (N := 3) rfl ?_); refine qbx 3 #[.int .i64 a1_0, .string a1_1, .slice A1_2 l1_2.length c1_2, .slice A1_3 l1_3.length c1_3, .string a1_4, .slice A1_5 l1_5.length c1_5, .slice A1_6 l1_6.length c1_6, .slice A1_7 l1_7.length c1_7] 35 ?_; intro gb335 hg w106 hbox hb; have BK335 := qK (hbox); have GW335 := qK ((qW : w.heap.size ≤ gb335)); have GE335 := GW335; replace HB := qHB HB hb; have NB334_335 := qK (qlt BK334 hg); have NB335_334 := qK (qgt BK334 hg); replace BK334 := qbb BK334 hb; clear hb hbox hg; have hnb107 := NB334_335.out; have hnc107 := NB335_334.out; have hz108 := qz8 BK334.out; have hz109 := qz8 BK335.out)); go_ret; exact ⟨qR, qB⟩
  · rw [if_neg c3] at H; have c3b0 : (a0_0 == a1_0) = false := beq_eq_false_iff_ne.mpr c3; have c3b1 : (a0_0 != a1_0) = true := bne_iff_ne.mpr c3; obtain rfl := Option.some.inj H; go_enter Tryz.func8, Tryz.ntmps8; go_wp2_with (first | ((with_reducible refine gds (N := 2) rfl ?_); refine qbx 2 #[.int .i64 a0_0, .string a0_1, .slice A0_2 l0_2.length c0_2, .slice A0_3 l0_3.length c0_3, .string a0_4, .slice A0_5 l0_5.length c0_5, .slice A0_6 l0_6.length c0_6, .slice A0_7 l0_7.length c0_7] 35 ?_; intro gb334 hg w110 hbox hb; have BK334 := qK (hbox); have GW334 := qK ((qW : w.heap.size ≤ gb334)); have GE334 := GW334; replace HB := qHB HB hb; clear hb hbox hg) | ((with_reducible refine gds (N := 3) rfl ?_); refine qbx 3 #[.int .i64 a1_0, .string a1_1, .slice A1_2 l1_2.length c1_2, .slice A1_3 l1_3.length c1_3, .string a1_4, .slice A1_5 l1_5.length c1_5, .slice A1_6 l1_6.length c1_6, .slice A1_7 l1_7.length c1_7] 35 ?_; intro gb335 hg w111 hbox hb; have BK335 := qK (hbox); have GW335 := qK ((qW : w.heap.size ≤ gb335)); have GE335 := GW335; replace HB := qHB HB hb; have NB334_335 := qK (qlt BK334 hg); have NB335_334 := qK (qgt BK334 hg); replace BK334 := qbb BK334 hb; clear hb hbox hg; have hnb112 := NB334_335.out; have hnc112 := NB335_334.out; have hz113 := qz8 BK334.out; have hz114 := qz8 BK335.out)); go_ret; exact ⟨qR, qB⟩
def laws_FnExactPrintSql.f (k : Nat) (a0_0 : Int) (a0_1 : ByteArray) (l0_2 : List (S63)) (l0_3 : List (S65)) (a0_4 : ByteArray) (l0_5 : List (S68)) (l0_6 : List (S68)) (l0_7 : List (List (S68))) : Option (Bool) := (laws_szStm.f k a0_0 a0_1 l0_2 l0_3 a0_4 l0_5 l0_6 l0_7 1048576).bind fun t342 => (if t342 < 0 then (some true) else ((laws_toStm.f k a0_0 a0_1 l0_2 l0_3 a0_4 l0_5 l0_6 l0_7).bind fun bt343 => ((spec_PrintSql.f k bt343.1 bt343.2.1 bt343.2.2.1 bt343.2.2.2.1 bt343.2.2.2.2.1 bt343.2.2.2.2.2.1 bt343.2.2.2.2.2.2.1 bt343.2.2.2.2.2.2.2).bind fun t361 => ((laws_toStm.f k a0_0 a0_1 l0_2 l0_3 a0_4 l0_5 l0_6 l0_7).bind fun bt362 => ((impl_PrintSql.f k bt362.1 bt362.2.1 bt362.2.2.1 bt362.2.2.2.1 bt362.2.2.2.2.1 bt362.2.2.2.2.2.1 bt362.2.2.2.2.2.2.1 bt362.2.2.2.2.2.2.2).bind fun t381 => (if t381.toList = t361.toList then ((laws_toStm.f k a0_0 a0_1 l0_2 l0_3 a0_4 l0_5 l0_6 l0_7).bind fun bt382 => ((laws_eqStm.f k bt362.1 bt362.2.1 bt362.2.2.1 bt362.2.2.2.1 bt362.2.2.2.2.1 bt362.2.2.2.2.2.1 bt362.2.2.2.2.2.2.1 bt362.2.2.2.2.2.2.2 bt382.1 bt382.2.1 bt382.2.2.1 bt382.2.2.2.1 bt382.2.2.2.2.1 bt382.2.2.2.2.2.1 bt382.2.2.2.2.2.2.1 bt382.2.2.2.2.2.2.2).bind fun t400 => (if t400 = true then (some true) else (some false)))) else (some false)))))))
theorem laws_FnExactPrintSql.mono : ∀ a0 a1 a2 a3 a4 a5 a6 a7 k, LeO (laws_FnExactPrintSql.f k a0 a1 a2 a3 a4 a5 a6 a7) (laws_FnExactPrintSql.f (k + 1) a0 a1 a2 a3 a4 a5 a6 a7) := by
  intro a0 a1 a2 a3 a4 a5 a6 a7 k
  unfold laws_FnExactPrintSql.f
  repeat' first
      | (with_reducible exact impl_PrintSql.mono _ _ _ _ _ _ _ _ _)
      | (with_reducible exact laws_eqStm.mono _ _ _ _ _ _ _ _ _ _ _ _ _ _ _ _ _)
      | (with_reducible exact laws_szStm.mono _ _ _ _ _ _ _ _ _ _)
      | (with_reducible exact laws_toStm.mono _ _ _ _ _ _ _ _ _)
      | (with_reducible exact spec_PrintSql.mono _ _ _ _ _ _ _ _ _)
      | (with_reducible exact LeO.refl _)
      | (with_reducible exact LeO.none _)
      | (with_reducible refine LeO.ite ?_ ?_)
      | (with_reducible refine LeO.bind ?_ (fun _ => ?_))
      | exact impl_PrintSql.mono _ _ _ _ _ _ _ _ _
      | exact laws_eqStm.mono _ _ _ _ _ _ _ _ _ _ _ _ _ _ _ _ _
      | exact laws_szStm.mono _ _ _ _ _ _ _ _ _ _
      | exact laws_toStm.mono _ _ _ _ _ _ _ _ _
      | exact spec_PrintSql.mono _ _ _ _ _ _ _ _ _
      | exact LeO.none _
      | refine LeO.ite ?_ ?_
      | refine LeO.bind ?_ (fun _ => ?_)
set_option maxHeartbeats 8000000 in
set_option maxRecDepth 100000 in
theorem laws_FnExactPrintSql.calls (k : Nat) (a0_0 : Int) (a0_1 : ByteArray) (A0_2 : Option Addr) (c0_2 : Nat) (l0_2 : List (S63)) (A0_3 : Option Addr) (c0_3 : Nat) (l0_3 : List (S65)) (a0_4 : ByteArray) (A0_5 : Option Addr) (c0_5 : Nat) (l0_5 : List (S68)) (A0_6 : Option Addr) (c0_6 : Nat) (l0_6 : List (S68)) (A0_7 : Option Addr) (c0_7 : Nat) (l0_7 : List (List (S68))) (r : Bool) (hT : r = true) (w : World) (hG : GOK w) (hr0_2 : Kd.C k63 w A0_2 l0_2.length l0_2) (hc0_2 : l0_2.length ≤ c0_2) (hr0_3 : Kd.C k65 w A0_3 l0_3.length l0_3) (hc0_3 : l0_3.length ≤ c0_3) (hr0_5 : Kd.C k68 w A0_5 l0_5.length l0_5) (hc0_5 : l0_5.length ≤ c0_5) (hr0_6 : Kd.C k68 w A0_6 l0_6.length l0_6) (hc0_6 : l0_6.length ≤ c0_6) (hr0_7 : Kd.C (Kd.slice 68 k68) w A0_7 l0_7.length l0_7) (hc0_7 : l0_7.length ≤ c0_7) (h : laws_FnExactPrintSql.f k a0_0 a0_1 l0_2 l0_3 a0_4 l0_5 l0_6 l0_7 = some r) :
    Calls Tryz.prog 3 #[.agg #[.int .i64 a0_0, .string a0_1, .slice A0_2 l0_2.length c0_2, .slice A0_3 l0_3.length c0_3, .string a0_4, .slice A0_5 l0_5.length c0_5, .slice A0_6 l0_6.length c0_6, .slice A0_7 l0_7.length c0_7]] w fun e w' => e = .returned (.bool r) ∧ Below w.heap.size w w' := by
  have hu27 := Tryz.underlying27; have hu35 := Tryz.underlying35; have HR0_2 := qK hr0_2; have HC0_2 := qK hc0_2; clear hr0_2 hc0_2; have HR0_3 := qK hr0_3; have HC0_3 := qK hc0_3; clear hr0_3 hc0_3; have HR0_5 := qK hr0_5; have HC0_5 := qK hc0_5; clear hr0_5 hc0_5; have HR0_6 := qK hr0_6; have HC0_6 := qK hc0_6; clear hr0_6 hc0_6; have HR0_7 := qK hr0_7; have HC0_7 := qK hc0_7; clear hr0_7 hc0_7; have HB := qK (Below.refl w.heap.size w); have H : ((laws_szStm.f k a0_0 a0_1 l0_2 l0_3 a0_4 l0_5 l0_6 l0_7 1048576).bind fun t342 => (if t342 < 0 then (some true) else ((laws_toStm.f k a0_0 a0_1 l0_2 l0_3 a0_4 l0_5 l0_6 l0_7).bind fun bt343 => ((spec_PrintSql.f k bt343.1 bt343.2.1 bt343.2.2.1 bt343.2.2.2.1 bt343.2.2.2.2.1 bt343.2.2.2.2.2.1 bt343.2.2.2.2.2.2.1 bt343.2.2.2.2.2.2.2).bind fun t361 => ((laws_toStm.f k a0_0 a0_1 l0_2 l0_3 a0_4 l0_5 l0_6 l0_7).bind fun bt362 => ((impl_PrintSql.f k bt362.1 bt362.2.1 bt362.2.2.1 bt362.2.2.2.1 bt362.2.2.2.2.1 bt362.2.2.2.2.2.1 bt362.2.2.2.2.2.2.1 bt362.2.2.2.2.2.2.2).bind fun t381 => (if t381.toList = t361.toList then ((laws_toStm.f k a0_0 a0_1 l0_2 l0_3 a0_4 l0_5 l0_6 l0_7).bind fun bt382 => ((laws_eqStm.f k bt362.1 bt362.2.1 bt362.2.2.1 bt362.2.2.2.1 bt362.2.2.2.2.1 bt362.2.2.2.2.2.1 bt362.2.2.2.2.2.2.1 bt362.2.2.2.2.2.2.2 bt382.1 bt382.2.1 bt382.2.2.1 bt382.2.2.2.1 bt382.2.2.2.2.1 bt382.2.2.2.2.2.1 bt382.2.2.2.2.2.2.1 bt382.2.2.2.2.2.2.2).bind fun t400 => (if t400 = true then (some true) else (some false)))) else (some false)))))))) = some r := h; clear h; replace H := Option.bind_eq_some_iff.mp H; obtain ⟨t342, A20, H⟩ := H; have A2 := qK A20; clear A20; by_cases c3 : t342 < 0
  · rw [if_pos c3] at H; have c3b0 : decide (t342 < 0) = true := decide_eq_true c3; clear c3; obtain rfl := Option.some.inj H; go_enter Tryz.func3, Tryz.ntmps3; go_wp2_with (first | ((with_reducible refine gds (N := 1) rfl ?_); refine qbx 1 #[.int .i64 a0_0, .string a0_1, .slice A0_2 l0_2.length c0_2, .slice A0_3 l0_3.length c0_3, .string a0_4, .slice A0_5 l0_5.length c0_5, .slice A0_6 l0_6.length c0_6, .slice A0_7 l0_7.length c0_7] 27 ?_; intro gb341 hg w4 hbox hb; have BK341 := qK (hbox); have GW341 := qK ((qW : w.heap.size ≤ gb341)); have GE341 := GW341; replace HB := qHB HB hb; clear hb hbox hg; have hz5 := qz8 BK341.out) | ((with_reducible refine gcl (f := 4) rfl ?_); refine goesL_ (some 9) rfl rfl Tryz.func4 (by kernel_rfl) rfl #[.agg #[.int .i64 a0_0, .string a0_1, .slice A0_2 l0_2.length c0_2, .slice A0_3 l0_3.length c0_3, .string a0_4, .slice A0_5 l0_5.length c0_5, .slice A0_6 l0_6.length c0_6, .slice A0_7 l0_7.length c0_7], .int .i64 1048576] rfl qA ?_; (with_reducible refine (laws_szStm.calls k a0_0 a0_1 _ _ l0_2 _ _ l0_3 a0_4 _ _ l0_5 _ _ l0_6 _ _ l0_7 1048576 t342 _ ?side1 ?side2 ?side3 ?side4 ?side5 ?side6 ?side7 ?side8 ?side9 ?side10 A2.out).mono ?_); (case side1 => exact qC HR0_2); (case side2 => exact HC0_2.out); (case side3 => exact qC HR0_3); (case side4 => exact HC0_3.out); (case side5 => exact qC HR0_5); (case side6 => exact HC0_5.out); (case side7 => exact qC HR0_6); (case side8 => exact HC0_6.out); (case side9 => exact qC HR0_7); (case side10 => exact HC0_7.out); rintro e w6 ⟨rfl, hb⟩; refine ⟨_, rfl, ?_⟩; replace BK341 := qbb BK341 hb; replace HB := qHB HB hb; (try clear hb); (try clear hb2); (try clear hk); (try clear hi))); go_ret; exact ⟨qR, qB⟩
  · rw [if_neg c3] at H; have c3b0 : decide (t342 < 0) = false := decide_eq_false c3; clear c3; replace H := Option.bind_eq_some_iff.mp H; obtain ⟨⟨t343, t344, t345, t348, t351, t352, t355, t358⟩, A70, H⟩ := H; have A7 := qK A70; clear A70; replace H := Option.bind_eq_some_iff.mp H; obtain ⟨t361, A80, H⟩ := H; have A8 := qK A80; clear A80; replace H := Option.bind_eq_some_iff.mp H; obtain ⟨⟨t362, t363, t364, t367, t370, t371, t374, t377⟩, A90, H⟩ := H; have A9 := qK A90; clear A90; replace H := Option.bind_eq_some_iff.mp H; obtain ⟨t381, A100, H⟩ := H; have A10 := qK A100; clear A100; by_cases c11 : t381.toList = t361.toList
    · rw [if_pos c11] at H; have c11b0 : (t381.toList == t361.toList) = true := beq_iff_eq.mpr c11; have c11b1 : (t381.toList != t361.toList) = false := bne_eq_false_iff_eq.mpr c11; clear c11; replace H := Option.bind_eq_some_iff.mp H; obtain ⟨⟨t382, t383, t384, t387, t390, t391, t394, t397⟩, A120, H⟩ := H; have A12 := qK A120; clear A120; replace H := Option.bind_eq_some_iff.mp H; obtain ⟨t400, A130, H⟩ := H; have A13 := qK A130; clear A130; by_cases c14 : t400 = true
      · subst c14; rw [if_pos rfl] at H; obtain rfl := Option.some.inj H; go_enter Tryz.func3, Tryz.ntmps3; (try go_wp2_with (first | ((with_reducible refine gds (N := 1) rfl ?_); refine qbx 1 #[.int .i64 a0_0, .string a0_1, .slice A0_2 l0_2.length c0_2, .slice A0_3 l0_3.length c0_3, .string a0_4, .slice A0_5 l0_5.length c0_5, .slice A0_6 l0_6.length c0_6, .slice A0_7 l0_7.length c0_7] 27 ?_; intro gb341 hg w15 hbox hb; have BK341 := qK (hbox); have GW341 := qK ((qW : w.heap.size ≤ gb341)); have GE341 := GW341; replace HB := qHB HB hb; clear hb hbox hg; have hz16 := qz8 BK341.out) | ((with_reducible refine gcl (f := 4) rfl ?_); refine goesL_ (some 9) rfl rfl Tryz.func4 (by kernel_rfl) rfl #[.agg #[.int .i64 a0_0, .string a0_1, .slice A0_2 l0_2.length c0_2, .slice A0_3 l0_3.length c0_3, .string a0_4, .slice A0_5 l0_5.length c0_5, .slice A0_6 l0_6.length c0_6, .slice A0_7 l0_7.length c0_7], .int .i64 1048576] rfl qA ?_; (with_reducible refine (laws_szStm.calls k a0_0 a0_1 _ _ l0_2 _ _ l0_3 a0_4 _ _ l0_5 _ _ l0_6 _ _ l0_7 1048576 t342 _ ?side1 ?side2 ?side3 ?side4 ?side5 ?side6 ?side7 ?side8 ?side9 ?side10 A2.out).mono ?_); (case side1 => exact qC HR0_2); (case side2 => exact HC0_2.out); (case side3 => exact qC HR0_3); (case side4 => exact HC0_3.out); (case side5 => exact qC HR0_5); (case side6 => exact HC0_5.out); (case side7 => exact qC HR0_6); (case side8 => exact HC0_6.out); (case side9 => exact qC HR0_7); (case side10 => exact HC0_7.out); rintro e w17 ⟨rfl, hb⟩; refine ⟨_, rfl, ?_⟩; replace BK341 := qbb BK341 hb; replace HB := qHB HB hb; (try clear hb); (try clear hb2); (try clear hk); (try clear hi); have hz18 := qz8 BK341.out) | ((with_reducible refine gcl (f := 6) rfl ?_); refine goesL_ (some 13) rfl rfl Tryz.func6 (by kernel_rfl) rfl #[.agg #[.int .i64 a0_0, .string a0_1, .slice A0_2 l0_2.length c0_2, .slice A0_3 l0_3.length c0_3, .string a0_4, .slice A0_5 l0_5.length c0_5, .slice A0_6 l0_6.length c0_6, .slice A0_7 l0_7.length c0_7]] rfl qA ?_; (with_reducible refine (laws_toStm.calls k a0_0 a0_1 _ _ l0_2 _ _ l0_3 a0_4 _ _ l0_5 _ _ l0_6 _ _ l0_7 t343 t344 t345 t348 t351 t352 t355 t358 _ ?side1 ?side2 ?side3 ?side4 ?side5 ?side6 ?side7 ?side8 ?side9 ?side10 A7.out).mono ?_); (case side1 => exact qC HR0_2); (case side2 => exact HC0_2.out); (case side3 => exact qC HR0_3); (case side4 => exact HC0_3.out); (case side5 => exact qC HR0_5); (case side6 => exact HC0_5.out); (case side7 => exact qC HR0_6); (case side8 => exact HC0_6.out); (case side9 => exact qC HR0_7); (case side10 => exact HC0_7.out); rintro e w19 ⟨v346, v349, v353, v356, v359, rfl, ho0, ho1, ho2, ho3, ho4, hb⟩; refine ⟨_, rfl, ?_⟩; have HO347 := qK (Kd.Rlo ho0 (bsz qB)); have HO350 := qK (Kd.Rlo ho1 (bsz qB)); have HO354 := qK (Kd.Rlo ho2 (bsz qB)); have HO357 := qK (Kd.Rlo ho3 (bsz qB)); have HO360 := qK (Kd.S_lower ho4 (bsz qB)); replace BK341 := qbb BK341 hb; replace HB := qHB HB hb; (try clear hb); (try clear hb2); (try clear hk); (try clear hi); (try clear ho0); (try clear ho1); (try clear ho2); (try clear ho3); (try clear ho4); obtain ⟨Ao20, co20, eo20⟩ := Kd.R_slice HO347.out; subst eo20; obtain ⟨Ao21, co21, eo21⟩ := Kd.R_slice HO350.out; subst eo21; obtain ⟨Ao22, co22, eo22⟩ := Kd.R_slice HO354.out; subst eo22; obtain ⟨Ao23, co23, eo23⟩ := Kd.R_slice HO357.out; subst eo23; obtain ⟨Ao24, co24, eo24⟩ := Kd.S_slice HO360.out; subst eo24) | ((with_reducible refine gcl (f := 5) rfl ?_); refine goesL_ (some 14) rfl rfl Tryz.func5 (by kernel_rfl) rfl #[.agg #[.int .i64 t343, .string t344, .slice Ao20 t345.length co20, .slice Ao21 t348.length co21, .string t351, .slice Ao22 t352.length co22, .slice Ao23 t355.length co23, .slice Ao24 t358.length co24]] rfl qA ?_; (with_reducible refine (spec_PrintSql.calls k t343 t344 _ _ t345 _ _ t348 t351 _ _ t352 _ _ t355 _ _ t358 t361 _ ?side1 ?side2 ?side3 ?side4 ?side5 ?side6 ?side7 ?side8 ?side9 ?side10 A8.out).mono ?_); (case side1 => repeat (first | exact (Kd.R_reads' HO347.out).2.2 | (with_reducible refine Kd.Cal ?_ _) | (with_reducible refine Kd.CdN ?_ _) | (with_reducible refine Kd.Cdr ?_))); (case side2 => exact (Kd.R_reads' HO347.out).2.1); (case side3 => repeat (first | exact (Kd.R_reads' HO350.out).2.2 | (with_reducible refine Kd.Cal ?_ _) | (with_reducible refine Kd.CdN ?_ _) | (with_reducible refine Kd.Cdr ?_))); (case side4 => exact (Kd.R_reads' HO350.out).2.1); (case side5 => repeat (first | exact (Kd.R_reads' HO354.out).2.2 | (with_reducible refine Kd.Cal ?_ _) | (with_reducible refine Kd.CdN ?_ _) | (with_reducible refine Kd.Cdr ?_))); (case side6 => exact (Kd.R_reads' HO354.out).2.1); (case side7 => repeat (first | exact (Kd.R_reads' HO357.out).2.2 | (with_reducible refine Kd.Cal ?_ _) | (with_reducible refine Kd.CdN ?_ _) | (with_reducible refine Kd.Cdr ?_))); (case side8 => exact (Kd.R_reads' HO357.out).2.1); (case side9 => repeat (first | exact (Kd.S_reads' HO360.out).2.2 | (with_reducible refine Kd.Cal ?_ _) | (with_reducible refine Kd.CdN ?_ _) | (with_reducible refine Kd.Cdr ?_))); (case side10 => exact (Kd.S_reads' HO360.out).2.1); rintro e w25 ⟨rfl, hb⟩; refine ⟨_, rfl, ?_⟩; replace HO347 := qK (Kd.Rbe (qRb HO347) hb); replace HO350 := qK (Kd.Rbe (qRb HO350) hb); replace HO354 := qK (Kd.Rbe (qRb HO354) hb); replace HO357 := qK (Kd.Rbe (qRb HO357) hb); replace HO360 := qK (Kd.Sbe (qSb HO360) hb); replace BK341 := qbb BK341 hb; replace HB := qHB HB hb; (try clear hb); (try clear hb2); (try clear hk); (try clear hi); have hz26 := qz8 BK341.out) | ((with_reducible refine gcl (f := 6) rfl ?_); refine goesL_ (some 16) rfl rfl Tryz.func6 (by kernel_rfl) rfl #[.agg #[.int .i64 a0_0, .string a0_1, .slice A0_2 l0_2.length c0_2, .slice A0_3 l0_3.length c0_3, .string a0_4, .slice A0_5 l0_5.length c0_5, .slice A0_6 l0_6.length c0_6, .slice A0_7 l0_7.length c0_7]] rfl qA ?_; (with_reducible refine (laws_toStm.calls k a0_0 a0_1 _ _ l0_2 _ _ l0_3 a0_4 _ _ l0_5 _ _ l0_6 _ _ l0_7 t362 t363 t364 t367 t370 t371 t374 t377 _ ?side1 ?side2 ?side3 ?side4 ?side5 ?side6 ?side7 ?side8 ?side9 ?side10 A9.out).mono ?_); (case side1 => exact qC HR0_2); (case side2 => exact HC0_2.out); (case side3 => exact qC HR0_3); (case side4 => exact HC0_3.out); (case side5 => exact qC HR0_5); (case side6 => exact HC0_5.out); (case side7 => exact qC HR0_6); (case side8 => exact HC0_6.out); (case side9 => exact qC HR0_7); (case side10 => exact HC0_7.out); rintro e w27 ⟨v365, v368, v372, v375, v378, rfl, ho0, ho1, ho2, ho3, ho4, hb⟩; refine ⟨_, rfl, ?_⟩; have HO366 := qK (Kd.Rlo (Kd.R_new' ho0 (Kd.R_lt (qRb HO347))) (bsz qB)); replace HO347 := qK (Kd.R_elder' (qRb HO347) (Kd.R_base ho0) hb); have HO369 := qK (Kd.Rlo (Kd.R_new' ho1 (Kd.R_lt (qRb HO350))) (bsz qB)); replace HO350 := qK (Kd.R_elder' (qRb HO350) (Kd.R_base ho1) hb); have HO373 := qK (Kd.Rlo (Kd.R_new' (Kd.R_new' ho2 (Kd.R_lt (qRb HO354))) (Kd.R_lt (qRb HO357))) (bsz qB)); have HO376 := qK (Kd.Rlo (Kd.R_new' (Kd.R_new' ho3 (Kd.R_lt (qRb HO354))) (Kd.R_lt (qRb HO357))) (bsz qB)); have HO379 := qK (Kd.S_lower (Kd.S_new' (Kd.S_new' (Kd.S_new' ho4 (Kd.R_lt (qRb HO354))) (Kd.R_lt (qRb HO357))) (Kd.S_lt (qSb HO360))) (bsz qB)); replace HO354 := qK (Kd.Rmo (Kd.R_told (Kd.R_told (Kd.R_old (qRb HO354) hb) (Kd.R_base ho2)) (Kd.R_base ho3)) (fun _ h_ => h_.1)); replace HO357 := qK (Kd.Rmo (Kd.R_told (Kd.R_told (Kd.R_old (qRb HO357) hb) (Kd.R_base ho2)) (Kd.R_base ho3)) (fun _ h_ => h_.1)); replace HO360 := qK (Kd.Smo (Kd.S_told (Kd.S_told (Kd.S_told (Kd.S_old (qSb HO360) hb) (Kd.R_base ho2)) (Kd.R_base ho3)) (Kd.S_base ho4)) (fun _ h_ => h_.1)); replace BK341 := qbb BK341 hb; replace HB := qHB HB hb; (try clear hb); (try clear hb2); (try clear hk); (try clear hi); (try clear ho0); (try clear ho1); (try clear ho2); (try clear ho3); (try clear ho4)) | ((with_reducible refine gds (N := 5) rfl ?_); refine qbx 5 #[.int .i64 0, .string (⟨#[]⟩ : ByteArray), .slice none 0 0, .slice none 0 0, .string (⟨#[]⟩ : ByteArray), .slice none 0 0, .slice none 0 0, .slice none 0 0] 35 ?_; intro gb380 hg w28 hbox hb; replace HO347 := qK (Kd.Rbe (qRb HO347) hb); replace HO350 := qK (Kd.Rbe (qRb HO350) hb); replace HO354 := qK (Kd.Rbe (qRb HO354) hb); replace HO357 := qK (Kd.Rbe (qRb HO357) hb); replace HO360 := qK (Kd.Sbe (qSb HO360) hb); replace HO366 := qK (Kd.Rbe (qRb HO366) hb); replace HO369 := qK (Kd.Rbe (qRb HO369) hb); replace HO373 := qK (Kd.Rbe (qRb HO373) hb); replace HO376 := qK (Kd.Rbe (qRb HO376) hb); replace HO379 := qK (Kd.Sbe (qSb HO379) hb); have BK380 := qK (hbox); have GW380 := qK ((qW : w.heap.size ≤ gb380)); have GE380 := GW380; replace HB := qHB HB hb; have NB341_380 := qK (qlt BK341 hg); have NB380_341 := qK (qgt BK341 hg); replace BK341 := qbb BK341 hb; clear hb hbox hg; have hnb29 := NB380_341.out; have hnc29 := NB341_380.out; have hz30 := qz8 BK380.out; obtain ⟨Ao31, co31, eo31⟩ := Kd.R_slice HO366.out; subst eo31; obtain ⟨Ao32, co32, eo32⟩ := Kd.R_slice HO369.out; subst eo32; obtain ⟨Ao33, co33, eo33⟩ := Kd.R_slice HO373.out; subst eo33; obtain ⟨Ao34, co34, eo34⟩ := Kd.R_slice HO376.out; subst eo34; obtain ⟨Ao35, co35, eo35⟩ := Kd.S_slice HO379.out; subst eo35) | ((with_reducible refine gcl (f := 7) rfl ?_); refine goesL_ (some 18) rfl rfl Tryz.func7 (by kernel_rfl) rfl #[.agg #[.int .i64 t362, .string t363, .slice Ao31 t364.length co31, .slice Ao32 t367.length co32, .string t370, .slice Ao33 t371.length co33, .slice Ao34 t374.length co34, .slice Ao35 t377.length co35]] rfl qA ?_; (with_reducible refine (impl_PrintSql.calls k t362 t363 _ _ t364 _ _ t367 t370 _ _ t371 _ _ t374 _ _ t377 t381 _ ?side1 ?side2 ?side3 ?side4 ?side5 ?side6 ?side7 ?side8 ?side9 ?side10 ?side11 A10.out).mono ?_); (case side1 => exact GOK.below hG qB); (case side2 => refine (Kd.R_reads' (e := 46) (base := w.heap.size) (ok := fun k_ => (True ∧ some k_ ≠ (.slice Ao20 t345.length co20 : Value).ownBlock)) (n := t364.length) (c := co31) ?_).2.2; exact (by (with_reducible repeat (first | apply Kd.Ral | apply Kd.RdN | apply Kd.Rdr)); exact (Kd.Rmo (Kd.Rfa (p := ⟨gb380, 7, none⟩) (Kd.Rfa (p := ⟨gb380, 6, none⟩) (Kd.Rfa (p := ⟨gb380, 5, none⟩) (Kd.Rfa (p := ⟨gb380, 4, none⟩) (Kd.Rfa (p := ⟨gb380, 3, none⟩) (Kd.Rfa (p := ⟨gb380, 2, none⟩) (Kd.Rfa (p := ⟨gb380, 1, none⟩) (Kd.Rfa (p := ⟨gb380, 0, none⟩) (Kd.Rty HO366.out BK380.out (by decide)) (fun _ hk => hk.2) (.int .i64 t362)) (fun _ hk => hk.2) (.string t363)) (fun _ hk => hk.2) (.slice Ao31 t364.length co31)) (fun _ hk => hk.2) (.slice Ao32 t367.length co32)) (fun _ hk => hk.2) (.string t370)) (fun _ hk => hk.2) (.slice Ao33 t371.length co33)) (fun _ hk => hk.2) (.slice Ao34 t374.length co34)) (fun _ hk => hk.2) (.slice Ao35 t377.length co35)) (fun _ h_ => h_.1)))); (case side3 => exact (Kd.R_reads' HO366.out).2.1); (case side4 => refine (Kd.R_reads' (e := 49) (base := w.heap.size) (ok := fun k_ => (True ∧ some k_ ≠ (.slice Ao21 t348.length co21 : Value).ownBlock)) (n := t367.length) (c := co32) ?_).2.2; exact (by (with_reducible repeat (first | apply Kd.Ral | apply Kd.RdN | apply Kd.Rdr)); exact (Kd.Rmo (Kd.Rfa (p := ⟨gb380, 7, none⟩) (Kd.Rfa (p := ⟨gb380, 6, none⟩) (Kd.Rfa (p := ⟨gb380, 5, none⟩) (Kd.Rfa (p := ⟨gb380, 4, none⟩) (Kd.Rfa (p := ⟨gb380, 3, none⟩) (Kd.Rfa (p := ⟨gb380, 2, none⟩) (Kd.Rfa (p := ⟨gb380, 1, none⟩) (Kd.Rfa (p := ⟨gb380, 0, none⟩) (Kd.Rty HO369.out BK380.out (by decide)) (fun _ hk => hk.2) (.int .i64 t362)) (fun _ hk => hk.2) (.string t363)) (fun _ hk => hk.2) (.slice Ao31 t364.length co31)) (fun _ hk => hk.2) (.slice Ao32 t367.length co32)) (fun _ hk => hk.2) (.string t370)) (fun _ hk => hk.2) (.slice Ao33 t371.length co33)) (fun _ hk => hk.2) (.slice Ao34 t374.length co34)) (fun _ hk => hk.2) (.slice Ao35 t377.length co35)) (fun _ h_ => h_.1)))); (case side5 => exact (Kd.R_reads' HO369.out).2.1); (case side6 => refine (Kd.R_reads' (e := 75) (base := w.heap.size) (ok := fun k_ => ((some k_ ≠ (.slice Ao34 t374.length co34 : Value).ownBlock ∧ some k_ ≠ (.slice Ao22 t352.length co22 : Value).ownBlock) ∧ some k_ ≠ (.slice Ao23 t355.length co23 : Value).ownBlock)) (n := t371.length) (c := co33) ?_).2.2; exact (by (with_reducible repeat (first | apply Kd.Ral | apply Kd.RdN | apply Kd.Rdr)); exact (Kd.Rmo (Kd.Rfa (p := ⟨gb380, 7, none⟩) (Kd.Rfa (p := ⟨gb380, 6, none⟩) (Kd.Rfa (p := ⟨gb380, 5, none⟩) (Kd.Rfa (p := ⟨gb380, 4, none⟩) (Kd.Rfa (p := ⟨gb380, 3, none⟩) (Kd.Rfa (p := ⟨gb380, 2, none⟩) (Kd.Rfa (p := ⟨gb380, 1, none⟩) (Kd.Rfa (p := ⟨gb380, 0, none⟩) (Kd.Rty HO373.out BK380.out (by decide)) (fun _ hk => hk.2) (.int .i64 t362)) (fun _ hk => hk.2) (.string t363)) (fun _ hk => hk.2) (.slice Ao31 t364.length co31)) (fun _ hk => hk.2) (.slice Ao32 t367.length co32)) (fun _ hk => hk.2) (.string t370)) (fun _ hk => hk.2) (.slice Ao33 t371.length co33)) (fun _ hk => hk.2) (.slice Ao34 t374.length co34)) (fun _ hk => hk.2) (.slice Ao35 t377.length co35)) (fun _ h_ => h_.1)))); (case side7 => exact (Kd.R_reads' HO373.out).2.1); (case side8 => refine (Kd.R_reads' (e := 75) (base := w.heap.size) (ok := fun k_ => ((some k_ ≠ (.slice Ao33 t371.length co33 : Value).ownBlock ∧ some k_ ≠ (.slice Ao22 t352.length co22 : Value).ownBlock) ∧ some k_ ≠ (.slice Ao23 t355.length co23 : Value).ownBlock)) (n := t374.length) (c := co34) ?_).2.2; exact (by (with_reducible repeat (first | apply Kd.Ral | apply Kd.RdN | apply Kd.Rdr)); exact (Kd.Rmo (Kd.Rfa (p := ⟨gb380, 7, none⟩) (Kd.Rfa (p := ⟨gb380, 6, none⟩) (Kd.Rfa (p := ⟨gb380, 5, none⟩) (Kd.Rfa (p := ⟨gb380, 4, none⟩) (Kd.Rfa (p := ⟨gb380, 3, none⟩) (Kd.Rfa (p := ⟨gb380, 2, none⟩) (Kd.Rfa (p := ⟨gb380, 1, none⟩) (Kd.Rfa (p := ⟨gb380, 0, none⟩) (Kd.Rty HO376.out BK380.out (by decide)) (fun _ hk => hk.2) (.int .i64 t362)) (fun _ hk => hk.2) (.string t363)) (fun _ hk => hk.2) (.slice Ao31 t364.length co31)) (fun _ hk => hk.2) (.slice Ao32 t367.length co32)) (fun _ hk => hk.2) (.string t370)) (fun _ hk => hk.2) (.slice Ao33 t371.length co33)) (fun _ hk => hk.2) (.slice Ao34 t374.length co34)) (fun _ hk => hk.2) (.slice Ao35 t377.length co35)) (fun _ h_ => h_.1)))); (case side9 => exact (Kd.R_reads' HO376.out).2.1); (case side10 => refine (Kd.S_reads' (e := 32) (base := w.heap.size) (ok := fun k_ => ((((some k_ ≠ (.slice Ao33 t371.length co33 : Value).ownBlock ∧ some k_ ≠ (.slice Ao34 t374.length co34 : Value).ownBlock) ∧ some k_ ≠ (.slice Ao22 t352.length co22 : Value).ownBlock) ∧ some k_ ≠ (.slice Ao23 t355.length co23 : Value).ownBlock) ∧ some k_ ≠ (.slice Ao24 t358.length co24 : Value).ownBlock)) (n := t377.length) (c := co35) ?_).2.2; exact (by (with_reducible repeat (first | apply Kd.Sal | apply Kd.SdN | apply Kd.Sdr)); exact (Kd.Smo (Kd.Sfa (p := ⟨gb380, 7, none⟩) (Kd.Sfa (p := ⟨gb380, 6, none⟩) (Kd.Sfa (p := ⟨gb380, 5, none⟩) (Kd.Sfa (p := ⟨gb380, 4, none⟩) (Kd.Sfa (p := ⟨gb380, 3, none⟩) (Kd.Sfa (p := ⟨gb380, 2, none⟩) (Kd.Sfa (p := ⟨gb380, 1, none⟩) (Kd.Sfa (p := ⟨gb380, 0, none⟩) (Kd.Sty HO379.out BK380.out (by decide)) (fun _ hk => hk.2) (.int .i64 t362)) (fun _ hk => hk.2) (.string t363)) (fun _ hk => hk.2) (.slice Ao31 t364.length co31)) (fun _ hk => hk.2) (.slice Ao32 t367.length co32)) (fun _ hk => hk.2) (.string t370)) (fun _ hk => hk.2) (.slice Ao33 t371.length co33)) (fun _ hk => hk.2) (.slice Ao34 t374.length co34)) (fun _ hk => hk.2) (.slice Ao35 t377.length co35)) (fun _ h_ => h_.1)))); (case side11 => exact (Kd.S_reads' HO379.out).2.1); rintro e w36 ⟨rfl, hb⟩; refine ⟨_, rfl, ?_⟩; replace HO347 := qK (Kd.Rbe (by (with_reducible repeat (first | apply Kd.Ral | apply Kd.RdN | apply Kd.Rdr)); exact (Kd.Rmo (Kd.Rfa (p := ⟨gb380, 7, none⟩) (Kd.Rfa (p := ⟨gb380, 6, none⟩) (Kd.Rfa (p := ⟨gb380, 5, none⟩) (Kd.Rfa (p := ⟨gb380, 4, none⟩) (Kd.Rfa (p := ⟨gb380, 3, none⟩) (Kd.Rfa (p := ⟨gb380, 2, none⟩) (Kd.Rfa (p := ⟨gb380, 1, none⟩) (Kd.Rfa (p := ⟨gb380, 0, none⟩) (Kd.Rty HO347.out BK380.out (by decide)) (fun _ hk => hk.2) (.int .i64 t362)) (fun _ hk => hk.2) (.string t363)) (fun _ hk => hk.2) (.slice Ao31 t364.length co31)) (fun _ hk => hk.2) (.slice Ao32 t367.length co32)) (fun _ hk => hk.2) (.string t370)) (fun _ hk => hk.2) (.slice Ao33 t371.length co33)) (fun _ hk => hk.2) (.slice Ao34 t374.length co34)) (fun _ hk => hk.2) (.slice Ao35 t377.length co35)) (fun _ h_ => h_.1))) hb); replace HO350 := qK (Kd.Rbe (by (with_reducible repeat (first | apply Kd.Ral | apply Kd.RdN | apply Kd.Rdr)); exact (Kd.Rmo (Kd.Rfa (p := ⟨gb380, 7, none⟩) (Kd.Rfa (p := ⟨gb380, 6, none⟩) (Kd.Rfa (p := ⟨gb380, 5, none⟩) (Kd.Rfa (p := ⟨gb380, 4, none⟩) (Kd.Rfa (p := ⟨gb380, 3, none⟩) (Kd.Rfa (p := ⟨gb380, 2, none⟩) (Kd.Rfa (p := ⟨gb380, 1, none⟩) (Kd.Rfa (p := ⟨gb380, 0, none⟩) (Kd.Rty HO350.out BK380.out (by decide)) (fun _ hk => hk.2) (.int .i64 t362)) (fun _ hk => hk.2) (.string t363)) (fun _ hk => hk.2) (.slice Ao31 t364.length co31)) (fun _ hk => hk.2) (.slice Ao32 t367.length co32)) (fun _ hk => hk.2) (.string t370)) (fun _ hk => hk.2) (.slice Ao33 t371.length co33)) (fun _ hk => hk.2) (.slice Ao34 t374.length co34)) (fun _ hk => hk.2) (.slice Ao35 t377.length co35)) (fun _ h_ => h_.1))) hb); replace HO354 := qK (Kd.Rbe (by (with_reducible repeat (first | apply Kd.Ral | apply Kd.RdN | apply Kd.Rdr)); exact (Kd.Rmo (Kd.Rfa (p := ⟨gb380, 7, none⟩) (Kd.Rfa (p := ⟨gb380, 6, none⟩) (Kd.Rfa (p := ⟨gb380, 5, none⟩) (Kd.Rfa (p := ⟨gb380, 4, none⟩) (Kd.Rfa (p := ⟨gb380, 3, none⟩) (Kd.Rfa (p := ⟨gb380, 2, none⟩) (Kd.Rfa (p := ⟨gb380, 1, none⟩) (Kd.Rfa (p := ⟨gb380, 0, none⟩) (Kd.Rty HO354.out BK380.out (by decide)) (fun _ hk => hk.2) (.int .i64 t362)) (fun _ hk => hk.2) (.string t363)) (fun _ hk => hk.2) (.slice Ao31 t364.length co31)) (fun _ hk => hk.2) (.slice Ao32 t367.length co32)) (fun _ hk => hk.2) (.string t370)) (fun _ hk => hk.2) (.slice Ao33 t371.length co33)) (fun _ hk => hk.2) (.slice Ao34 t374.length co34)) (fun _ hk => hk.2) (.slice Ao35 t377.length co35)) (fun _ h_ => h_.1))) hb); replace HO357 := qK (Kd.Rbe (by (with_reducible repeat (first | apply Kd.Ral | apply Kd.RdN | apply Kd.Rdr)); exact (Kd.Rmo (Kd.Rfa (p := ⟨gb380, 7, none⟩) (Kd.Rfa (p := ⟨gb380, 6, none⟩) (Kd.Rfa (p := ⟨gb380, 5, none⟩) (Kd.Rfa (p := ⟨gb380, 4, none⟩) (Kd.Rfa (p := ⟨gb380, 3, none⟩) (Kd.Rfa (p := ⟨gb380, 2, none⟩) (Kd.Rfa (p := ⟨gb380, 1, none⟩) (Kd.Rfa (p := ⟨gb380, 0, none⟩) (Kd.Rty HO357.out BK380.out (by decide)) (fun _ hk => hk.2) (.int .i64 t362)) (fun _ hk => hk.2) (.string t363)) (fun _ hk => hk.2) (.slice Ao31 t364.length co31)) (fun _ hk => hk.2) (.slice Ao32 t367.length co32)) (fun _ hk => hk.2) (.string t370)) (fun _ hk => hk.2) (.slice Ao33 t371.length co33)) (fun _ hk => hk.2) (.slice Ao34 t374.length co34)) (fun _ hk => hk.2) (.slice Ao35 t377.length co35)) (fun _ h_ => h_.1))) hb); replace HO360 := qK (Kd.Sbe (by (with_reducible repeat (first | apply Kd.Sal | apply Kd.SdN | apply Kd.Sdr)); exact (Kd.Smo (Kd.Sfa (p := ⟨gb380, 7, none⟩) (Kd.Sfa (p := ⟨gb380, 6, none⟩) (Kd.Sfa (p := ⟨gb380, 5, none⟩) (Kd.Sfa (p := ⟨gb380, 4, none⟩) (Kd.Sfa (p := ⟨gb380, 3, none⟩) (Kd.Sfa (p := ⟨gb380, 2, none⟩) (Kd.Sfa (p := ⟨gb380, 1, none⟩) (Kd.Sfa (p := ⟨gb380, 0, none⟩) (Kd.Sty HO360.out BK380.out (by decide)) (fun _ hk => hk.2) (.int .i64 t362)) (fun _ hk => hk.2) (.string t363)) (fun _ hk => hk.2) (.slice Ao31 t364.length co31)) (fun _ hk => hk.2) (.slice Ao32 t367.length co32)) (fun _ hk => hk.2) (.string t370)) (fun _ hk => hk.2) (.slice Ao33 t371.length co33)) (fun _ hk => hk.2) (.slice Ao34 t374.length co34)) (fun _ hk => hk.2) (.slice Ao35 t377.length co35)) (fun _ h_ => h_.1))) hb); replace HO366 := qK (Kd.Rbe (by (with_reducible repeat (first | apply Kd.Ral | apply Kd.RdN | apply Kd.Rdr)); exact (Kd.Rmo (Kd.Rfa (p := ⟨gb380, 7, none⟩) (Kd.Rfa (p := ⟨gb380, 6, none⟩) (Kd.Rfa (p := ⟨gb380, 5, none⟩) (Kd.Rfa (p := ⟨gb380, 4, none⟩) (Kd.Rfa (p := ⟨gb380, 3, none⟩) (Kd.Rfa (p := ⟨gb380, 2, none⟩) (Kd.Rfa (p := ⟨gb380, 1, none⟩) (Kd.Rfa (p := ⟨gb380, 0, none⟩) (Kd.Rty HO366.out BK380.out (by decide)) (fun _ hk => hk.2) (.int .i64 t362)) (fun _ hk => hk.2) (.string t363)) (fun _ hk => hk.2) (.slice Ao31 t364.length co31)) (fun _ hk => hk.2) (.slice Ao32 t367.length co32)) (fun _ hk => hk.2) (.string t370)) (fun _ hk => hk.2) (.slice Ao33 t371.length co33)) (fun _ hk => hk.2) (.slice Ao34 t374.length co34)) (fun _ hk => hk.2) (.slice Ao35 t377.length co35)) (fun _ h_ => h_.1))) hb); replace HO369 := qK (Kd.Rbe (by (with_reducible repeat (first | apply Kd.Ral | apply Kd.RdN | apply Kd.Rdr)); exact (Kd.Rmo (Kd.Rfa (p := ⟨gb380, 7, none⟩) (Kd.Rfa (p := ⟨gb380, 6, none⟩) (Kd.Rfa (p := ⟨gb380, 5, none⟩) (Kd.Rfa (p := ⟨gb380, 4, none⟩) (Kd.Rfa (p := ⟨gb380, 3, none⟩) (Kd.Rfa (p := ⟨gb380, 2, none⟩) (Kd.Rfa (p := ⟨gb380, 1, none⟩) (Kd.Rfa (p := ⟨gb380, 0, none⟩) (Kd.Rty HO369.out BK380.out (by decide)) (fun _ hk => hk.2) (.int .i64 t362)) (fun _ hk => hk.2) (.string t363)) (fun _ hk => hk.2) (.slice Ao31 t364.length co31)) (fun _ hk => hk.2) (.slice Ao32 t367.length co32)) (fun _ hk => hk.2) (.string t370)) (fun _ hk => hk.2) (.slice Ao33 t371.length co33)) (fun _ hk => hk.2) (.slice Ao34 t374.length co34)) (fun _ hk => hk.2) (.slice Ao35 t377.length co35)) (fun _ h_ => h_.1))) hb); replace HO373 := qK (Kd.Rbe (by (with_reducible repeat (first | apply Kd.Ral | apply Kd.RdN | apply Kd.Rdr)); exact (Kd.Rmo (Kd.Rfa (p := ⟨gb380, 7, none⟩) (Kd.Rfa (p := ⟨gb380, 6, none⟩) (Kd.Rfa (p := ⟨gb380, 5, none⟩) (Kd.Rfa (p := ⟨gb380, 4, none⟩) (Kd.Rfa (p := ⟨gb380, 3, none⟩) (Kd.Rfa (p := ⟨gb380, 2, none⟩) (Kd.Rfa (p := ⟨gb380, 1, none⟩) (Kd.Rfa (p := ⟨gb380, 0, none⟩) (Kd.Rty HO373.out BK380.out (by decide)) (fun _ hk => hk.2) (.int .i64 t362)) (fun _ hk => hk.2) (.string t363)) (fun _ hk => hk.2) (.slice Ao31 t364.length co31)) (fun _ hk => hk.2) (.slice Ao32 t367.length co32)) (fun _ hk => hk.2) (.string t370)) (fun _ hk => hk.2) (.slice Ao33 t371.length co33)) (fun _ hk => hk.2) (.slice Ao34 t374.length co34)) (fun _ hk => hk.2) (.slice Ao35 t377.length co35)) (fun _ h_ => h_.1))) hb); replace HO376 := qK (Kd.Rbe (by (with_reducible repeat (first | apply Kd.Ral | apply Kd.RdN | apply Kd.Rdr)); exact (Kd.Rmo (Kd.Rfa (p := ⟨gb380, 7, none⟩) (Kd.Rfa (p := ⟨gb380, 6, none⟩) (Kd.Rfa (p := ⟨gb380, 5, none⟩) (Kd.Rfa (p := ⟨gb380, 4, none⟩) (Kd.Rfa (p := ⟨gb380, 3, none⟩) (Kd.Rfa (p := ⟨gb380, 2, none⟩) (Kd.Rfa (p := ⟨gb380, 1, none⟩) (Kd.Rfa (p := ⟨gb380, 0, none⟩) (Kd.Rty HO376.out BK380.out (by decide)) (fun _ hk => hk.2) (.int .i64 t362)) (fun _ hk => hk.2) (.string t363)) (fun _ hk => hk.2) (.slice Ao31 t364.length co31)) (fun _ hk => hk.2) (.slice Ao32 t367.length co32)) (fun _ hk => hk.2) (.string t370)) (fun _ hk => hk.2) (.slice Ao33 t371.length co33)) (fun _ hk => hk.2) (.slice Ao34 t374.length co34)) (fun _ hk => hk.2) (.slice Ao35 t377.length co35)) (fun _ h_ => h_.1))) hb); replace HO379 := qK (Kd.Sbe (by (with_reducible repeat (first | apply Kd.Sal | apply Kd.SdN | apply Kd.Sdr)); exact (Kd.Smo (Kd.Sfa (p := ⟨gb380, 7, none⟩) (Kd.Sfa (p := ⟨gb380, 6, none⟩) (Kd.Sfa (p := ⟨gb380, 5, none⟩) (Kd.Sfa (p := ⟨gb380, 4, none⟩) (Kd.Sfa (p := ⟨gb380, 3, none⟩) (Kd.Sfa (p := ⟨gb380, 2, none⟩) (Kd.Sfa (p := ⟨gb380, 1, none⟩) (Kd.Sfa (p := ⟨gb380, 0, none⟩) (Kd.Sty HO379.out BK380.out (by decide)) (fun _ hk => hk.2) (.int .i64 t362)) (fun _ hk => hk.2) (.string t363)) (fun _ hk => hk.2) (.slice Ao31 t364.length co31)) (fun _ hk => hk.2) (.slice Ao32 t367.length co32)) (fun _ hk => hk.2) (.string t370)) (fun _ hk => hk.2) (.slice Ao33 t371.length co33)) (fun _ hk => hk.2) (.slice Ao34 t374.length co34)) (fun _ hk => hk.2) (.slice Ao35 t377.length co35)) (fun _ h_ => h_.1))) hb); replace BK341 := qK (bbe (g := gb341) (o := .cells #[.int .i64 a0_0, .string a0_1, .slice A0_2 l0_2.length c0_2, .slice A0_3 l0_3.length c0_3, .string a0_4, .slice A0_5 l0_5.length c0_5, .slice A0_6 l0_6.length c0_6, .slice A0_7 l0_7.length c0_7] 27 (0, 0)) (by (with_reducible repeat (first | refine bdN ?_ _ | refine bkD ?_ | refine bkA ?_ _)); refine bfa ?_ NB341_380.out _; refine bfa ?_ NB341_380.out _; refine bfa ?_ NB341_380.out _; refine bfa ?_ NB341_380.out _; refine bfa ?_ NB341_380.out _; refine bfa ?_ NB341_380.out _; refine bfa ?_ NB341_380.out _; refine bfa ?_ NB341_380.out _; exact BK341.out) hb); replace BK380 := qK (bbe (g := gb380) (o := .cells #[.int .i64 t362, .string t363, .slice Ao31 t364.length co31, .slice Ao32 t367.length co32, .string t370, .slice Ao33 t371.length co33, .slice Ao34 t374.length co34, .slice Ao35 t377.length co35] 35 (0, 0)) (by (with_reducible repeat (first | refine bdN ?_ _ | refine bkD ?_ | refine bkA ?_ _)); refine bpu (cs := #[.int .i64 t362, .string t363, .slice Ao31 t364.length co31, .slice Ao32 t367.length co32, .string t370, .slice Ao33 t371.length co33, .slice Ao34 t374.length co34, .slice none 0 0]) ?_ 7 _ rfl; refine bpu (cs := #[.int .i64 t362, .string t363, .slice Ao31 t364.length co31, .slice Ao32 t367.length co32, .string t370, .slice Ao33 t371.length co33, .slice none 0 0, .slice none 0 0]) ?_ 6 _ rfl; refine bpu (cs := #[.int .i64 t362, .string t363, .slice Ao31 t364.length co31, .slice Ao32 t367.length co32, .string t370, .slice none 0 0, .slice none 0 0, .slice none 0 0]) ?_ 5 _ rfl; refine bpu (cs := #[.int .i64 t362, .string t363, .slice Ao31 t364.length co31, .slice Ao32 t367.length co32, .string (⟨#[]⟩ : ByteArray), .slice none 0 0, .slice none 0 0, .slice none 0 0]) ?_ 4 _ rfl; refine bpu (cs := #[.int .i64 t362, .string t363, .slice Ao31 t364.length co31, .slice none 0 0, .string (⟨#[]⟩ : ByteArray), .slice none 0 0, .slice none 0 0, .slice none 0 0]) ?_ 3 _ rfl; refine bpu (cs := #[.int .i64 t362, .string t363, .slice none 0 0, .slice none 0 0, .string (⟨#[]⟩ : ByteArray), .slice none 0 0, .slice none 0 0, .slice none 0 0]) ?_ 2 _ rfl; refine bpu (cs := #[.int .i64 t362, .string (⟨#[]⟩ : ByteArray), .slice none 0 0, .slice none 0 0, .string (⟨#[]⟩ : ByteArray), .slice none 0 0, .slice none 0 0, .slice none 0 0]) ?_ 1 _ rfl; refine bpu (cs := #[.int .i64 0, .string (⟨#[]⟩ : ByteArray), .slice none 0 0, .slice none 0 0, .string (⟨#[]⟩ : ByteArray), .slice none 0 0, .slice none 0 0, .slice none 0 0]) ?_ 0 _ rfl; exact BK380.out) hb); replace HB := qHB HB hb; (try clear hb); (try clear hb2); (try clear hk); (try clear hi)))); replace HO347 := qK (Kd.Rdr HO347.out); replace HO350 := qK (Kd.Rdr HO350.out); replace HO354 := qK (Kd.Rdr HO354.out); replace HO357 := qK (Kd.Rdr HO357.out); replace HO360 := qK (Kd.Sdr HO360.out); replace HO366 := qK (Kd.Rdr HO366.out); replace HO369 := qK (Kd.Rdr HO369.out); replace HO373 := qK (Kd.Rdr HO373.out); replace HO376 := qK (Kd.Rdr HO376.out); replace HO379 := qK (Kd.Sdr HO379.out); replace BK341 := qK (bkD BK341.out); replace BK380 := qK (bkD BK380.out); replace HB := qK (bd1 HB.out); refine qs 5 (fun w' => w'.cell? ⟨gb380, 0, none⟩ = some (.int .i64 t362) ∧ w'.cell? ⟨gb380, 1, none⟩ = some (.string t363) ∧ w'.cell? ⟨gb380, 2, none⟩ = some (.slice Ao31 t364.length co31) ∧ w'.cell? ⟨gb380, 3, none⟩ = some (.slice Ao32 t367.length co32) ∧ w'.cell? ⟨gb380, 4, none⟩ = some (.string t370) ∧ w'.cell? ⟨gb380, 5, none⟩ = some (.slice Ao33 t371.length co33) ∧ w'.cell? ⟨gb380, 6, none⟩ = some (.slice Ao34 t374.length co34) ∧ w'.cell? ⟨gb380, 7, none⟩ = some (.slice Ao35 t377.length co35) ∧ w'.cell? ⟨gb341, 0, none⟩ = some (.int .i64 a0_0) ∧ w'.cell? ⟨gb341, 1, none⟩ = some (.string a0_1) ∧ w'.cell? ⟨gb341, 2, none⟩ = some (.slice A0_2 l0_2.length c0_2) ∧ w'.cell? ⟨gb341, 3, none⟩ = some (.slice A0_3 l0_3.length c0_3) ∧ w'.cell? ⟨gb341, 4, none⟩ = some (.string a0_4) ∧ w'.cell? ⟨gb341, 5, none⟩ = some (.slice A0_5 l0_5.length c0_5) ∧ w'.cell? ⟨gb341, 6, none⟩ = some (.slice A0_6 l0_6.length c0_6) ∧ w'.cell? ⟨gb341, 7, none⟩ = some (.slice A0_7 l0_7.length c0_7)) (ds := []) ⟨(bce BK380.out 0).trans rfl, (bce BK380.out 1).trans rfl, (bce BK380.out 2).trans rfl, (bce BK380.out 3).trans rfl, (bce BK380.out 4).trans rfl, (bce BK380.out 5).trans rfl, (bce BK380.out 6).trans rfl, (bce BK380.out 7).trans rfl, (bce BK341.out 0).trans rfl, (bce BK341.out 1).trans rfl, (bce BK341.out 2).trans rfl, (bce BK341.out 3).trans rfl, (bce BK341.out 4).trans rfl, (bce BK341.out 5).trans rfl, (bce BK341.out 6).trans rfl, (bce BK341.out 7).trans rfl⟩ (fun hHeld => ?_); generalize w36.drew = w37 at HO347 HO350 HO354 HO357 HO360 HO366 HO369 HO373 HO376 HO379 BK341 BK380 HB hHeld ⊢; refine qt 0 22 ?_; refine qt 1 23 ?_; refine qo 2 24 (fun K hK => ?_); refine goes_ Tryz.func6 (by kernel_rfl) rfl #[.agg #[.int .i64 a0_0, .string a0_1, .slice A0_2 l0_2.length c0_2, .slice A0_3 l0_3.length c0_3, .string a0_4, .slice A0_5 l0_5.length c0_5, .slice A0_6 l0_6.length c0_6, .slice A0_7 l0_7.length c0_7]] (by rfl) rfl rfl qA ?_; (with_reducible refine (laws_toStm.calls k a0_0 a0_1 _ _ l0_2 _ _ l0_3 a0_4 _ _ l0_5 _ _ l0_6 _ _ l0_7 t382 t383 t384 t387 t390 t391 t394 t397 _ ?side1 ?side2 ?side3 ?side4 ?side5 ?side6 ?side7 ?side8 ?side9 ?side10 A12.out).mono ?_); (case side1 => exact qC HR0_2); (case side2 => exact HC0_2.out); (case side3 => exact qC HR0_3); (case side4 => exact HC0_3.out); (case side5 => exact qC HR0_5); (case side6 => exact HC0_5.out); (case side7 => exact qC HR0_6); (case side8 => exact HC0_6.out); (case side9 => exact qC HR0_7); (case side10 => exact HC0_7.out); rintro e w38 ⟨v385, v388, v392, v395, v398, rfl, ho0, ho1, ho2, ho3, ho4, hb⟩; refine ⟨_, rfl, ?_⟩; have HO386 := qK (Kd.Rlo (Kd.R_new' (Kd.R_new' ho0 (Kd.R_lt (qRb HO347))) (Kd.R_lt (qRb HO366))) (bsz qB)); replace HO347 := qK (Kd.R_elder' (qRb HO347) (Kd.R_base ho0) hb); replace HO366 := qK (Kd.R_elder' (qRb HO366) (Kd.R_base ho0) hb); have HO389 := qK (Kd.Rlo (Kd.R_new' (Kd.R_new' ho1 (Kd.R_lt (qRb HO350))) (Kd.R_lt (qRb HO369))) (bsz qB)); replace HO350 := qK (Kd.R_elder' (qRb HO350) (Kd.R_base ho1) hb); replace HO369 := qK (Kd.R_elder' (qRb HO369) (Kd.R_base ho1) hb); have HO393 := qK (Kd.Rlo (Kd.R_new' (Kd.R_new' (Kd.R_new' (Kd.R_new' ho2 (Kd.R_lt (qRb HO354))) (Kd.R_lt (qRb HO357))) (Kd.R_lt (qRb HO373))) (Kd.R_lt (qRb HO376))) (bsz qB)); have HO396 := qK (Kd.Rlo (Kd.R_new' (Kd.R_new' (Kd.R_new' (Kd.R_new' ho3 (Kd.R_lt (qRb HO354))) (Kd.R_lt (qRb HO357))) (Kd.R_lt (qRb HO373))) (Kd.R_lt (qRb HO376))) (bsz qB)); have HO399 := qK (Kd.S_lower (Kd.S_new' (Kd.S_new' (Kd.S_new' (Kd.S_new' (Kd.S_new' (Kd.S_new' ho4 (Kd.R_lt (qRb HO354))) (Kd.R_lt (qRb HO357))) (Kd.S_lt (qSb HO360))) (Kd.R_lt (qRb HO373))) (Kd.R_lt (qRb HO376))) (Kd.S_lt (qSb HO379))) (bsz qB)); replace HO354 := qK (Kd.Rmo (Kd.R_told (Kd.R_told (Kd.R_old (qRb HO354) hb) (Kd.R_base ho2)) (Kd.R_base ho3)) (fun _ h_ => h_.1)); replace HO357 := qK (Kd.Rmo (Kd.R_told (Kd.R_told (Kd.R_old (qRb HO357) hb) (Kd.R_base ho2)) (Kd.R_base ho3)) (fun _ h_ => h_.1)); replace HO360 := qK (Kd.Smo (Kd.S_told (Kd.S_told (Kd.S_told (Kd.S_old (qSb HO360) hb) (Kd.R_base ho2)) (Kd.R_base ho3)) (Kd.S_base ho4)) (fun _ h_ => h_.1)); replace HO373 := qK (Kd.Rmo (Kd.R_told (Kd.R_told (Kd.R_old (qRb HO373) hb) (Kd.R_base ho2)) (Kd.R_base ho3)) (fun _ h_ => h_.1)); replace HO376 := qK (Kd.Rmo (Kd.R_told (Kd.R_told (Kd.R_old (qRb HO376) hb) (Kd.R_base ho2)) (Kd.R_base ho3)) (fun _ h_ => h_.1)); replace HO379 := qK (Kd.Smo (Kd.S_told (Kd.S_told (Kd.S_told (Kd.S_old (qSb HO379) hb) (Kd.R_base ho2)) (Kd.R_base ho3)) (Kd.S_base ho4)) (fun _ h_ => h_.1)); replace BK341 := qbb BK341 hb; replace BK380 := qbb BK380 hb; replace HB := qHB HB hb; (try clear hb); (try clear hb2); (try clear hk); (try clear hi); (try clear ho0); (try clear ho1); (try clear ho2); (try clear ho3); (try clear ho4); obtain ⟨Ao39, co39, eo39⟩ := Kd.R_slice HO386.out; (first | subst eo39 | (injection eo39 with f1_ f2_ f3_; have f4_ := f1_.symm; have f5_ := f3_.symm; clear f1_ f2_ f3_; subst f4_; subst f5_)); obtain ⟨Ao40, co40, eo40⟩ := Kd.R_slice HO389.out; (first | subst eo40 | (injection eo40 with f1_ f2_ f3_; have f4_ := f1_.symm; have f5_ := f3_.symm; clear f1_ f2_ f3_; subst f4_; subst f5_)); obtain ⟨Ao41, co41, eo41⟩ := Kd.R_slice HO393.out; (first | subst eo41 | (injection eo41 with f1_ f2_ f3_; have f4_ := f1_.symm; have f5_ := f3_.symm; clear f1_ f2_ f3_; subst f4_; subst f5_)); obtain ⟨Ao42, co42, eo42⟩ := Kd.R_slice HO396.out; (first | subst eo42 | (injection eo42 with f1_ f2_ f3_; have f4_ := f1_.symm; have f5_ := f3_.symm; clear f1_ f2_ f3_; subst f4_; subst f5_)); obtain ⟨Ao43, co43, eo43⟩ := Kd.S_slice HO399.out; (first | subst eo43 | (injection eo43 with f1_ f2_ f3_; have f4_ := f1_.symm; have f5_ := f3_.symm; clear f1_ f2_ f3_; subst f4_; subst f5_)); refine hK.out _ _ ⟨(bce BK380.out 0).trans rfl, (bce BK380.out 1).trans rfl, (bce BK380.out 2).trans rfl, (bce BK380.out 3).trans rfl, (bce BK380.out 4).trans rfl, (bce BK380.out 5).trans rfl, (bce BK380.out 6).trans rfl, (bce BK380.out 7).trans rfl, (bce BK341.out 0).trans rfl, (bce BK341.out 1).trans rfl, (bce BK341.out 2).trans rfl, (bce BK341.out 3).trans rfl, (bce BK341.out 4).trans rfl, (bce BK341.out 5).trans rfl, (bce BK341.out 6).trans rfl, (bce BK341.out 7).trans rfl⟩ (fun hHeld => ?_); clear hK K; refine norm_ (a' := ?_) ?_ ?_; rotate_left
        · show Act.put _ (some 24) _ = _; simp only [Act.put, List.setIfInBounds_toArray, List.set_cons_zero, List.set_cons_succ, i64_w, i32_w]; rfl
        refine qo 3 25 (fun K hK => ?_); refine goes_ Tryz.func8 (by kernel_rfl) rfl #[.agg #[.int .i64 t362, .string t363, .slice Ao31 t364.length co31, .slice Ao32 t367.length co32, .string t370, .slice Ao33 t371.length co33, .slice Ao34 t374.length co34, .slice Ao35 t377.length co35], .agg #[.int .i64 t382, .string t383, .slice Ao39 t384.length co39, .slice Ao40 t387.length co40, .string t390, .slice Ao41 t391.length co41, .slice Ao42 t394.length co42, .slice Ao43 t397.length co43]] (by rfl) rfl rfl qA ?_; (with_reducible refine (laws_eqStm.calls k t362 t363 _ _ t364 _ _ t367 t370 _ _ t371 _ _ t374 _ _ t377 t382 t383 _ _ t384 _ _ t387 t390 _ _ t391 _ _ t394 _ _ t397 true _ ?side1 ?side2 ?side3 ?side4 ?side5 ?side6 ?side7 ?side8 ?side9 ?side10 ?side11 ?side12 ?side13 ?side14 ?side15 ?side16 ?side17 ?side18 ?side19 ?side20 A13.out).mono ?_); (case side1 => repeat (first | exact (Kd.R_reads' HO366.out).2.2 | (with_reducible refine Kd.Cal ?_ _) | (with_reducible refine Kd.CdN ?_ _) | (with_reducible refine Kd.Cdr ?_))); (case side2 => exact (Kd.R_reads' HO366.out).2.1); (case side3 => repeat (first | exact (Kd.R_reads' HO369.out).2.2 | (with_reducible refine Kd.Cal ?_ _) | (with_reducible refine Kd.CdN ?_ _) | (with_reducible refine Kd.Cdr ?_))); (case side4 => exact (Kd.R_reads' HO369.out).2.1); (case side5 => repeat (first | exact (Kd.R_reads' HO373.out).2.2 | (with_reducible refine Kd.Cal ?_ _) | (with_reducible refine Kd.CdN ?_ _) | (with_reducible refine Kd.Cdr ?_))); (case side6 => exact (Kd.R_reads' HO373.out).2.1); (case side7 => repeat (first | exact (Kd.R_reads' HO376.out).2.2 | (with_reducible refine Kd.Cal ?_ _) | (with_reducible refine Kd.CdN ?_ _) | (with_reducible refine Kd.Cdr ?_))); (case side8 => exact (Kd.R_reads' HO376.out).2.1); (case side9 => repeat (first | exact (Kd.S_reads' HO379.out).2.2 | (with_reducible refine Kd.Cal ?_ _) | (with_reducible refine Kd.CdN ?_ _) | (with_reducible refine Kd.Cdr ?_))); (case side10 => exact (Kd.S_reads' HO379.out).2.1); (case side11 => repeat (first | exact (Kd.R_reads' HO386.out).2.2 | (with_reducible refine Kd.Cal ?_ _) | (with_reducible refine Kd.CdN ?_ _) | (with_reducible refine Kd.Cdr ?_))); (case side12 => exact (Kd.R_reads' HO386.out).2.1); (case side13 => repeat (first | exact (Kd.R_reads' HO389.out).2.2 | (with_reducible refine Kd.Cal ?_ _) | (with_reducible refine Kd.CdN ?_ _) | (with_reducible refine Kd.Cdr ?_))); (case side14 => exact (Kd.R_reads' HO389.out).2.1); (case side15 => repeat (first | exact (Kd.R_reads' HO393.out).2.2 | (with_reducible refine Kd.Cal ?_ _) | (with_reducible refine Kd.CdN ?_ _) | (with_reducible refine Kd.Cdr ?_))); (case side16 => exact (Kd.R_reads' HO393.out).2.1); (case side17 => repeat (first | exact (Kd.R_reads' HO396.out).2.2 | (with_reducible refine Kd.Cal ?_ _) | (with_reducible refine Kd.CdN ?_ _) | (with_reducible refine Kd.Cdr ?_))); (case side18 => exact (Kd.R_reads' HO396.out).2.1); (case side19 => repeat (first | exact (Kd.S_reads' HO399.out).2.2 | (with_reducible refine Kd.Cal ?_ _) | (with_reducible refine Kd.CdN ?_ _) | (with_reducible refine Kd.Cdr ?_))); (case side20 => exact (Kd.S_reads' HO399.out).2.1); rintro e w44 ⟨rfl, hb⟩; refine ⟨_, rfl, ?_⟩; replace HO347 := qK (Kd.Rbe (qRb HO347) hb); replace HO350 := qK (Kd.Rbe (qRb HO350) hb); replace HO354 := qK (Kd.Rbe (qRb HO354) hb); replace HO357 := qK (Kd.Rbe (qRb HO357) hb); replace HO360 := qK (Kd.Sbe (qSb HO360) hb); replace HO366 := qK (Kd.Rbe (qRb HO366) hb); replace HO369 := qK (Kd.Rbe (qRb HO369) hb); replace HO373 := qK (Kd.Rbe (qRb HO373) hb); replace HO376 := qK (Kd.Rbe (qRb HO376) hb); replace HO379 := qK (Kd.Sbe (qSb HO379) hb); replace HO386 := qK (Kd.Rbe (qRb HO386) hb); replace HO389 := qK (Kd.Rbe (qRb HO389) hb); replace HO393 := qK (Kd.Rbe (qRb HO393) hb); replace HO396 := qK (Kd.Rbe (qRb HO396) hb); replace HO399 := qK (Kd.Sbe (qSb HO399) hb); replace BK341 := qbb BK341 hb; replace BK380 := qbb BK380 hb; replace HB := qHB HB hb; (try clear hb); (try clear hb2); (try clear hk); (try clear hi); refine hK.out _ _ ⟨(bce BK380.out 0).trans rfl, (bce BK380.out 1).trans rfl, (bce BK380.out 2).trans rfl, (bce BK380.out 3).trans rfl, (bce BK380.out 4).trans rfl, (bce BK380.out 5).trans rfl, (bce BK380.out 6).trans rfl, (bce BK380.out 7).trans rfl, (bce BK341.out 0).trans rfl, (bce BK341.out 1).trans rfl, (bce BK341.out 2).trans rfl, (bce BK341.out 3).trans rfl, (bce BK341.out 4).trans rfl, (bce BK341.out 5).trans rfl, (bce BK341.out 6).trans rfl, (bce BK341.out 7).trans rfl⟩ (fun hHeld => ?_); clear hK K; refine norm_ (a' := ?_) ?_ ?_; rotate_left
        · show Act.put _ (some 25) _ = _; simp only [Act.put, List.setIfInBounds_toArray, List.set_cons_zero, List.set_cons_succ, i64_w, i32_w]; rfl
        refine qp 4 26 ?_; refine done_ (by kernel_rfl) ?_; (try go_wp2); go_ret; exact ⟨qR, qB⟩
      · replace c14 := Bool.eq_false_iff.mpr c14; subst c14; rw [if_neg qff] at H; subst hT; cases H
    · rw [if_neg c11] at H; have c11b0 : (t381.toList == t361.toList) = false := beq_eq_false_iff_ne.mpr c11; have c11b1 : (t381.toList != t361.toList) = true := bne_iff_ne.mpr c11; subst hT; cases H
end Go.Proofs.YtbpfdjbnfkclcaaGreatDoor.L
end
section
set_option linter.unusedVariables false
set_option linter.unusedSimpArgs false
namespace Go.Proofs.YtbpfdjbnfkclcaaGreatDoor
open Go.RowKit Go.ChangeShapes Go.WideShapes Go.Proofs.YtbpfdjbnfkclcaaGreatDoorW.PrintWords
/-- Whatever reads as a datum of type t is a value of the kind d that is 'good'. -/
def Opens {α : Type} (P : Program) (t : TypeId) (d : Kd α) (good : α → Prop) : Prop :=
  ∀ (H : Type) (enc : TypeId × Value → H) (W : World) (fuel : Nat) (cs : List Value) (x : DataW H × List MemPlace),
    DataW.trod enc P W 0 (fun _ => true) true fuel t cs = some x → ∃ a, d.K W a cs ∧ good a
theorem opens_int {P : Program} {t : TypeId} {k : IntKind} (ht : P.underlying t = some (.int k)) : Opens P t (Kd.int k) (fun n => (Lit.int k n).wf = true) :=
  fun H enc W fuel cs x h => by
    obtain ⟨n, rfl, _, hw⟩ := DataW.trod_int ht h
    exact ⟨n, rfl, hw⟩
theorem opens_string {P : Program} {t : TypeId} (ht : P.underlying t = some .string) : Opens P t Kd.string (fun s => s.size ≤ maxLen) :=
  fun H enc W fuel cs x h => by
    obtain ⟨n, rfl, _, hw⟩ := DataW.trod_string ht h
    exact ⟨n, rfl, hw⟩
theorem cells_of_some {W : World} {a : Addr} {n : Nat} {cs : List Value} (h : W.cells? 0 a n = some cs) : cs.length = n ∧ ∀ i u, cs[i]? = some u → W.cell? (a.add i) = some u := by
  unfold World.cells? at h
  rw [if_pos (Nat.zero_le _)] at h
  have hl := mapM_some_length h
  rw [List.length_range] at hl
  refine ⟨hl, fun i u hu => ?_⟩
  have hi : i < n := by
    rcases Nat.lt_or_ge i n with h' | h'
    · exact h'
    · rw [List.getElem?_eq_none (by omega)] at hu; cases hu
  have := mapM_some_get h i i (by simp [hi])
  rw [this]; exact hu
theorem opens_slice {α : Type} {P : Program} {t e : TypeId} {d : Kd α} {good : α → Prop} [Inhabited α] (ht : P.underlying t = some (.slice e)) (hc : P.cellsOf e = d.sz) (he : Opens P e d good) :
    Opens P t (Kd.slice e d) (fun l => ∀ a ∈ l, good a) :=
  fun H enc W fuel cs x h => by
    rcases Go.Deep.open_slice ht h with ⟨rfl, _⟩ | ⟨a, len, cap, m, n, D, Pl, rfl, _, hlc, hm, hmm, _, hel⟩
    · exact ⟨[], ⟨none, 0, rfl, Nat.le_refl _, rfl, by simp, fun h => absurd h (by simp)⟩, fun a ha => by cases ha⟩
    · have hmc : m = cap := by simpa using hmm
      subst hmc
      have hx : ∀ i, i < len → ∃ y : α, (∃ cs', W.cells? 0 (a.add (i * P.cellsOf e)) (P.cellsOf e) = some cs' ∧ d.K W y cs') ∧ good y := fun i hi => by
        obtain ⟨cs', h1, h2⟩ := hel i (by omega)
        obtain ⟨y, hy, hg⟩ := he H enc W n cs' _ h2
        exact ⟨y, ⟨cs', h1, hy⟩, hg⟩
      obtain ⟨f, hf⟩ := Go.Deep.choose_lt hx
      have hlen : ((List.range len).map f).length = len := by simp
      refine ⟨(List.range len).map f, ⟨some a, m, by rw [hlen], by rw [hlen]; exact hlc, ?_⟩, fun y hy => ?_⟩
      · refine ⟨rfl, by rw [hlen]; unfold maxLen at hm; omega, fun _ => ⟨a, rfl, fun j p hp => ?_⟩⟩
        have hj : j < len := by
          rcases Nat.lt_or_ge j len with h' | h'
          · exact h'
          · rw [List.getElem?_eq_none (by omega)] at hp; cases hp
        have hpe : f j = p := by simpa [hj] using hp
        obtain ⟨⟨cs', h1, h2⟩, _⟩ := hf j hj
        obtain ⟨hl', hcell⟩ := cells_of_some h1
        refine ⟨cs', by rw [hl', hc], hpe ▸ h2, fun i u hu => ?_⟩
        have := hcell i u hu
        rw [Go.Deep.add_add, hc] at this
        exact this
      · obtain ⟨j, hj, rfl⟩ := List.mem_map.1 hy
        exact (hf j (List.mem_range.1 hj)).2
/-- Two cuts of a list, one behind the other. -/
theorem take_drop_add {α : Type} (cs : List α) (m n : Nat) : (cs.drop m).take n ++ cs.drop (m + n) = cs.drop m := by
  rw [← List.drop_drop]; exact List.take_append_drop n (cs.drop m)
/-- The fields from number i on, of a struct, one kind a field. -/
def OpensF {α : Type} (P : Program) (fs : Array Field) (i off : Nat) (d : Kd α) (good : α → Prop) : Prop :=
  ∀ (H : Type) (enc : TypeId × Value → H) (W : World) (n : Nat) (cs : List Value) (xs : List (DataW H × List MemPlace)), off ≤ cs.length → cs.length - off = d.sz → xs.length = fs.size →
    (∀ (j : Nat) (f : Field), fs[j]? = some f → DataW.trod enc P W 0 (fun _ => true) true n f.type ((cs.drop f.offset).take (P.cellsOf f.type)) = xs[j]?) → ∃ a, d.K W a (cs.drop off) ∧ good a
theorem opensF_last {α : Type} {P : Program} {fs : Array Field} {i off : Nat} {d : Kd α} {good : α → Prop} (f : Field) (hf : fs[i]? = some f) (ho : f.offset = off) (hc : P.cellsOf f.type = d.sz) (h : Opens P f.type d good) :
    OpensF P fs i off d good := fun H enc W n cs xs hle hl hx hg => by
  have hi : i < fs.size := by
    rcases Nat.lt_or_ge i fs.size with h' | h'
    · exact h'
    · rw [Array.getElem?_eq_none h'] at hf; cases hf
  have h1 := hg i f hf
  have hxi : xs[i]? = some (xs[i]'(by omega)) := List.getElem?_eq_getElem (by omega)
  rw [hxi, ho, hc, List.take_of_length_le (by simp; omega)] at h1
  exact h H enc W n _ _ h1
theorem opensF_cons {α β : Type} {P : Program} {fs : Array Field} {i off : Nat} {d : Kd α} {good : α → Prop} {d' : Kd β} {good' : β → Prop} (f : Field) (hf : fs[i]? = some f) (ho : f.offset = off) (hc : P.cellsOf f.type = d.sz)
    (h : Opens P f.type d good) (h' : OpensF P fs (i + 1) (off + d.sz) d' good') : OpensF P fs i off (Kd.pair d d') (fun x => good x.1 ∧ good' x.2) := fun H enc W n cs xs hle hl hx hg => by
  have hi : i < fs.size := by
    rcases Nat.lt_or_ge i fs.size with h' | h'
    · exact h'
    · rw [Array.getElem?_eq_none h'] at hf; cases hf
  have h1 := hg i f hf
  have hxi : xs[i]? = some (xs[i]'(by omega)) := List.getElem?_eq_getElem (by omega)
  rw [hxi, ho, hc] at h1
  obtain ⟨a, ha, hga⟩ := h H enc W n _ _ h1
  have hs : cs.length - off = d.sz + d'.sz := hl
  obtain ⟨b, hb, hgb⟩ := h' H enc W n cs xs (by omega) (by omega) hx hg
  exact ⟨(a, b), ⟨(cs.drop off).take d.sz, cs.drop (off + d.sz), (take_drop_add cs off d.sz).symm, ha, hb⟩, hga, hgb⟩
theorem opens_struct {α : Type} {P : Program} {t : TypeId} {fs : Array Field} {d : Kd α} {good : α → Prop} (ht : P.underlying t = some (.struct fs)) (hc : P.cellsOf t = d.sz) (h : OpensF P fs 0 0 d good) : Opens P t d good :=
  fun H enc W fuel cs x hx => by
    obtain ⟨xs, n, _, _, hl, hxl, hg⟩ := DataW.trod_struct ht hx
    have := h H enc W n cs xs (Nat.zero_le _) (by omega) hxl hg
    simpa using this
theorem len_le {α : Type} {d : Kd α} {W : World} {A : Option Addr} {l : List α} (h : d.C W A l.length l) : l.length ≤ maxLen := by
  have := h.2.1
  unfold maxLen
  omega
theorem inner_len {α : Type} {d : Kd α} {e : Nat} {W : World} {A : Option Addr} {l : List (List α)} (h : (Kd.slice e d).C W A l.length l) : ∀ y ∈ l, y.length ≤ maxLen := fun y hy => by
  obtain ⟨i, hi, rfl⟩ := List.mem_iff_getElem.1 hy
  obtain ⟨ad, c, _, _, hK, _⟩ := Kd.C_get h [] (i : Int) (by omega) (by omega)
  have e2 : l.getD (i : Int).toNat [] = l[i] := by simp [hi]
  rw [e2] at hK
  obtain ⟨A', c', _, _, hC⟩ := hK
  exact len_le hC
end Go.Proofs.YtbpfdjbnfkclcaaGreatDoor
end
section
set_option linter.unusedVariables false
namespace Go.Proofs.YtbpfdjbnfkclcaaGreatDoor
open Go Go.RowKit Go.ChangeShapes Go.WideShapes Go.ChangeAt Go.WideMaps Go.WideElems
theorem kw_named : Tryz.prog.globalNamed "loop.example/s02884/impl.keywords" = some 1 := by kernel_rfl
theorem kw_type : (Tryz.prog.globals[1]?).map (·.type) = some 99 := by kernel_rfl
theorem op_named : Tryz.prog.globalNamed "loop.example/s02884/impl.opSigns" = some 0 := by kernel_rfl
theorem op_type : (Tryz.prog.globals[0]?).map (·.type) = some 56 := by kernel_rfl
theorem p10_type : (Tryz.prog.globals[3]?).map (·.type) = some 117 := by kernel_rfl
theorem p10_cells : Tryz.prog.cellsOf 108 = 1 := by kernel_rfl
theorem p10_cells20 : Tryz.prog.cellsOf 117 = 20 := by kernel_rfl
theorem laid_tail {P : Program} {x : String × DataW Unit} {r : List (String × DataW Unit)} {w : World} (h : laidMet P (x :: r) w) : laidMet P r w := by
  obtain ⟨ps, hv, hn, hc⟩ := h
  obtain ⟨g, t, cs, fuel, p, q, h1, h2, h3, h4, h5, rfl⟩ := hv
  exact ⟨q, h5, (List.nodup_append.1 hn).2.1, fun b off hb => hc b off (List.mem_append_right _ hb)⟩
theorem kw_atKey {H : Type} : ∀ (l : List (List UInt8)) (k : List UInt8) (z : DataW H), (DataW.map (l.map fun x => (Lit.string x, DataW.lit (.bool true)))).atKey (.string k) z = if l.contains k then .lit (.bool true) else z := by
  intro l k z
  induction l with
  | nil => rfl
  | cons x l ih =>
    have hs : (Lit.string x).sameKey (Lit.string k) = (x == k) := rfl
    simp only [DataW.atKey] at ih
    simp only [DataW.atKey, List.map_cons, List.find?_cons, hs, List.contains_cons]
    by_cases h : x = k
    · subst h
      rw [show (x == x) = true from beq_self_eq_true x]
      rfl
    · rw [show (x == k) = false from beq_eq_false_iff_ne.2 h, show (k == x) = false from beq_eq_false_iff_ne.2 (Ne.symm h), Bool.false_or]
      exact ih
theorem kw_datum {H : Type} : (Rows.laid_loop_example_s02884_impl_keywords : DataW H) = .map (kwL.map fun x => (Lit.string x, DataW.lit (.bool true))) := rfl
set_option maxRecDepth 100000 in
theorem kw_of_laid {W : World} {r : List (String × DataW Unit)} (h : laidMet Tryz.prog (("loop.example/s02884/impl.keywords", Rows.laid_loop_example_s02884_impl_keywords) :: r) W) : KwOK W := by
  obtain ⟨ps, ⟨g0, t0, cs0, f0, p0, q0, hg0, ht0, hv0, hd0, _, _⟩, _, _⟩ := h
  obtain rfl := Option.some.inj (kw_named.symm.trans hg0)
  obtain rfl := Option.some.inj (kw_type.symm.trans ht0)
  rcases open_map Tryz.underlying99 hd0 with ⟨_, hx⟩ | ⟨bm, es, clock, m, rfl, hcs, hb, _, F, hx⟩
  · exact absurd (congrArg Prod.fst hx) (by intro e; cases e)
  simp only [Prod.mk.injEq] at hx
  have hcell : W.cell? ⟨1, 0, none⟩ = some (.map (some bm)) := by
    have := World.var?_cell hg0 hv0 0
    rw [Array.eq_one_of_toList hcs] at this
    simpa using this
  refine ⟨bm, es, clock, hcell, hb, fun w' hb' s hs => ?_⟩
  have zero : (zeroValue 4).run Tryz.prog w' = .ok (.bool false) w' := by kernel_rfl
  rcases fit_lookup (w := w') (string_law Tryz.underlying9) Tryz.underlying99 zero hb' F (keyOf_string_mk (s := s) Tryz.underlying9 (by unfold maxLen; omega)) with ⟨hrun, hat⟩ | ⟨v, y, hrun, hRv, hat, _⟩
  · have := hat (.lit (.bool false))
    rw [← hx.1, kw_datum, kw_atKey] at this
    rw [hrun]
    unfold isKw
    cases hc : kwL.contains s.data.toList with
    | false => rfl
    | true => rw [hc] at this; simp at this
  · obtain ⟨r, rfl, rfl⟩ := elemAt_bool Tryz.underlying4 hRv
    have := hat (.lit (.bool false))
    rw [← hx.1, kw_datum, kw_atKey] at this
    rw [hrun]
    unfold isKw
    cases hc : kwL.contains s.data.toList with
    | false => rw [hc] at this; simp at this; rw [← this]
    | true => rw [hc] at this; simp at this; rw [← this]
def opL : List (Int × List UInt8) := [(4, [43]), (5, [45]), (6, [42]), (7, [61]), (8, [60]), (9, [97, 110, 100]), (10, [111, 114]), (12, [124, 124])]
theorem op_atKey {H : Type} : ∀ (l : List (Int × List UInt8)) (k : Int) (z : DataW H), (DataW.map (l.map fun x => (Lit.int .i64 x.1, DataW.lit (.string x.2)))).atKey (.int .i64 k) z = match l.find? (fun x => x.1 == k) with | some x => .lit (.string x.2) | none => z := by
  intro l k z
  induction l with
  | nil => rfl
  | cons x l ih =>
    have hs : (Lit.int .i64 x.1).sameKey (Lit.int .i64 k) = (x.1 == k) := by
      unfold Lit.sameKey
      by_cases h : x.1 = k <;> simp [h]
    simp only [DataW.atKey] at ih
    simp only [DataW.atKey, List.map_cons, List.find?_cons, hs]
    by_cases h : x.1 = k
    · rw [show (x.1 == k) = true from beq_iff_eq.2 h]
    · rw [show (x.1 == k) = false from beq_eq_false_iff_ne.2 h]
      exact ih
theorem op_datum {H : Type} : (Rows.laid_loop_example_s02884_impl_opSigns : DataW H) = .map (opL.map fun x => (Lit.int .i64 x.1, DataW.lit (.string x.2))) := rfl
theorem op_sign {H : Type} (k : Int) : (match opL.find? (fun x => x.1 == k) with | some x => (DataW.lit (.string x.2) : DataW H) | none => .lit (.string [])) = .lit (.string (signL k)) := by
  by_cases h : k = 4 ∨ k = 5 ∨ k = 6 ∨ k = 7 ∨ k = 8 ∨ k = 9 ∨ k = 10 ∨ k = 12
  · rcases h with rfl | rfl | rfl | rfl | rfl | rfl | rfl | rfl <;> rfl
  · have hf : opL.find? (fun x => x.1 == k) = none := by
      rw [List.find?_eq_none]
      intro x hx
      unfold opL at hx
      simp only [List.mem_cons, List.not_mem_nil, or_false] at hx
      rcases hx with rfl | rfl | rfl | rfl | rfl | rfl | rfl | rfl <;> simp <;> omega
    rw [hf]
    unfold signL
    simp only [show ¬ k = 4 by omega, show ¬ k = 5 by omega, show ¬ k = 6 by omega, show ¬ k = 7 by omega, show ¬ k = 8 by omega, show ¬ k = 9 by omega, show ¬ k = 10 by omega, show ¬ k = 12 by omega, if_false]
set_option maxRecDepth 100000 in
theorem op_of_laid {W : World} {r : List (String × DataW Unit)} (h : laidMet Tryz.prog (("loop.example/s02884/impl.opSigns", Rows.laid_loop_example_s02884_impl_opSigns) :: r) W) : OpOK W := by
  obtain ⟨ps, ⟨g0, t0, cs0, f0, p0, q0, hg0, ht0, hv0, hd0, _, _⟩, _, _⟩ := h
  obtain rfl := Option.some.inj (op_named.symm.trans hg0)
  obtain rfl := Option.some.inj (op_type.symm.trans ht0)
  rcases open_map Tryz.underlying56 hd0 with ⟨_, hx⟩ | ⟨bm, es, clock, m, rfl, hcs, hb, _, F, hx⟩
  · exact absurd (congrArg Prod.fst hx) (by intro e; cases e)
  simp only [Prod.mk.injEq] at hx
  have hcell : W.cell? ⟨0, 0, none⟩ = some (.map (some bm)) := by
    have := World.var?_cell hg0 hv0 0
    rw [Array.eq_one_of_toList hcs] at this
    simpa using this
  refine ⟨bm, es, clock, hcell, hb, fun w' hb' op hop => ?_⟩
  have zero : (zeroValue 9).run Tryz.prog w' = .ok (.string ⟨#[]⟩) w' := by kernel_rfl
  rcases Go.Maps.fit_look (w := w') false (Go.Maps.int_keyed Tryz.underlying3) Tryz.underlying56 zero hb' F (Go.Maps.keyOf_int_mk Tryz.underlying3 hop) with ⟨hrun, _, hat⟩ | ⟨e0, y, _, _, hrun, hRv, hat, _⟩
  · have := hat (.lit (.string []))
    rw [← hx.1, op_datum, op_atKey, op_sign] at this
    rw [hrun]
    have e : signL op = [] := by injection this with h; injection h
    rw [e]
    rfl
  · obtain ⟨s, he, rfl, _⟩ := WideElems.elemAt_string Tryz.underlying9 hRv
    have := hat (.lit (.string []))
    rw [← hx.1, op_datum, op_atKey, op_sign] at this
    rw [hrun]
    have e : signL op = s.data.toList := by injection this with h; injection h
    rw [e, he]
    rfl
theorem len_named : ((begin Tryz.prog (fun _ _ => 0) default).world.heap[2]?).bind Obj.row? = some (#[.int .i64 0], 3) := by kernel_rfl
set_option maxRecDepth 100000 in
theorem gok_of_laid {W : World} (h : laidMetH Tryz.prog [("math/bits.deBruijn32tab", Rows.laid_math_bits_deBruijn32tab), ("math/bits.deBruijn64tab", Rows.laid_math_bits_deBruijn64tab), ("internal/strconv.uint64pow10", Rows.laid_internal_strconv_uint64pow10), ("unicode/utf8.acceptRanges", Rows.laid_unicode_utf8_acceptRanges), ("loop.example/s02884/impl.keywords", Rows.laid_loop_example_s02884_impl_keywords), ("loop.example/s02884/impl.opSigns", Rows.laid_loop_example_s02884_impl_opSigns), ("unicode/utf8.first", Rows.laid_unicode_utf8_first)] W) (hS : W.ShapedOpen Tryz.prog) : GOK W := by
  rw [MakeChecks.laidMetH_plain _ _ _ (by kernel_rfl)] at h
  have h2 := laid_tail (laid_tail h)
  have h4 := laid_tail (laid_tail h2)
  refine ⟨kw_of_laid h4, op_of_laid (laid_tail h4), Lib.tabIs_of_head (k := .u64) (zs := Lib.pow10Tab) p10_named p10_type Tryz.underlying117 Tryz.underlying108 p10_cells p10_cells20 h2, ?_⟩
  exact Go.Proofs.cell_of_shapedOpen_int hS (of_decide_eq_true (by kernel_rfl)) len_named rfl (by kernel_rfl) (by kernel_rfl) Tryz.underlying3
theorem vars_2 {H : Type} {enc : TypeId × Value → H} {P : Program} {w : World} {spare : Nat → Bool} {n1 n2 : String} {gs : List (DataW H)} {ps : List MemPlace} (h : DataW.TrodVars enc P w spare [n1, n2] gs ps) : ∃ d1 d2, gs = [d1, d2] := by
  cases gs with
  | nil => simp [DataW.TrodVars] at h
  | cons d ds =>
    obtain ⟨g, t, cs, fuel, p, q, h1, h2, h3, h4, hs, e⟩ := h
    obtain ⟨_, _, _, _, d2, _, rfl, _⟩ := trodVars_one hs
    exact ⟨d, d2, rfl⟩
/-- The wrap of a law with its laid variables, the world's shape kept. -/
theorem returns_shaped {H : Type} {enc : TypeId × Value → H} {a : Assume} {C : Checked} {os : Os} {f : FuncId} {fn : Func} {s : ChangeSpec} {conds : List PathCond} {apart fresh handsOn again : Bool} {X : World → Array Value → Prop}
    (hX : ∀ (w w' : World) (args : Array Value), w.heap = w'.heap → X w args → X w' args)
    (own : ownKnob C.prog.godebug = none) (started : os.Started) (noInit : C.prog.inits.idxOf? f = none) (hfn : C.prog.funcs[f]? = some fn)
    (witness : ∃ (w : World) (tape : Tape) (i : Input), w.os = os ∧ (w.forCall tape i).Shaped C.prog ∧ i.vars = [] ∧ Input.okWide C.prog (w.forCall tape i) .any w.heap.size f i ∧
      ((s.pre enc C.prog fn conds apart (w.forCall tape i).memory i.args ∧ X (w.forCall tape i).memory i.args) ∧ sizedMet enc C.prog fn (OpenSpec.ofChange s) apart (w.forCall tape i).memory i.args) ∧ a.holds C.prog (lone (Frame.enter C.prog f i.args .normal) [] (w.forCall tape i)))
    (contract : ∀ (W : World) (base : Nat) (args : Array Value) (ds gs : List (DataW H)) (before : List MemPlace),
      (∀ (j : Nat) t v, fn.params[j]? = some t → args[j]? = some v → Value.okWide C.prog W .any base t v) →
      DataW.Whole enc C.prog fn.params.toList s.vars apart W args.toList ds gs before →
      conds.all (PathCond.test C.prog ⟨fn.params.toList, ds, s.plain.varTypes C.prog, gs⟩) = true →
      (DataW.weightsEach C.prog (fn.params.toList ++ s.plain.varTypes C.prog) (ds ++ gs)).all (· ≤ reachBytes) = true → X W args →
      W.ShapedOpen C.prog →
      a.holds C.prog (lone (Frame.enter C.prog f args .normal) [] W) →
      Calls C.prog f args W fun e W' => ∃ v, e = .returned v ∧ s.post enc C.prog fn apart fresh handsOn again W args v W') :
    ReturnsInHanded a C os f .any (fun w args => (s.pre enc C.prog fn conds apart w args ∧ X w args) ∧ sizedMet enc C.prog fn (OpenSpec.ofChange s) apart w args) (s.post enc C.prog fn apart fresh handsOn again) := by
  refine returnsInHanded_of_calls own started noInit witness ?_
  intro w tape i _ hsh _ hok hpre hholds
  obtain ⟨_, _, _, fn', hfn', _, _, _, _, hval⟩ := hok
  have e : fn' = fn := Option.some.inj (hfn'.symm.trans hfn)
  subst e
  obtain ⟨⟨⟨ds, gs, before, hw, hc⟩, hx⟩, hz⟩ := hpre
  have hw' := DataW.Whole.of_heap (w' := w.forCall tape i) (by rfl) hw
  refine (contract (w.forCall tape i) w.heap.size i.args ds gs before hval hw' hc (hz.weights hw) (hX _ _ _ (by rfl) hx) hsh hholds).mono fun e W' ⟨v, he, hp⟩ => ?_
  subst he
  exact ChangeSpec.post_blind hp
end Go.Proofs.YtbpfdjbnfkclcaaGreatDoor
end
section
set_option linter.unusedVariables false
set_option linter.unusedSimpArgs false
namespace Go.Proofs.YtbpfdjbnfkclcaaGreatDoor.fnExactPrintSql
open Go.ChangeShapes Go.WideShapes Go.ChangeAt Go.RowKit Go.Proofs.YtbpfdjbnfkclcaaGreatDoor Go.Proofs.YtbpfdjbnfkclcaaGreatDoor.L Go.Proofs.YtbpfdjbnfkclcaaGreatDoorW.PrintWords
open Go.ChangeMaps (open_string shut_string)
def good63 (x : S63) : Prop := x.f0.size ≤ maxLen ∧ (Lit.int .i64 x.f1).wf = true
instance : Inhabited S63 := ⟨z63⟩
theorem open63 : Opens Tryz.prog 63 k63 good63 := fun H enc W fuel cs x h => by
  obtain ⟨a, ha, hg⟩ := (opens_struct Tryz.underlying63 (by kernel_rfl) (opensF_cons _ rfl rfl (by kernel_rfl) (opens_string Tryz.underlying9) (opensF_last _ rfl rfl (by kernel_rfl) (opens_int Tryz.underlying3)))) H enc W fuel cs x h
  exact ⟨⟨a.1, a.2⟩, ha, hg⟩
def good65 (x : S65) : Prop := (Lit.int .i64 x.f0).wf = true ∧ (Lit.int .i64 x.f1).wf = true ∧ x.f2.size ≤ maxLen
instance : Inhabited S65 := ⟨z65⟩
theorem open65 : Opens Tryz.prog 65 k65 good65 := fun H enc W fuel cs x h => by
  obtain ⟨a, ha, hg⟩ := (opens_struct Tryz.underlying65 (by kernel_rfl) (opensF_cons _ rfl rfl (by kernel_rfl) (opens_int Tryz.underlying3) (opensF_cons _ rfl rfl (by kernel_rfl) (opens_int Tryz.underlying3) (opensF_last _ rfl rfl (by kernel_rfl) (opens_string Tryz.underlying9))))) H enc W fuel cs x h
  exact ⟨⟨a.1, a.2.1, a.2.2⟩, ha, hg⟩
def good68 (x : S68) : Prop := (Lit.int .i64 x.f0).wf = true ∧ (Lit.int .i64 x.f1).wf = true ∧ x.f2.size ≤ maxLen
instance : Inhabited S68 := ⟨z68⟩
theorem open68 : Opens Tryz.prog 68 k68 good68 := fun H enc W fuel cs x h => by
  obtain ⟨a, ha, hg⟩ := (opens_struct Tryz.underlying68 (by kernel_rfl) (opensF_cons _ rfl rfl (by kernel_rfl) (opens_int Tryz.underlying3) (opensF_cons _ rfl rfl (by kernel_rfl) (opens_int Tryz.underlying3) (opensF_last _ rfl rfl (by kernel_rfl) (opens_string Tryz.underlying9))))) H enc W fuel cs x h
  exact ⟨⟨a.1, a.2.1, a.2.2⟩, ha, hg⟩
/-- THE ONE PURE STATEMENT of the law: no memory, no Go. -/
def Pure0 : Prop := ∀ (a0_0 : Int) (a0_1 : ByteArray) (l0_2 : List (S63)) (l0_3 : List (S65)) (a0_4 : ByteArray) (l0_5 : List (S68)) (l0_6 : List (S68)) (l0_7 : List (List (S68))), (Lit.int .i64 a0_0).wf = true → a0_1.size ≤ maxLen → l0_2.length ≤ maxLen → (∀ y ∈ l0_2, good63 y) → l0_3.length ≤ maxLen → (∀ y ∈ l0_3, good65 y) → a0_4.size ≤ maxLen → l0_5.length ≤ maxLen → (∀ y ∈ l0_5, good68 y) → l0_6.length ≤ maxLen → (∀ y ∈ l0_6, good68 y) → l0_7.length ≤ maxLen → (∀ y ∈ l0_7, (∀ z ∈ y, good68 z)) → (∀ y ∈ l0_7, y.length ≤ maxLen) → ∃ k, laws_FnExactPrintSql.f k a0_0 a0_1 l0_2 l0_3 a0_4 l0_5 l0_6 l0_7 = some true
theorem own : ownKnob Tryz.prog.godebug = none := by kernel_rfl
theorem laidOut : laidOutB Tryz.prog = true := by kernel_rfl
/-- The door's heap with the pinned tables. -/
noncomputable def door0 (os : Os) : World := (World.doorLaid Tryz.prog 169 os).layVars Tryz.prog [("unicode/utf8.first", Rows.laid_unicode_utf8_first)]
set_option maxRecDepth 100000 in
theorem door_met (os : Os) (args : Array Value) : laidMetH Tryz.prog Rows.fnExactPrintSqlRow.laid ((door0 os).forCall (fun _ _ => 0) ⟨#[], args, []⟩).memory :=
  laidMetH_of_parts3 (fuel := 8) (laidMet_layVars (w0 := World.doorLaid Tryz.prog 169 os) ["unicode/utf8.first"] [0, 1, 2, 3, 5, 6, 7, 8, 9, 10, 11, 12, 13, 14] (by kernel_rfl) (by kernel_rfl) (by kernel_rfl) (LaidIn.of_run [0, 1, 2, 3, 5, 6, 7, 8, 9, 10, 11, 12, 13, 14] 8 (by kernel_rfl) (by kernel_rfl) (by kernel_rfl) (by kernel_rfl))) (by kernel_rfl) (by kernel_rfl)
set_option maxRecDepth 100000 in
theorem lifted (Q : Pure0) (os : Os) (started : os.Started) (H : Type) (enc : TypeId × Value → H) :
    ReturnsInHanded {} Tryz.checked os 3 .any (fun w args => (Rows.fnExactPrintSqlSpec.pre enc Tryz.prog Tryz.f3 [] false w args ∧ laidMetH Tryz.prog Rows.fnExactPrintSqlRow.laid w) ∧ sizedMet enc Tryz.prog Tryz.f3 (OpenSpec.ofChange Rows.fnExactPrintSqlSpec) false w args) (Rows.fnExactPrintSqlSpec.post enc Tryz.prog Tryz.f3 false true false false) := by
  refine returns_shaped (C := Tryz.checked) (X := fun w _ => laidMetH Tryz.prog Rows.fnExactPrintSqlRow.laid w) (fun _ _ _ hh h => h.of_heap hh) own started (by kernel_rfl) Tryz.func3
    (ChangeSpec.witness_shaped (enc := enc) (C := Tryz.checked) (os := os) (X := fun w _ => laidMetH Tryz.prog Rows.fnExactPrintSqlRow.laid w) false (door0 os) #[.agg #[.int .i64 0, .string ByteArray.empty, .slice none 0 0, .slice none 0 0, .string ByteArray.empty, .slice none 0 0, .slice none 0 0, .slice none 0 0]] 8 ((World.layVars_os _ _ _).trans rfl) (World.shaped_of_RefB (by kernel_rfl) (by kernel_rfl)) (by kernel_rfl) (by kernel_rfl) (by kernel_rfl) (door_met os _)) ?_
  intro W base args ds gs before hval0 hW _ _ hL hSh _
  have hval : ∀ (j : Nat) t v, Tryz.f3.params[j]? = some t → args[j]? = some v → Value.okWide Tryz.prog W .any base t v := hval0
  have hW' := hW
  obtain ⟨p, q, hA0, hV, rfl, hfz, hnd⟩ := hW
  have hA : DataW.TrodAll enc Tryz.prog W 0 (fun _ => true) true Tryz.f3.params.toList args.toList ds p := hA0
  rw [Tryz.params3] at hA hval
  obtain ⟨v0, vs0, d0, ds0, p0, q0, hargs, rfl, rfl, h0, r0⟩ := trodAll_cons hA
  obtain ⟨rfl, rfl, rfl⟩ := trodAll_nil r0
  obtain rfl : args = #[v0] := by cases args; simp_all
  have hV' := hV
  obtain ⟨dg1, dg2, rfl⟩ := vars_2 hV'
  have hG := gok_of_laid hL hSh
  have k0 := h0
  have lt0 : ∀ x ∈ p0, x.block < W.heap.size := by obtain ⟨m, hm⟩ := k0; exact DataW.trod_lt m _ _ _ hm
  obtain ⟨cs0, rfl, hsz0⟩ := okWide_struct Tryz.underlying27 (hval 0 27 v0 rfl rfl)
  obtain ⟨fuel0, hf0⟩ := h0
  obtain ⟨x0, hK0, hg0⟩ := (opens_struct Tryz.underlying27 (by kernel_rfl) (opensF_cons _ rfl rfl (by kernel_rfl) (opens_int Tryz.underlying3) (opensF_cons _ rfl rfl (by kernel_rfl) (opens_string Tryz.underlying9) (opensF_cons _ rfl rfl (by kernel_rfl) (opens_slice Tryz.underlying22 (by kernel_rfl) open63) (opensF_cons _ rfl rfl (by kernel_rfl) (opens_slice Tryz.underlying23 (by kernel_rfl) open65) (opensF_cons _ rfl rfl (by kernel_rfl) (opens_string Tryz.underlying9) (opensF_cons _ rfl rfl (by kernel_rfl) (opens_slice Tryz.underlying24 (by kernel_rfl) open68) (opensF_cons _ rfl rfl (by kernel_rfl) (opens_slice Tryz.underlying24 (by kernel_rfl) open68) (opensF_last _ rfl rfl (by kernel_rfl) (opens_slice Tryz.underlying25 (by kernel_rfl) (opens_slice Tryz.underlying24 (by kernel_rfl) open68))))))))))) H enc W fuel0 cs0.toList _ (by simpa [Value.cells] using hf0)
  obtain ⟨e7_, f7_, hcs0, rfl, ⟨e6_, f6_, rfl, rfl, ⟨e5_, f5_, rfl, ⟨A0_2, c0_2, rfl, hc0_2, hr0_2⟩, ⟨e4_, f4_, rfl, ⟨A0_3, c0_3, rfl, hc0_3, hr0_3⟩, ⟨e3_, f3_, rfl, rfl, ⟨e2_, f2_, rfl, ⟨A0_5, c0_5, rfl, hc0_5, hr0_5⟩, ⟨e1_, f1_, rfl, ⟨A0_6, c0_6, rfl, hc0_6, hr0_6⟩, ⟨A0_7, c0_7, rfl, hc0_7, hr0_7⟩⟩⟩⟩⟩⟩⟩⟩ := hK0
  obtain rfl : cs0 = #[.int .i64 x0.1, .string x0.2.1, .slice A0_2 x0.2.2.1.length c0_2, .slice A0_3 x0.2.2.2.1.length c0_3, .string x0.2.2.2.2.1, .slice A0_5 x0.2.2.2.2.2.1.length c0_5, .slice A0_6 x0.2.2.2.2.2.2.1.length c0_6, .slice A0_7 x0.2.2.2.2.2.2.2.length c0_7] := by
    have h_ := congrArg List.toArray hcs0
    simpa using h_
  clear hcs0 hsz0
  clear hA0 hval0
  obtain ⟨k, hk⟩ := Q (x0.1) (x0.2.1) (x0.2.2.1) (x0.2.2.2.1) (x0.2.2.2.2.1) (x0.2.2.2.2.2.1) (x0.2.2.2.2.2.2.1) (x0.2.2.2.2.2.2.2) hg0.1 hg0.2.1 (len_le hr0_2) hg0.2.2.1 (len_le hr0_3) hg0.2.2.2.1 hg0.2.2.2.2.1 (len_le hr0_5) hg0.2.2.2.2.2.1 (len_le hr0_6) hg0.2.2.2.2.2.2.1 (len_le hr0_7) hg0.2.2.2.2.2.2.2 (inner_len hr0_7)
  refine (laws_FnExactPrintSql.calls k (x0.1) (x0.2.1) A0_2 c0_2 (x0.2.2.1) A0_3 c0_3 (x0.2.2.2.1) (x0.2.2.2.2.1) A0_5 c0_5 (x0.2.2.2.2.2.1) A0_6 c0_6 (x0.2.2.2.2.2.2.1) A0_7 c0_7 (x0.2.2.2.2.2.2.2) true rfl W hG hr0_2 hc0_2 hr0_3 hc0_3 hr0_5 hc0_5 hr0_6 hc0_6 hr0_7 hc0_7 hk).mono fun e W' he => ?_
  obtain ⟨rfl, bel0⟩ := he
  have bel : Below W.heap.size W W' := bel0
  exact ⟨_, rfl, _, _, _, [], _, _, hW', trodAll_mk1 (shut_bool Tryz.underlying4 _), (trodAll_cons_mk (Below.trod laidOut (by kernel_rfl) (of_decide_eq_true (by kernel_rfl)) k0 bel lt0) trodAll_mk0), Below.trodVars laidOut bel (by kernel_rfl) hV, bel.frame _, fun h => by cases h⟩
theorem over (Q : Pure0) : Rows.fnExactPrintSqlRow.holds Tryz.pinned (OpenSpec.ofChange Rows.fnExactPrintSqlSpec) :=
  OpenClaim.holds_of_wide 3 Tryz.f3 rfl rfl rfl rfl rfl rfl rfl ⟨rfl, rfl, rfl, rfl, rfl⟩ rfl rfl rfl rfl rfl (by kernel_rfl) Tryz.func3 (by kernel_rfl)
    (of_decide_eq_true (by kernel_rfl)) (by unfold Func.isWrapper; first | (rw [if_pos (by decide +kernel)]; kernel_rfl) | (rw [if_neg (by decide +kernel)]; exact ⟨rfl, rfl⟩))
    (fun os started H enc _ => lifted Q os started H enc)
/-- The tied card. -/
theorem card (Q : Pure0) : Rows.FnExactPrintSqlCardSaid :=
  Claim7.holds_tied_plain_at .later [] [.data, .data, .data, .data, .mapped, .mapped, .pinned] true (true, "2408f25ddfeb66c216028a551600e3f1031924ebf7bdeb17bcd0ae6231493635") false (over Q) (fun _ h => by cases h) (by kernel_rfl) (fun _ h => by cases h) fnExactPrintSql_row_tie rfl ⟨rfl, rfl⟩ (by kernel_rfl) rfl
    (fun f fn hf hfn => by
      obtain rfl : f = 3 := Option.some.inj ((show Tryz.prog.funcNamed "loop.example/s02884/laws.FnExactPrintSql" = some 3 by kernel_rfl).symm.trans hf) |>.symm
      obtain rfl : fn = Tryz.f3 := (Option.some.inj (Tryz.func3.symm.trans hfn)).symm
      refine ⟨by kernel_rfl, fun j t ht => ?_⟩
      rw [Tryz.params3] at ht
      have ha : (#[27] : Array TypeId).all (fun t => !Tryz.prog.wantsStandIn t) = true := by kernel_rfl
      have h1 := (Array.all_eq_true_iff_forall_mem.1 ha) t (Array.mem_of_getElem? ht)
      have h2 : Tryz.prog.wantsStandIn t = false := by simpa using h1
      exact h2)
    (by kernel_rfl)
end Go.Proofs.YtbpfdjbnfkclcaaGreatDoor.fnExactPrintSql
end
section
set_option linter.unusedVariables false
namespace Go.Proofs.YtbpfdjbnfkclcaaGreatDoor.Pure
open Go Go.RowKit Go.Proofs.YtbpfdjbnfkclcaaGreatDoor Go.Proofs.YtbpfdjbnfkclcaaGreatDoorW.PrintWords
theorem w64 (x : Int) (h : -9223372036854775808 ≤ x ∧ x ≤ 9223372036854775807) : wrap64 x = x := by unfold wrap64; omega
theorem wsucc (i : Nat) (h : i < 9223372036854775807) : wrap64 ((i : Int) + 1) = ((i + 1 : Nat) : Int) := by unfold wrap64; omega
theorem rdS (l : List ByteArray) (i : Nat) (h : i < l.length) : rdOf ByteArray.empty l (i : Int) = l[i] := by
  simp [rdOf, List.getD, h]
end Go.Proofs.YtbpfdjbnfkclcaaGreatDoor.Pure
end
section
set_option linter.unusedVariables false
set_option linter.unusedSimpArgs false
namespace Go.Proofs.YtbpfdjbnfkclcaaGreatDoor.Gen
open Go Go.RowKit Go.Proofs.YtbpfdjbnfkclcaaGreatDoor Go.Proofs.YtbpfdjbnfkclcaaGreatDoorW.PrintWords
/-- The sum of the elements' weights. -/
def sumW {α : Type} (w : α → Nat) (l : List α) : Nat := (l.map w).sum
theorem sumW_drop {α : Type} (w : α → Nat) (l : List α) (i : Nat) (h : i < l.length) : sumW w (l.drop i) = w l[i] + sumW w (l.drop (i + 1)) := by
  rw [show l.drop i = l[i] :: l.drop (i + 1) from List.drop_eq_getElem_cons h]
  rfl
theorem mem_sumW {α : Type} (w : α → Nat) (l : List α) (x : α) (h : x ∈ l) : w x ≤ sumW w l := by
  induction l with
  | nil => cases h
  | cons y l ih =>
    have e : sumW w (y :: l) = w y + sumW w l := rfl
    rcases List.mem_cons.1 h with rfl | h
    · omega
    · have := ih h; omega
theorem sz {α : Type} (w : α → Nat) (F : Nat → List α → Int → Int → Option Int) (E : Nat → α → Int → Option Int) (l : List α) (B : Int)
    (hs : ∀ k a (i : Nat) (h : i < l.length), F (k + 1) l a (i : Int) = (E k l[i] a).bind fun t => if t < 0 then some (-1) else F k l t ((i + 1 : Nat) : Int))
    (hz : ∀ k a, F (k + 1) l a (l.length : Int) = some a)
    (hE : ∀ x ∈ l, ∀ a, 0 ≤ a → a ≤ B → Ev (fun k => E k x a) (if (w x : Int) ≤ a then a - w x else -1)) (d : Nat) :
    ∀ (i : Nat) (a : Int), i + d = l.length → 0 ≤ a → a ≤ B → Ev (fun k => F k l a (i : Int)) (if (sumW w (l.drop i) : Int) ≤ a then a - sumW w (l.drop i) else -1) := by
  induction d with
  | zero =>
    intro i a hi h0 h1
    have hd : l.drop i = [] := List.drop_eq_nil_of_le (by omega)
    obtain rfl : i = l.length := by omega
    refine Ev.step (f := fun _ => some a) (fun k => hz k a) ?_
    rw [hd]
    have e : sumW w ([] : List α) = 0 := rfl
    rw [e, if_pos (by omega)]
    simpa using Ev.now a
  | succ d ih =>
    intro i a hi h0 h1
    have hil : i < l.length := by omega
    have hsum := sumW_drop w l i hil
    refine Ev.step (fun k => hs k a i hil) ?_
    refine (hE _ (List.getElem_mem hil) a h0 h1).bind ?_
    by_cases hc : (w l[i] : Int) ≤ a
    · simp only [if_pos hc, if_neg (show ¬ (a - (w l[i] : Int) < 0) by omega)]
      have := ih (i + 1) (a - (w l[i] : Int)) (by omega) (by omega) (by omega)
      have e1 : ((sumW w (l.drop (i + 1)) : Int) ≤ a - (w l[i] : Int)) ↔ ((sumW w (l.drop i) : Int) ≤ a) := by rw [hsum]; omega
      have e2 : a - (w l[i] : Int) - (sumW w (l.drop (i + 1)) : Int) = a - (sumW w (l.drop i) : Int) := by rw [hsum]; omega
      rw [e2] at this
      simpa only [e1] using this
    · simp only [if_neg hc, if_pos (show (-1 : Int) < 0 by decide)]
      rw [if_neg (by rw [hsum]; omega)]
      exact Ev.now _
theorem copy {α β : Type} (cv : α → β) (F : Nat → List α → List β → Int → Option (List β)) (E : Nat → α → Option β) (l : List α)
    (hs : ∀ k o (i : Nat) (h : i < l.length), o.length = l.length → F (k + 1) l o (i : Int) = (E k l[i]).bind fun t => F k l (o.set i t) ((i + 1 : Nat) : Int))
    (hz : ∀ k o, F (k + 1) l o (l.length : Int) = some o)
    (hE : ∀ x ∈ l, Ev (fun k => E k x) (cv x)) (d : Nat) :
    ∀ (i : Nat) (o : List β), i + d = l.length → o.length = l.length → (∀ j, j < i → o[j]? = (l.map cv)[j]?) → Ev (fun k => F k l o (i : Int)) (l.map cv) := by
  induction d with
  | zero =>
    intro i o hi ho hx
    have e : o = l.map cv := by
      apply List.ext_getElem?
      intro j
      by_cases hj : j < i
      · exact hx j hj
      · rw [List.getElem?_eq_none (by omega), List.getElem?_eq_none (by rw [List.length_map]; omega)]
    obtain rfl : i = l.length := by omega
    rw [← e]
    exact Ev.step (f := fun _ => some o) (fun k => hz k o) (Ev.now _)
  | succ d ih =>
    intro i o hi ho hx
    have hil : i < l.length := by omega
    refine Ev.step (fun k => hs k o i hil ho) ?_
    refine (hE _ (List.getElem_mem hil)).bind ?_
    refine ih (i + 1) (o.set i (cv l[i])) (by omega) (by rw [List.length_set]; exact ho) (fun j hj => ?_)
    rw [List.getElem?_set]
    by_cases h : i = j
    · subst h; simp [hil, ho]
    · rw [if_neg h]; exact hx j (by omega)
theorem eq {α : Type} (F : Nat → List α → List α → Int → Option Bool) (E : Nat → α → Option Bool) (l : List α)
    (hs : ∀ k (i : Nat) (h : i < l.length), F (k + 1) l l (i : Int) = (E k l[i]).bind fun t => if t = true then F k l l ((i + 1 : Nat) : Int) else some false)
    (hz : ∀ k, F (k + 1) l l (l.length : Int) = some true)
    (hE : ∀ x ∈ l, Ev (fun k => E k x) true) (d : Nat) : ∀ (i : Nat), i + d = l.length → Ev (fun k => F k l l (i : Int)) true := by
  induction d with
  | zero =>
    intro i hi
    obtain rfl : i = l.length := by omega
    exact Ev.step (f := fun _ => some true) (fun k => hz k) (Ev.now _)
  | succ d ih =>
    intro i hi
    have hil : i < l.length := by omega
    refine Ev.step (fun k => hs k i hil) ?_
    refine (hE _ (List.getElem_mem hil)).bind ?_
    simp only [if_true]
    exact ih (i + 1) (by omega)
theorem every {α : Type} (p : α → Bool) (r : Bool) (F : Nat → Int → Option Bool) (E : Nat → α → Option Bool) (l : List α)
    (hs : ∀ k (i : Nat) (h : i < l.length), F (k + 1) (i : Int) = (E k l[i]).bind fun t => if t = true then F k ((i + 1 : Nat) : Int) else some false)
    (hz : Ev (fun k => F k (l.length : Int)) r)
    (hE : ∀ x ∈ l, Ev (fun k => E k x) (p x)) (d : Nat) : ∀ (i : Nat), i + d = l.length → Ev (fun k => F k (i : Int)) ((l.drop i).all p && r) := by
  induction d with
  | zero =>
    intro i hi
    have hd : l.drop i = [] := List.drop_eq_nil_of_le (by omega)
    obtain rfl : i = l.length := by omega
    rw [hd]
    exact hz
  | succ d ih =>
    intro i hi
    have hil : i < l.length := by omega
    have hd : l.drop i = l[i] :: l.drop (i + 1) := List.drop_eq_getElem_cons hil
    refine Ev.step (fun k => hs k i hil) ?_
    refine (hE _ (List.getElem_mem hil)).bind ?_
    rw [hd, List.all_cons]
    cases hp : p l[i] with
    | false => simp only [Bool.false_and, if_neg (show ¬ (false = true) by decide)]; exact Ev.now _
    | true => simp only [if_true, Bool.true_and]; exact ih (i + 1) (by omega)
end Go.Proofs.YtbpfdjbnfkclcaaGreatDoor.Gen
end
section
set_option linter.unusedVariables false
set_option linter.unusedSimpArgs false
namespace Go.Proofs.YtbpfdjbnfkclcaaGreatDoor.Pure
open Go Go.RowKit Go.Proofs.YtbpfdjbnfkclcaaGreatDoor Go.Proofs.YtbpfdjbnfkclcaaGreatDoor.L Go.Proofs.YtbpfdjbnfkclcaaGreatDoorW.PrintWords Go.Proofs.YtbpfdjbnfkclcaaGreatDoorW.PrintMore Go.Proofs.YtbpfdjbnfkclcaaGreatDoorW.PrintLast
abbrev LCol := S63
abbrev LVal := S65
abbrev LItm := S68
abbrev Col := S46
abbrev Val := S49
abbrev Itm := S75
def cvC (x : LCol) : Col := ⟨x.f0, x.f1⟩
def cvV (x : LVal) : Val := ⟨x.f0, x.f1, x.f2⟩
def cvI (x : LItm) : Itm := ⟨x.f0, x.f1, x.f2⟩
def wC (x : LCol) : Nat := x.f0.size
def wV (x : LVal) : Nat := x.f2.size
def wI (x : LItm) : Nat := x.f2.size
def wtL {α : Type} (w : α → Nat) (l : List α) : Nat := l.length + Gen.sumW w l
theorem rdLC (l : List LCol) (i : Nat) (h : i < l.length) : rd_T63 l (i : Int) = l[i] := by simp [rd_T63, h]
theorem rdLV (l : List LVal) (i : Nat) (h : i < l.length) : rd_T65 l (i : Int) = l[i] := by simp [rd_T65, h]
theorem rdLI (l : List LItm) (i : Nat) (h : i < l.length) : rd_T68 l (i : Int) = l[i] := by simp [rd_T68, h]
theorem rdCol (l : List Col) (i : Nat) (h : i < l.length) : rd_T46 l (i : Int) = l[i] := by simp [rd_T46, h]
theorem rdVal (l : List Val) (i : Nat) (h : i < l.length) : rd_T49 l (i : Int) = l[i] := by simp [rd_T49, h]
theorem rdItm (l : List Itm) (i : Nat) (h : i < l.length) : rd_T75 l (i : Int) = l[i] := by simp [rd_T75, h]
theorem rdLII (l : List (List LItm)) (i : Nat) (h : i < l.length) : rd_L5 l (i : Int) = l[i] := by simp [rd_L5, h]
theorem rdII (l : List (List Itm)) (i : Nat) (h : i < l.length) : rd_L9 l (i : Int) = l[i] := by simp [rd_L9, h]
theorem szf {α : Type} (w : α → Nat) (F : Nat → List α → Int → Int → Option Int) (G : Nat → Option Int) (l : List α) (a : Int) (hl : l.length ≤ 9223372036854775807) (h0 : 0 ≤ a) (h1 : a ≤ 1048576)
    (hG : ∀ k, G k = if (wrap64 (a - (l.length : Int))) < 0 then some (-1) else F k l (wrap64 (a - (l.length : Int))) 0)
    (h : ∀ b, 0 ≤ b → b ≤ 1048576 → Ev (fun k => F k l b ((0 : Nat) : Int)) (if (Gen.sumW w (l.drop 0) : Int) ≤ b then b - Gen.sumW w (l.drop 0) else -1)) :
    Ev G (if (wtL w l : Int) ≤ a then a - wtL w l else -1) := by
  refine Ev.congr hG ?_
  simp only [w64 (a - (l.length : Int)) (by omega)]
  by_cases hc : a - (l.length : Int) < 0
  · simp only [if_pos hc]
    rw [if_neg (by unfold wtL; omega)]
    exact Ev.now _
  · simp only [if_neg hc]
    have h := h (a - (l.length : Int)) (by omega) (by omega)
    simp only [List.drop_zero] at h
    have e1 : ((Gen.sumW w l : Int) ≤ a - (l.length : Int)) ↔ ((wtL w l : Int) ≤ a) := by unfold wtL; omega
    have e2 : a - (l.length : Int) - (Gen.sumW w l : Int) = a - (wtL w l : Int) := by unfold wtL; omega
    rw [e2] at h
    simp only [e1] at h
    exact h
theorem szColumn_ev (l : List LCol) (a : Int) (hl : l.length ≤ 9223372036854775807) (hs : ∀ y ∈ l, y.f0.size ≤ 9223372036854775807) (h0 : 0 ≤ a) (h1 : a ≤ 1048576) :
    Ev (fun k => laws_szColumnS.f k l a) (if (wtL wC l : Int) ≤ a then a - wtL wC l else -1) := by
  refine szf wC (fun k l a i => laws_szColumnS.l0 k l a i) _ l a (by omega) h0 h1 (fun k => rfl) (fun b hb0 hb1 => ?_)
  refine Gen.sz wC (fun k l a i => laws_szColumnS.l0 k l a i) (fun k x a => laws_szColumn.f x.f0 x.f1 a) l 1048576 (fun k a i h => ?_) (fun k a => ?_) (fun x hx a h0 h1 => ?_) l.length 0 b (by omega) hb0 hb1
  · rw [laws_szColumnS.l0, if_pos (by omega), if_pos (by omega), rdLC l i h, wsucc i (by omega)]
  · rw [laws_szColumnS.l0, if_neg (by omega)]
  · have := hs x hx
    unfold laws_szColumn.f
    rw [w64 (a - (x.f0.size : Int)) (by omega)]
    by_cases hc : a - (x.f0.size : Int) < 0
    · rw [if_pos hc, if_neg (show ¬ ((wC x : Nat) : Int) ≤ a by unfold wC; omega)]; exact Ev.now _
    · rw [if_neg hc, if_pos (show ((wC x : Nat) : Int) ≤ a by unfold wC; omega)]; exact Ev.now _
theorem toColumn_ev (l : List LCol) (hl : l.length ≤ 1048576) : Ev (fun k => laws_toColumnS.f k l) (l.map cvC) := by
  refine Ev.congr (fun k => ?_) (Gen.copy cvC (fun k l o i => laws_toColumnS.l0 k l o i) (fun k x => some (cvC x)) l (fun k o i h ho => ?_) (fun k o => ?_) (fun x hx => Ev.now _) l.length 0 (List.replicate l.length z46) (by omega) List.length_replicate (fun j hj => by omega))
  · unfold laws_toColumnS.f
    rw [if_pos (by omega), if_pos (by omega)]
    simp
  · rw [laws_toColumnS.l0, if_pos (by omega), if_pos (by omega), rdLC l i h]
    unfold laws_toColumn.f
    rw [Option.bind_some, if_pos (by omega), wsucc i (by omega)]
    rfl
  · rw [laws_toColumnS.l0, if_neg (by omega)]
theorem eqColumn_ev (l : List Col) (hl : l.length ≤ 9223372036854775807) : Ev (fun k => laws_eqColumnS.f k l l) true := by
  refine Ev.congr (fun k => ?_) (Gen.eq (fun k a b i => laws_eqColumnS.l0 k a b i) (fun k x => some true) l (fun k i h => ?_) (fun k => ?_) (fun x hx => Ev.now _) l.length 0 (by omega))
  · unfold laws_eqColumnS.f
    rw [if_pos rfl]
    rfl
  · rw [laws_eqColumnS.l0, if_pos (by omega), if_pos (by omega), if_pos (by omega), wsucc i (by omega)]
    unfold laws_eqColumn.f
    simp only [if_true]
  · rw [laws_eqColumnS.l0, if_neg (by omega)]
theorem szValue_ev (l : List LVal) (a : Int) (hl : l.length ≤ 9223372036854775807) (hs : ∀ y ∈ l, y.f2.size ≤ 9223372036854775807) (h0 : 0 ≤ a) (h1 : a ≤ 1048576) :
    Ev (fun k => laws_szValueS.f k l a) (if (wtL wV l : Int) ≤ a then a - wtL wV l else -1) := by
  refine szf wV (fun k l a i => laws_szValueS.l0 k l a i) _ l a (by omega) h0 h1 (fun k => rfl) (fun b hb0 hb1 => ?_)
  refine Gen.sz wV (fun k l a i => laws_szValueS.l0 k l a i) (fun k x a => laws_szValue.f x.f0 x.f1 x.f2 a) l 1048576 (fun k a i h => ?_) (fun k a => ?_) (fun x hx a h0 h1 => ?_) l.length 0 b (by omega) hb0 hb1
  · rw [laws_szValueS.l0, if_pos (by omega), if_pos (by omega), rdLV l i h, wsucc i (by omega)]
  · rw [laws_szValueS.l0, if_neg (by omega)]
  · have := hs x hx
    unfold laws_szValue.f
    rw [w64 (a - (x.f2.size : Int)) (by omega)]
    by_cases hc : a - (x.f2.size : Int) < 0
    · rw [if_pos hc, if_neg (show ¬ ((wV x : Nat) : Int) ≤ a by unfold wV; omega)]; exact Ev.now _
    · rw [if_neg hc, if_pos (show ((wV x : Nat) : Int) ≤ a by unfold wV; omega)]; exact Ev.now _
theorem toValue_ev (l : List LVal) (hl : l.length ≤ 1048576) : Ev (fun k => laws_toValueS.f k l) (l.map cvV) := by
  refine Ev.congr (fun k => ?_) (Gen.copy cvV (fun k l o i => laws_toValueS.l0 k l o i) (fun k x => some (cvV x)) l (fun k o i h ho => ?_) (fun k o => ?_) (fun x hx => Ev.now _) l.length 0 (List.replicate l.length z49) (by omega) List.length_replicate (fun j hj => by omega))
  · unfold laws_toValueS.f
    rw [if_pos (by omega), if_pos (by omega)]
    simp
  · rw [laws_toValueS.l0, if_pos (by omega), if_pos (by omega), rdLV l i h]
    unfold laws_toValue.f
    rw [Option.bind_some, if_pos (by omega), wsucc i (by omega)]
    rfl
  · rw [laws_toValueS.l0, if_neg (by omega)]
theorem eqValue_ev (l : List Val) (hl : l.length ≤ 9223372036854775807) : Ev (fun k => laws_eqValueS.f k l l) true := by
  refine Ev.congr (fun k => ?_) (Gen.eq (fun k a b i => laws_eqValueS.l0 k a b i) (fun k x => some true) l (fun k i h => ?_) (fun k => ?_) (fun x hx => Ev.now _) l.length 0 (by omega))
  · unfold laws_eqValueS.f
    rw [if_pos rfl]
    rfl
  · rw [laws_eqValueS.l0, if_pos (by omega), if_pos (by omega), if_pos (by omega), wsucc i (by omega)]
    unfold laws_eqValue.f
    simp only [if_true]
  · rw [laws_eqValueS.l0, if_neg (by omega)]
theorem szItem_ev (l : List LItm) (a : Int) (hl : l.length ≤ 9223372036854775807) (hs : ∀ y ∈ l, y.f2.size ≤ 9223372036854775807) (h0 : 0 ≤ a) (h1 : a ≤ 1048576) :
    Ev (fun k => laws_szItemS.f k l a) (if (wtL wI l : Int) ≤ a then a - wtL wI l else -1) := by
  refine szf wI (fun k l a i => laws_szItemS.l0 k l a i) _ l a (by omega) h0 h1 (fun k => rfl) (fun b hb0 hb1 => ?_)
  refine Gen.sz wI (fun k l a i => laws_szItemS.l0 k l a i) (fun k x a => laws_szItem.f x.f0 x.f1 x.f2 a) l 1048576 (fun k a i h => ?_) (fun k a => ?_) (fun x hx a h0 h1 => ?_) l.length 0 b (by omega) hb0 hb1
  · rw [laws_szItemS.l0, if_pos (by omega), if_pos (by omega), rdLI l i h, wsucc i (by omega)]
  · rw [laws_szItemS.l0, if_neg (by omega)]
  · have := hs x hx
    unfold laws_szItem.f
    rw [w64 (a - (x.f2.size : Int)) (by omega)]
    by_cases hc : a - (x.f2.size : Int) < 0
    · rw [if_pos hc, if_neg (show ¬ ((wI x : Nat) : Int) ≤ a by unfold wI; omega)]; exact Ev.now _
    · rw [if_neg hc, if_pos (show ((wI x : Nat) : Int) ≤ a by unfold wI; omega)]; exact Ev.now _
theorem toItem_ev (l : List LItm) (hl : l.length ≤ 1048576) : Ev (fun k => laws_toItemS.f k l) (l.map cvI) := by
  refine Ev.congr (fun k => ?_) (Gen.copy cvI (fun k l o i => laws_toItemS.l0 k l o i) (fun k x => some (cvI x)) l (fun k o i h ho => ?_) (fun k o => ?_) (fun x hx => Ev.now _) l.length 0 (List.replicate l.length z75) (by omega) List.length_replicate (fun j hj => by omega))
  · unfold laws_toItemS.f
    rw [if_pos (by omega), if_pos (by omega)]
    simp
  · rw [laws_toItemS.l0, if_pos (by omega), if_pos (by omega), rdLI l i h]
    unfold laws_toItem.f
    rw [Option.bind_some, if_pos (by omega), wsucc i (by omega)]
    rfl
  · rw [laws_toItemS.l0, if_neg (by omega)]
theorem eqItem_ev (l : List Itm) (hl : l.length ≤ 9223372036854775807) : Ev (fun k => laws_eqItemS.f k l l) true := by
  refine Ev.congr (fun k => ?_) (Gen.eq (fun k a b i => laws_eqItemS.l0 k a b i) (fun k x => some true) l (fun k i h => ?_) (fun k => ?_) (fun x hx => Ev.now _) l.length 0 (by omega))
  · unfold laws_eqItemS.f
    rw [if_pos rfl]
    rfl
  · rw [laws_eqItemS.l0, if_pos (by omega), if_pos (by omega), if_pos (by omega), wsucc i (by omega)]
    unfold laws_eqItem.f
    simp only [if_true]
  · rw [laws_eqItemS.l0, if_neg (by omega)]
def wII (l : List LItm) : Nat := wtL wI l
def cvII (l : List LItm) : List Itm := l.map cvI
theorem szItemSS_ev (l : List (List LItm)) (a : Int) (hl : l.length ≤ 9223372036854775807) (hs : ∀ y ∈ l, y.length ≤ 9223372036854775807 ∧ ∀ z ∈ y, z.f2.size ≤ 9223372036854775807) (h0 : 0 ≤ a) (h1 : a ≤ 1048576) :
    Ev (fun k => laws_szItemSS.f k l a) (if (wtL wII l : Int) ≤ a then a - wtL wII l else -1) := by
  refine szf wII (fun k l a i => laws_szItemSS.l0 k l a i) _ l a (by omega) h0 h1 (fun k => rfl) (fun b hb0 hb1 => ?_)
  refine Gen.sz wII (fun k l a i => laws_szItemSS.l0 k l a i) (fun k x a => laws_szItemS.f k x a) l 1048576 (fun k a i h => ?_) (fun k a => ?_) (fun x hx a h0 h1 => ?_) l.length 0 b (by omega) hb0 hb1
  · rw [laws_szItemSS.l0, if_pos (by omega), if_pos (by omega), rdLII l i h, wsucc i (by omega)]
  · rw [laws_szItemSS.l0, if_neg (by omega)]
  · exact szItem_ev x a (hs x hx).1 (hs x hx).2 h0 h1
theorem toItemSS_ev (l : List (List LItm)) (hl : l.length ≤ 1048576) (hs : ∀ y ∈ l, y.length ≤ 1048576) : Ev (fun k => laws_toItemSS.f k l) (l.map cvII) := by
  refine Ev.congr (fun k => ?_) (Gen.copy cvII (fun k l o i => laws_toItemSS.l0 k l o i) (fun k x => laws_toItemS.f k x) l (fun k o i h ho => ?_) (fun k o => ?_) (fun x hx => toItem_ev x (hs x hx)) l.length 0 (List.replicate l.length []) (by omega) List.length_replicate (fun j hj => by omega))
  · unfold laws_toItemSS.f
    rw [if_pos (by omega), if_pos (by omega)]
    simp
  · rw [laws_toItemSS.l0, if_pos (by omega), if_pos (by omega), rdLII l i h]
    simp only [if_pos (show (i : Int) < (o.length : Int) by omega), wsucc i (show i < 9223372036854775807 by omega), Int.toNat_natCast]
  · rw [laws_toItemSS.l0, if_neg (by omega)]
theorem eqItemSS_ev (l : List (List Itm)) (hl : l.length ≤ 9223372036854775807) (hs : ∀ y ∈ l, y.length ≤ 9223372036854775807) : Ev (fun k => laws_eqItemSS.f k l l) true := by
  refine Ev.congr (fun k => ?_) (Gen.eq (fun k a b i => laws_eqItemSS.l0 k a b i) (fun k x => laws_eqItemS.f k x x) l (fun k i h => ?_) (fun k => ?_) (fun x hx => eqItem_ev x (hs x hx)) l.length 0 (by omega))
  · unfold laws_eqItemSS.f
    rw [if_pos rfl]
    rfl
  · rw [laws_eqItemSS.l0, if_pos (by omega), if_pos (by omega), if_pos (by omega), rdII l i h, wsucc i (by omega)]
  · rw [laws_eqItemSS.l0, if_neg (by omega)]
/-- What a statement weighs. -/
def wtStm (table : ByteArray) (cols : List LCol) (vals : List LVal) (col : ByteArray) (exp wh : List LItm) (outs : List (List LItm)) : Nat :=
  table.size + wtL wC cols + wtL wV vals + col.size + wtL wI exp + wtL wI wh + wtL wII outs
/-- What is asked of the lengths that came in. -/
def StmIn (table : ByteArray) (cols : List LCol) (vals : List LVal) (col : ByteArray) (exp wh : List LItm) (outs : List (List LItm)) : Prop :=
  table.size ≤ 9223372036854775807 ∧ (cols.length ≤ 9223372036854775807 ∧ ∀ y ∈ cols, y.f0.size ≤ 9223372036854775807) ∧ (vals.length ≤ 9223372036854775807 ∧ ∀ y ∈ vals, y.f2.size ≤ 9223372036854775807) ∧ col.size ≤ 9223372036854775807 ∧
    (exp.length ≤ 9223372036854775807 ∧ ∀ y ∈ exp, y.f2.size ≤ 9223372036854775807) ∧ (wh.length ≤ 9223372036854775807 ∧ ∀ y ∈ wh, y.f2.size ≤ 9223372036854775807) ∧ (outs.length ≤ 9223372036854775807 ∧ ∀ y ∈ outs, y.length ≤ 9223372036854775807 ∧ ∀ z ∈ y, z.f2.size ≤ 9223372036854775807)
theorem szStm_ev (kind : Int) (table : ByteArray) (cols : List LCol) (vals : List LVal) (col : ByteArray) (exp wh : List LItm) (outs : List (List LItm)) (m : Int) (h : StmIn table cols vals col exp wh outs) (h0 : 0 ≤ m) (h1 : m ≤ 1048576) :
    Ev (fun k => laws_szStm.f k kind table cols vals col exp wh outs m) (if (wtStm table cols vals col exp wh outs : Int) ≤ m then m - wtStm table cols vals col exp wh outs else -1) := by
  obtain ⟨g1, ⟨g2, g2s⟩, ⟨g3, g3s⟩, g4, ⟨g5, g5s⟩, ⟨g6, g6s⟩, ⟨g7, g7s⟩⟩ := h
  have bad : ¬ ((wtStm table cols vals col exp wh outs : Int) ≤ m) → Ev (fun _ => some (-1 : Int)) (if (wtStm table cols vals col exp wh outs : Int) ≤ m then m - wtStm table cols vals col exp wh outs else -1) := fun hb => by
    rw [if_neg hb]; exact Ev.now _
  unfold laws_szStm.f
  have n1 : (-1 : Int) < 0 := by decide
  have w1 : wrap64 (m - (table.size : Int)) = m - (table.size : Int) := w64 _ (by omega)
  simp only [w1]
  by_cases c1 : m - (table.size : Int) < 0
  · simp only [if_pos c1]; exact bad (by unfold wtStm; omega)
  simp only [if_neg c1]
  refine (szColumn_ev cols (m - (table.size : Int)) g2 g2s (by omega) (by omega)).bind ?_
  by_cases c2 : (wtL wC cols : Int) ≤ m - (table.size : Int)
  case neg => simp only [if_neg c2, if_pos n1]; exact bad (by unfold wtStm; omega)
  obtain ⟨m2, hm2⟩ : ∃ m2, m - (table.size : Int) - (wtL wC cols : Int) = m2 := ⟨_, rfl⟩
  simp only [if_pos c2, hm2, if_neg (show ¬ m2 < 0 by omega)]
  refine (szValue_ev vals m2 g3 g3s (by omega) (by omega)).bind ?_
  by_cases c3 : (wtL wV vals : Int) ≤ m2
  case neg => simp only [if_neg c3, if_pos n1]; exact bad (by unfold wtStm; omega)
  obtain ⟨m3, hm3⟩ : ∃ m3, m2 - (wtL wV vals : Int) = m3 := ⟨_, rfl⟩
  have w4 : wrap64 (m3 - (col.size : Int)) = m3 - (col.size : Int) := w64 _ (by omega)
  simp only [if_pos c3, hm3, if_neg (show ¬ m3 < 0 by omega), w4]
  by_cases c4 : m3 - (col.size : Int) < 0
  · simp only [if_pos c4]; exact bad (by unfold wtStm; omega)
  simp only [if_neg c4]
  refine (szItem_ev exp (m3 - (col.size : Int)) g5 g5s (by omega) (by omega)).bind ?_
  by_cases c5 : (wtL wI exp : Int) ≤ m3 - (col.size : Int)
  case neg => simp only [if_neg c5, if_pos n1]; exact bad (by unfold wtStm; omega)
  obtain ⟨m5, hm5⟩ : ∃ m5, m3 - (col.size : Int) - (wtL wI exp : Int) = m5 := ⟨_, rfl⟩
  simp only [if_pos c5, hm5, if_neg (show ¬ m5 < 0 by omega)]
  refine (szItem_ev wh m5 g6 g6s (by omega) (by omega)).bind ?_
  by_cases c6 : (wtL wI wh : Int) ≤ m5
  case neg => simp only [if_neg c6, if_pos n1]; exact bad (by unfold wtStm; omega)
  obtain ⟨m6, hm6⟩ : ∃ m6, m5 - (wtL wI wh : Int) = m6 := ⟨_, rfl⟩
  simp only [if_pos c6, hm6, if_neg (show ¬ m6 < 0 by omega)]
  refine (szItemSS_ev outs m6 g7 g7s (by omega) (by omega)).bind ?_
  by_cases c7 : (wtL wII outs : Int) ≤ m6
  case neg => simp only [if_neg c7, if_pos n1]; exact bad (by unfold wtStm; omega)
  simp only [if_pos c7, if_neg (show ¬ (m6 - (wtL wII outs : Int) < 0) by omega)]
  rw [if_pos (show (wtStm table cols vals col exp wh outs : Int) ≤ m by unfold wtStm; omega)]
  have e : m - (wtStm table cols vals col exp wh outs : Int) = m6 - (wtL wII outs : Int) := by unfold wtStm; omega
  rw [e]
  exact Ev.now _
theorem toStm_ev (kind : Int) (table : ByteArray) (cols : List LCol) (vals : List LVal) (col : ByteArray) (exp wh : List LItm) (outs : List (List LItm)) (h : wtStm table cols vals col exp wh outs ≤ 1048576) :
    Ev (fun k => laws_toStm.f k kind table cols vals col exp wh outs) (kind, table, cols.map cvC, vals.map cvV, col, exp.map cvI, wh.map cvI, outs.map cvII) := by
  unfold wtStm wtL at h
  unfold laws_toStm.f
  refine (toColumn_ev cols (by omega)).bind ?_
  refine (toValue_ev vals (by omega)).bind ?_
  refine (toItem_ev exp (by omega)).bind ?_
  refine (toItem_ev wh (by omega)).bind ?_
  refine (toItemSS_ev outs (by omega) (fun y hy => ?_)).bind (Ev.now _)
  have := Gen.mem_sumW wII outs y hy
  have e : wII y = y.length + Gen.sumW wI y := rfl
  omega
theorem eqStm_ev (kind : Int) (table : ByteArray) (cols : List Col) (vals : List Val) (col : ByteArray) (exp wh : List Itm) (outs : List (List Itm)) (h2 : cols.length ≤ 9223372036854775807) (h3 : vals.length ≤ 9223372036854775807) (h5 : exp.length ≤ 9223372036854775807) (h6 : wh.length ≤ 9223372036854775807) (h7 : outs.length ≤ 9223372036854775807) (h7s : ∀ y ∈ outs, y.length ≤ 9223372036854775807) :
    Ev (fun k => laws_eqStm.f k kind table cols vals col exp wh outs kind table cols vals col exp wh outs) true := by
  unfold laws_eqStm.f
  simp only [if_true]
  refine (eqColumn_ev cols h2).bind ?_
  simp only [if_true]
  refine (eqValue_ev vals h3).bind ?_
  simp only [if_true]
  refine (eqItem_ev exp h5).bind ?_
  simp only [if_true]
  refine (eqItem_ev wh h6).bind ?_
  simp only [if_true]
  refine (eqItemSS_ev outs h7 h7s).bind ?_
  simp only [if_true]
  exact Ev.now _
end Go.Proofs.YtbpfdjbnfkclcaaGreatDoor.Pure
end
section
set_option linter.unusedVariables false
set_option linter.unusedSimpArgs false
namespace Go.Proofs.YtbpfdjbnfkclcaaGreatDoor.Pure
open Go Go.RowKit Go.Proofs.YtbpfdjbnfkclcaaGreatDoor Go.Proofs.YtbpfdjbnfkclcaaGreatDoor.L Go.Proofs.YtbpfdjbnfkclcaaGreatDoorW.PrintWords Go.Proofs.YtbpfdjbnfkclcaaGreatDoorW.PrintMore Go.Proofs.YtbpfdjbnfkclcaaGreatDoorW.PrintLast
theorem ff : ¬ (false = true) := by decide
theorem between_b (x lo hi : Int) : spec_l1Between.f x lo hi = some (decide (lo ≤ x ∧ x ≤ hi)) := by
  unfold spec_l1Between.f
  by_cases h0 : lo ≤ x
  · rw [if_pos h0]; simp [h0]
  · rw [if_neg h0]; simp [h0]
theorem spec_letter (c : Int) : spec_l4Letter.f c = some (decide (97 ≤ c) && decide (c ≤ 122)) := by
  unfold spec_l4Letter.f
  by_cases h1 : 97 ≤ c <;> by_cases h2 : c ≤ 122 <;> simp [h1, h2]
theorem spec_inner (c : Int) : spec_l4Inner.f c = some (wordByte c) := by
  unfold spec_l4Inner.f wordByte
  rw [spec_letter]
  by_cases h1 : 97 ≤ c <;> by_cases h2 : c ≤ 122 <;> by_cases h3 : 48 ≤ c <;> by_cases h4 : c ≤ 57 <;> simp [h1, h2, h3, h4]
theorem has_l0 (s : ByteArray) (l : List ByteArray) (hl : l.length ≤ 1000) (d : Nat) : ∀ i : Nat, i + d = l.length → Ev (fun k => spec_l4Has.l0 k s l (l.length : Int) (i : Int)) ((l.drop i).any fun x => decide (x.toList = s.toList)) := by
  induction d with
  | zero =>
    intro i hi
    have hd : l.drop i = [] := List.drop_eq_nil_of_le (by omega)
    rw [hd]
    refine Ev.step (f := fun _ => some false) (fun k => ?_) (Ev.now _)
    rw [spec_l4Has.l0, if_neg (by omega)]
  | succ d ih =>
    intro i hi
    have hil : i < l.length := by omega
    have hd : l.drop i = l[i] :: l.drop (i + 1) := List.drop_eq_getElem_cons hil
    rw [hd, List.any_cons]
    by_cases h : l[i].toList = s.toList
    · refine Ev.step (f := fun _ => some true) (fun k => ?_) ?_
      · rw [spec_l4Has.l0, if_pos (by omega), if_pos (by omega), if_pos (by omega), rdS l i hil, if_pos h]
      · rw [decide_eq_true h, Bool.true_or]; exact Ev.now _
    · refine Ev.step (f := fun k => spec_l4Has.l0 k s l (l.length : Int) ((i + 1 : Nat) : Int)) (fun k => ?_) ?_
      · rw [spec_l4Has.l0, if_pos (by omega), if_pos (by omega), if_pos (by omega), rdS l i hil, if_neg h, wsucc i (by omega)]
      · rw [decide_eq_false h, Bool.false_or]; exact ih (i + 1) (by omega)
/-- The reference's keywords. -/
def kwS : List ByteArray := (spec_l4Keywords.f).getD []
theorem kwS_eq : spec_l4Keywords.f = some kwS := rfl
theorem kw_sub1 : ∀ a ∈ kwS.map (fun x => x.data.toList), a ∈ kwL := by decide
theorem kw_sub2 : ∀ a ∈ kwL, a ∈ kwS.map (fun x => x.data.toList) := by decide
theorem has_kw (s : ByteArray) : (kwS.any fun x => decide (x.toList = s.toList)) = isKw s := by
  rw [Bool.eq_iff_iff]
  unfold isKw
  rw [List.any_eq_true, List.contains_iff_mem]
  constructor
  · rintro ⟨x, hx, h⟩
    have h := of_decide_eq_true h
    rw [ByteArray.toList_eq, ByteArray.toList_eq] at h
    rw [← h]
    exact kw_sub1 _ (List.mem_map_of_mem hx)
  · intro h
    obtain ⟨x, hx, e⟩ := List.mem_map.1 (kw_sub2 _ h)
    exact ⟨x, hx, decide_eq_true (by rw [ByteArray.toList_eq, ByteArray.toList_eq]; exact e)⟩
theorem name_l0 (s : ByteArray) (hs : s.size ≤ 1000) (d : Nat) : ∀ i : Nat, i + d = s.size → Ev (fun k => spec_l4Name.l0 k s (i : Int)) (allFrom wordByte s d i) := by
  induction d with
  | zero =>
    intro i hi
    exact Ev.step (f := fun _ => some true) (fun k => by rw [spec_l4Name.l0, if_neg (by omega)]) (Ev.now _)
  | succ d ih =>
    intro i hi
    rw [allFrom]
    refine Ev.step (f := fun k => if wordByte (bt s i) = true then spec_l4Name.l0 k s ((i + 1 : Nat) : Int) else some false) (fun k => ?_) ?_
    · rw [spec_l4Name.l0, if_pos (by omega), if_pos (by omega), spec_inner, Option.bind_some, wsucc i (by omega)]
    · cases hb : wordByte (bt s i) with
      | false => simp only [if_neg ff, Bool.false_and]; exact Ev.now _
      | true => simp only [if_true, Bool.true_and]; exact ih (i + 1) (by omega)
theorem spec_nm (s : ByteArray) : Ev (fun k => spec_l4Name.f k s) (nameKw s) := by
  have hbad : Ev (fun k => spec_l4Name.j0 k s true) false := Ev.step (f := fun _ => some false) (fun k => by rw [spec_l4Name.j0, if_pos rfl]) (Ev.now _)
  unfold spec_l4Name.f nameKw
  simp only [between_b, Option.bind_some, spec_letter, kwS_eq]
  by_cases h1 : 1 ≤ s.size
  · by_cases h2 : s.size ≤ 30
    · simp only [decide_eq_true (show (1 : Int) ≤ (s.size : Int) ∧ (s.size : Int) ≤ 30 by omega), if_true, if_pos (show (0 : Int) < (s.size : Int) by omega), decide_eq_true h1, decide_eq_true h2, Bool.true_and]
      cases hL : (decide (97 ≤ bt s 0) && decide (bt s 0 ≤ 122)) with
      | false => simp only [if_neg ff, Bool.false_and]; exact hbad
      | true =>
        simp only [if_true, Bool.true_and]
        have hh := has_l0 s kwS (by decide) kwS.length 0 (by omega)
        rw [List.drop_zero, has_kw] at hh
        refine Ev.bind (Ev.congr (fun k => rfl) hh) ?_
        cases hk : isKw s with
        | true => simp only [Bool.not_true, Bool.and_false]; exact hbad
        | false =>
          simp only [Bool.not_false, Bool.and_true]
          refine Ev.step (fun k => by rw [spec_l4Name.j0, if_neg ff]) ?_
          exact name_l0 s (by omega) s.size 0 (by omega)
    · simp only [decide_eq_false (show ¬ ((1 : Int) ≤ (s.size : Int) ∧ (s.size : Int) ≤ 30) by omega), if_neg ff, decide_eq_true h1, decide_eq_false h2, Bool.true_and, Bool.false_and]
      exact hbad
  · simp only [decide_eq_false (show ¬ ((1 : Int) ≤ (s.size : Int) ∧ (s.size : Int) ≤ 30) by omega), if_neg ff, decide_eq_false h1, Bool.false_and]
    exact hbad
theorem impl_nm (s : ByteArray) (hs : s.size ≤ 9223372036854775807) : impl_isName.f s = some (nameKw s) := by rw [impl_isName.f, if_pos hs]
/-- A text. -/
def textOk (s : ByteArray) : Bool := decide (s.size ≤ 200) && allFrom textByte s s.size 0
theorem impl_txt (s : ByteArray) (hs : s.size ≤ 9223372036854775807) : impl_isText.f s = some (textOk s) := by rw [impl_isText.f, if_pos hs]; rfl
theorem text_l0 (s : ByteArray) (hs : s.size ≤ 1000) (d : Nat) : ∀ i : Nat, i + d = s.size → Ev (fun k => spec_l4Text.l0 k s (i : Int)) (allFrom textByte s d i) := by
  induction d with
  | zero =>
    intro i hi
    exact Ev.step (f := fun _ => some true) (fun k => by rw [spec_l4Text.l0, if_neg (by omega)]) (Ev.now _)
  | succ d ih =>
    intro i hi
    rw [allFrom]
    have hr := bt_range s i
    have hw : wrap64 (bt s i) = bt s i := w64 _ (by omega)
    have ht : decide (32 ≤ bt s i ∧ bt s i ≤ 126) = textByte (bt s i) := by
      unfold textByte
      by_cases h1 : 32 ≤ bt s i <;> by_cases h2 : bt s i ≤ 126 <;> simp [h1, h2]
    refine Ev.step (f := fun k => if textByte (bt s i) = true then spec_l4Text.l0 k s ((i + 1 : Nat) : Int) else some false) (fun k => ?_) ?_
    · rw [spec_l4Text.l0, if_pos (by omega), if_pos (by omega), hw, between_b, ht, Option.bind_some, wsucc i (by omega)]
    · cases hb : textByte (bt s i) with
      | false => simp only [if_neg ff, Bool.false_and]; exact Ev.now _
      | true => simp only [if_true, Bool.true_and]; exact ih (i + 1) (by omega)
theorem spec_txt (s : ByteArray) : Ev (fun k => spec_l4Text.f k s) (textOk s) := by
  unfold spec_l4Text.f textOk
  by_cases h : s.size ≤ 200
  · simp only [if_neg (show ¬ (s.size : Int) > 200 by omega), decide_eq_true h, Bool.true_and]
    exact text_l0 s (by omega) s.size 0 (by omega)
  · simp only [if_pos (show (s.size : Int) > 200 by omega), decide_eq_false h, Bool.false_and]
    exact Ev.now _
def numOk (n : Int) : Bool := n != (-9223372036854775808)
/-- A value of a statement. -/
def valOk (t n : Int) (x : ByteArray) : Bool := if t = 1 then (numOk n && (x.toList == ([] : List UInt8))) else if t = 2 then (decide (n = 0) && textOk x) else false
theorem spec_val (t n : Int) (x : ByteArray) : Ev (fun k => spec_l4Value.f k t n x) (valOk t n x) := by
  unfold spec_l4Value.f valOk spec_l4Number.f numOk
  by_cases h1 : t = 1
  · simp only [if_pos h1, Option.bind_some]
    cases (n != (-9223372036854775808)) with
    | false => simp only [if_neg ff, Bool.false_and]; exact Ev.now _
    | true => simp only [if_true, Bool.true_and]; exact Ev.now _
  · by_cases h2 : t = 2
    · by_cases h3 : n = 0
      · simp only [if_neg h1, if_pos h2, if_pos h3, decide_eq_true h3, Bool.true_and]
        exact (spec_txt x).bind (Ev.now _)
      · simp only [if_neg h1, if_pos h2, if_neg h3, decide_eq_false h3, Bool.false_and]; exact Ev.now _
    · simp only [if_neg h1, if_neg h2]; exact Ev.now _
theorem impl_val (t n : Int) (x : ByteArray) (hx : x.size ≤ 9223372036854775807) : impl_valueOK.f t n x = some (valOk t n x) := by
  unfold impl_valueOK.f valOk impl_isNumber.f numOk
  rw [impl_txt x hx]
  by_cases h1 : t = 1
  · simp only [if_pos h1, Option.bind_some]
    cases (n != (-9223372036854775808)) <;> simp
  · by_cases h2 : t = 2
    · by_cases h3 : n = 0
      · simp [h1, h2, h3]
      · simp [h1, h2, h3]
    · simp [h1, h2]
/-- An item of an expression. -/
def itmOk (op n : Int) (x : ByteArray) : Bool :=
  if op = 1 then (numOk n && (x.toList == ([] : List UInt8))) else if op = 2 then (decide (n = 0) && textOk x) else if op = 3 then (decide (n = 0) && nameKw x) else (decide (4 ≤ op ∧ op ≤ 13) && (decide (n = 0) && (x.toList == ([] : List UInt8))))
def arity (op : Int) : Int := if op ≤ 3 then 0 else if op = 11 then 1 else if op = 13 then 1 else 2
theorem spec_itm (op n : Int) (x : ByteArray) : Ev (fun k => spec_l4Item.f k op n x) (itmOk op n x) := by
  unfold spec_l4Item.f itmOk spec_l4Number.f numOk
  by_cases h1 : op = 1
  · simp only [if_pos h1, Option.bind_some]
    cases (n != (-9223372036854775808)) with
    | false => simp only [if_neg ff, Bool.false_and]; exact Ev.now _
    | true => simp only [if_true, Bool.true_and]; exact Ev.now _
  · by_cases h2 : op = 2
    · by_cases hn : n = 0
      · simp only [if_neg h1, if_pos h2, if_pos hn, decide_eq_true hn, Bool.true_and]
        exact (spec_txt x).bind (Ev.now _)
      · simp only [if_neg h1, if_pos h2, if_neg hn, decide_eq_false hn, Bool.false_and]; exact Ev.now _
    · by_cases h3 : op = 3
      · by_cases hn : n = 0
        · simp only [if_neg h1, if_neg h2, if_pos h3, if_pos hn, decide_eq_true hn, Bool.true_and]
          exact (spec_nm x).bind (Ev.now _)
        · simp only [if_neg h1, if_neg h2, if_pos h3, if_neg hn, decide_eq_false hn, Bool.false_and]; exact Ev.now _
      · simp only [if_neg h1, if_neg h2, if_neg h3, between_b, Option.bind_some]
        by_cases h4 : 4 ≤ op ∧ op ≤ 13
        · by_cases hn : n = 0
          · simp only [decide_eq_true h4, if_true, if_pos hn, decide_eq_true hn, Bool.true_and]; exact Ev.now _
          · simp only [decide_eq_true h4, if_true, if_neg hn, decide_eq_false hn, Bool.true_and, Bool.false_and]; exact Ev.now _
        · simp only [decide_eq_false h4, if_neg ff, Bool.false_and]; exact Ev.now _
theorem spec_ar (op : Int) : spec_l4Arity.f op = some (arity op) := by
  unfold spec_l4Arity.f arity
  split
  · rfl
  · split
    · rfl
    · split <;> rfl
def opnds (op : Int) : Int := if op = 1 ∨ op = 2 ∨ op = 3 then 0 else if op = 11 ∨ op = 13 then 1 else if (4 ≤ op ∧ op ≤ 10) ∨ op = 12 then 2 else -1
theorem impl_opnds (op : Int) : Ev (fun k => impl_operands.f k op) (opnds op) := by
  have e0 : ∀ k, impl_operands.f k op = impl_operands.j0 k op (decide (op = 1 ∨ op = 2 ∨ op = 3)) := fun k => by
    unfold impl_operands.f
    by_cases h1 : op = 1
    · simp [h1]
    · by_cases h2 : op = 2
      · simp [h2]
      · by_cases h3 : op = 3
        · simp [h3]
        · simp only [if_neg h1, if_neg h2, decide_eq_false (show ¬ (op = 1 ∨ op = 2 ∨ op = 3) by omega), show (op == 3) = false from beq_eq_false_iff_ne.2 h3]
  refine Ev.congr e0 ?_
  unfold opnds
  by_cases h : op = 1 ∨ op = 2 ∨ op = 3
  · rw [decide_eq_true h, if_pos h]
    exact Ev.step (f := fun _ => some 0) (fun k => by rw [impl_operands.j0, if_pos rfl]) (Ev.now _)
  · rw [decide_eq_false h, if_neg h]
    refine Ev.step (f := fun k => impl_operands.j1 k op (decide (op = 11 ∨ op = 13))) (fun k => ?_) ?_
    · rw [impl_operands.j0, if_neg ff]
      by_cases h1 : op = 11
      · simp [h1]
      · rw [if_neg h1]
        congr 1
        by_cases h2 : op = 13
        · simp [h2]
        · rw [decide_eq_false (by omega)]; exact beq_eq_false_iff_ne.2 h2
    · by_cases h2 : op = 11 ∨ op = 13
      · rw [decide_eq_true h2, if_pos h2]
        exact Ev.step (f := fun _ => some 1) (fun k => by rw [impl_operands.j1, if_pos rfl]) (Ev.now _)
      · rw [decide_eq_false h2, if_neg h2]
        refine Ev.step (f := fun _ => some (if (4 ≤ op ∧ op ≤ 10) ∨ op = 12 then 2 else -1)) (fun k => ?_) (Ev.now _)
        rw [impl_operands.j1, if_neg ff]
        by_cases q : (4 ≤ op ∧ op ≤ 10) ∨ op = 12
        · rw [if_pos q]
          have : op = 4 ∨ op = 5 ∨ op = 6 ∨ op = 7 ∨ op = 8 ∨ op = 9 ∨ op = 10 ∨ op = 12 := by omega
          rcases this with rfl | rfl | rfl | rfl | rfl | rfl | rfl | rfl <;> simp
        · rw [if_neg q, if_neg (by omega), if_neg (by omega), if_neg (by omega), if_neg (by omega), if_neg (by omega), if_neg (by omega), if_neg (by omega), if_neg (by omega)]
theorem impl_itm (op n : Int) (x : ByteArray) (hx : x.size ≤ 9223372036854775807) : Ev (fun k => impl_itemOK.f k op n x) (itmOk op n x) := by
  unfold impl_itemOK.f itmOk impl_isNumber.f numOk
  simp only [impl_txt x hx, impl_nm x hx]
  by_cases h1 : op = 1
  · simp only [if_pos h1, Option.bind_some]
    cases (n != (-9223372036854775808)) with
    | false => simp only [if_neg ff, Bool.false_and]; exact Ev.now _
    | true => simp only [if_true, Bool.true_and]; exact Ev.now _
  · by_cases h2 : op = 2
    · by_cases hn : n = 0
      · simp only [if_neg h1, if_pos h2, if_pos hn, decide_eq_true hn, Bool.true_and, Option.bind_some]; exact Ev.now _
      · simp only [if_neg h1, if_pos h2, if_neg hn, decide_eq_false hn, Bool.false_and]; exact Ev.now _
    · by_cases h3 : op = 3
      · by_cases hn : n = 0
        · simp only [if_neg h1, if_neg h2, if_pos h3, if_pos hn, decide_eq_true hn, Bool.true_and, Option.bind_some]; exact Ev.now _
        · simp only [if_neg h1, if_neg h2, if_pos h3, if_neg hn, decide_eq_false hn, Bool.false_and]; exact Ev.now _
      · simp only [if_neg h1, if_neg h2, if_neg h3]
        refine (impl_opnds op).bind ?_
        have ho : (opnds op ≥ 0) ↔ (4 ≤ op ∧ op ≤ 13) := by unfold opnds; split <;> (try split) <;> (try split) <;> omega
        by_cases h4 : 4 ≤ op ∧ op ≤ 13
        · by_cases hn : n = 0
          · simp only [if_pos (ho.2 h4), decide_eq_true h4, if_pos hn, decide_eq_true hn, Bool.true_and]; exact Ev.now _
          · simp only [if_pos (ho.2 h4), decide_eq_true h4, if_neg hn, decide_eq_false hn, Bool.true_and, Bool.false_and]; exact Ev.now _
        · simp only [if_neg (fun e => h4 (ho.1 e)), decide_eq_false h4, Bool.false_and]; exact Ev.now _
/-- An expression from its item number i on, with so many operands on the stack. -/
def expRun : List Itm → Int → Bool
  | [], d => d == 1
  | t :: r, d => itmOk t.f0 t.f1 t.f2 && (if d < arity t.f0 then false else expRun r (d + (1 - arity t.f0)))
theorem arity_range (op : Int) : 0 ≤ arity op ∧ arity op ≤ 2 := by
  unfold arity
  split
  · omega
  · split
    · omega
    · split <;> omega
theorem opnds_arity (op : Int) (h : 1 ≤ op ∧ op ≤ 13) : opnds op = arity op := by
  have : op = 1 ∨ op = 2 ∨ op = 3 ∨ op = 4 ∨ op = 5 ∨ op = 6 ∨ op = 7 ∨ op = 8 ∨ op = 9 ∨ op = 10 ∨ op = 11 ∨ op = 12 ∨ op = 13 := by omega
  rcases this with rfl | rfl | rfl | rfl | rfl | rfl | rfl | rfl | rfl | rfl | rfl | rfl | rfl <;> decide
theorem itmOk_op {op n : Int} {x : ByteArray} (h : itmOk op n x = true) : 1 ≤ op ∧ op ≤ 13 := by
  unfold itmOk at h
  by_cases h1 : op = 1
  · omega
  · by_cases h2 : op = 2
    · omega
    · by_cases h3 : op = 3
      · omega
      · rw [if_neg h1, if_neg h2, if_neg h3, Bool.and_eq_true] at h
        have := of_decide_eq_true h.1
        omega
theorem spec_exp_l0 (l : List Itm) (hl : l.length ≤ 1000) (e : Nat) : ∀ (i : Nat) (d : Int), i + e = l.length → 0 ≤ d → d ≤ i → Ev (fun k => spec_l4Exp.l0 k d l (l.length : Int) (i : Int)) (expRun (l.drop i) d) := by
  induction e with
  | zero =>
    intro i d hi h0 h1
    have hd : l.drop i = [] := List.drop_eq_nil_of_le (by omega)
    rw [hd]
    exact Ev.step (f := fun _ => some (d == 1)) (fun k => by rw [spec_l4Exp.l0, if_neg (by omega)]) (Ev.now _)
  | succ e ih =>
    intro i d hi h0 h1
    have hil : i < l.length := by omega
    have hd : l.drop i = l[i] :: l.drop (i + 1) := List.drop_eq_getElem_cons hil
    have ha := arity_range l[i].f0
    have w1 : wrap64 (1 - arity l[i].f0) = 1 - arity l[i].f0 := w64 _ (by omega)
    have w2 : wrap64 (d + (1 - arity l[i].f0)) = d + (1 - arity l[i].f0) := w64 _ (by omega)
    rw [hd, expRun]
    refine Ev.step (f := fun k => (spec_l4Item.f k l[i].f0 l[i].f1 l[i].f2).bind fun t => if t = true then (if d < arity l[i].f0 then some false else spec_l4Exp.l0 k (d + (1 - arity l[i].f0)) l (l.length : Int) ((i + 1 : Nat) : Int)) else some false) (fun k => ?_) ?_
    · rw [spec_l4Exp.l0, if_pos (by omega), if_pos (by omega), if_pos (by omega), rdItm l i hil]
      simp only [spec_ar, Option.bind_some, w1, w2, wsucc i (show i < 9223372036854775807 by omega)]
    · refine (spec_itm _ _ _).bind ?_
      cases hk : itmOk l[i].f0 l[i].f1 l[i].f2 with
      | false => simp only [if_neg ff, Bool.false_and]; exact Ev.now _
      | true =>
        simp only [if_true, Bool.true_and]
        by_cases hc : d < arity l[i].f0
        · simp only [if_pos hc]; exact Ev.now _
        · simp only [if_neg hc]; exact ih (i + 1) _ (by omega) (by omega) (by omega)
theorem impl_exp_l0 (l : List Itm) (hl : l.length ≤ 1000) (hs : ∀ y ∈ l, y.f2.size ≤ 9223372036854775807) (e : Nat) : ∀ (i : Nat) (d : Int), i + e = l.length → 0 ≤ d → d ≤ i → Ev (fun k => impl_expOK.l0 k d l (l.length : Int) (i : Int)) (expRun (l.drop i) d) := by
  induction e with
  | zero =>
    intro i d hi h0 h1
    have hd : l.drop i = [] := List.drop_eq_nil_of_le (by omega)
    rw [hd]
    exact Ev.step (f := fun _ => some (d == 1)) (fun k => by rw [impl_expOK.l0, if_neg (by omega)]) (Ev.now _)
  | succ e ih =>
    intro i d hi h0 h1
    have hil : i < l.length := by omega
    have hd : l.drop i = l[i] :: l.drop (i + 1) := List.drop_eq_getElem_cons hil
    rw [hd, expRun]
    refine Ev.step (f := fun k => (impl_operands.f k l[i].f0).bind fun u => (impl_itemOK.f k l[i].f0 l[i].f1 l[i].f2).bind fun t => if t = true then (if d < u then some false else impl_expOK.l0 k (wrap64 (d + (wrap64 (1 - u)))) l (l.length : Int) ((i + 1 : Nat) : Int)) else some false) (fun k => ?_) ?_
    · rw [impl_expOK.l0, if_pos (by omega), if_pos (by omega), if_pos (by omega), rdItm l i hil, wsucc i (by omega)]
    · refine (impl_opnds _).bind ?_
      refine (impl_itm _ _ _ (hs _ (List.getElem_mem hil))).bind ?_
      cases hk : itmOk l[i].f0 l[i].f1 l[i].f2 with
      | false => simp only [if_neg ff, Bool.false_and]; exact Ev.now _
      | true =>
        have ha := arity_range l[i].f0
        have w1 : wrap64 (1 - arity l[i].f0) = 1 - arity l[i].f0 := w64 _ (by omega)
        have w2 : wrap64 (d + (1 - arity l[i].f0)) = d + (1 - arity l[i].f0) := w64 _ (by omega)
        simp only [if_true, Bool.true_and, opnds_arity _ (itmOk_op hk), w1, w2]
        by_cases hc : d < arity l[i].f0
        · simp only [if_pos hc]; exact Ev.now _
        · simp only [if_neg hc]; exact ih (i + 1) _ (by omega) (by omega) (by omega)
/-- An expression. -/
def expOk (l : List Itm) : Bool := decide (1 ≤ l.length ∧ l.length ≤ 100) && expRun l 0
theorem spec_exp (l : List Itm) : Ev (fun k => spec_l4Exp.f k l) (expOk l) := by
  unfold spec_l4Exp.f expOk
  simp only [between_b, Option.bind_some]
  by_cases h : 1 ≤ l.length ∧ l.length ≤ 100
  · simp only [decide_eq_true (show (1 : Int) ≤ (l.length : Int) ∧ (l.length : Int) ≤ 100 by omega), if_true, decide_eq_true h, Bool.true_and]
    exact spec_exp_l0 l (by omega) l.length 0 0 (by omega) (by omega) (by omega)
  · simp only [decide_eq_false (show ¬ ((1 : Int) ≤ (l.length : Int) ∧ (l.length : Int) ≤ 100) by omega), if_neg ff, decide_eq_false h, Bool.false_and]
    exact Ev.now _
theorem impl_exp (l : List Itm) (hs : ∀ y ∈ l, y.f2.size ≤ 9223372036854775807) : Ev (fun k => impl_expOK.f k l) (expOk l) := by
  have hbad : Ev (fun k => impl_expOK.j0 k l true) false := Ev.step (f := fun _ => some false) (fun k => by rw [impl_expOK.j0, if_pos rfl]) (Ev.now _)
  unfold impl_expOK.f expOk
  by_cases h1 : 1 ≤ l.length
  · by_cases h2 : l.length ≤ 100
    · simp only [if_neg (show ¬ (l.length : Int) < 1 by omega), decide_eq_false (show ¬ (l.length : Int) > 100 by omega), decide_eq_true (And.intro h1 h2), Bool.true_and]
      refine Ev.step (fun k => by rw [impl_expOK.j0, if_neg ff]) ?_
      exact impl_exp_l0 l (by omega) hs l.length 0 0 (by omega) (by omega) (by omega)
    · simp only [if_neg (show ¬ (l.length : Int) < 1 by omega), decide_eq_true (show (l.length : Int) > 100 by omega), decide_eq_false (show ¬ (1 ≤ l.length ∧ l.length ≤ 100) by omega), Bool.false_and]
      exact hbad
  · simp only [if_pos (show (l.length : Int) < 1 by omega), decide_eq_false (show ¬ (1 ≤ l.length ∧ l.length ≤ 100) by omega), Bool.false_and]
    exact hbad
def whOk (l : List Itm) : Bool := decide (l.length = 0) || expOk l
theorem spec_wh (l : List Itm) : Ev (fun k => spec_l4Where.f k l) (whOk l) := by
  unfold spec_l4Where.f whOk
  by_cases h : l.length = 0
  · simp only [if_pos (show (l.length : Int) = 0 by omega), decide_eq_true h, Bool.true_or]; exact Ev.now _
  · simp only [if_neg (show ¬ (l.length : Int) = 0 by omega), decide_eq_false h, Bool.false_or]
    exact (spec_exp l).bind (Ev.now _)
def colOk (c : Col) : Bool := nameKw c.f0 && (decide (c.f1 = 1) || decide (c.f1 = 2))
/-- The document's StmOK. -/
def stmOk (kind : Int) (table : ByteArray) (cols : List Col) (vals : List Val) (col : ByteArray) (exp wh : List Itm) (outs : List (List Itm)) : Bool :=
  nameKw table &&
    (if kind = 1 then decide (vals.length = 0) && (decide (col.toList = ([] : List UInt8)) && (decide (exp.length = 0) && (decide (outs.length = 0) && (decide (wh.length = 0) && (decide (1 ≤ cols.length ∧ cols.length ≤ 20) && cols.all colOk)))))
     else if kind = 2 then decide (cols.length = 0) && (decide (col.toList = ([] : List UInt8)) && (decide (exp.length = 0) && (decide (outs.length = 0) && (decide (wh.length = 0) && (decide (1 ≤ vals.length ∧ vals.length ≤ 20) && vals.all fun v => valOk v.f0 v.f1 v.f2)))))
     else if kind = 3 then decide (cols.length = 0) && (decide (vals.length = 0) && (decide (outs.length = 0) && (nameKw col && (expOk exp && whOk wh))))
     else if kind = 4 then decide (cols.length = 0) && (decide (vals.length = 0) && (decide (col.toList = ([] : List UInt8)) && (decide (exp.length = 0) && (decide (outs.length = 0) && whOk wh))))
     else if kind = 5 then decide (cols.length = 0) && (decide (vals.length = 0) && (decide (col.toList = ([] : List UInt8)) && (decide (exp.length = 0) && (decide (1 ≤ outs.length ∧ outs.length ≤ 20) && (outs.all expOk && whOk wh)))))
     else false)
end Go.Proofs.YtbpfdjbnfkclcaaGreatDoor.Pure
end
section
set_option linter.unusedVariables false
set_option linter.unusedSimpArgs false
namespace Go.Proofs.YtbpfdjbnfkclcaaGreatDoor.Pure
open Go Go.RowKit Go.Proofs.YtbpfdjbnfkclcaaGreatDoor Go.Proofs.YtbpfdjbnfkclcaaGreatDoor.L Go.Proofs.YtbpfdjbnfkclcaaGreatDoorW.PrintWords Go.Proofs.YtbpfdjbnfkclcaaGreatDoorW.PrintMore Go.Proofs.YtbpfdjbnfkclcaaGreatDoorW.PrintLast
theorem Ev.pos {α : Type} {c : Prop} [Decidable c] {f g : Nat → Option α} {r : α} (h : c) (hf : Ev f r) : Ev (fun k => if c then f k else g k) r := by
  simpa only [if_pos h] using hf
theorem Ev.neg {α : Type} {c : Prop} [Decidable c] {f g : Nat → Option α} {r : α} (h : ¬ c) (hf : Ev g r) : Ev (fun k => if c then f k else g k) r := by
  simpa only [if_neg h] using hf
theorem empty_size {s : ByteArray} (h : s.toList = ([] : List UInt8)) : s.size = 0 := by
  have e : s.toList.length = s.size := by rw [ByteArray.toList_eq]; rfl
  rw [h] at e
  exact e.symm
theorem name_small {s : ByteArray} (h : nameKw s = true) : s.size ≤ 30 := by
  unfold nameKw at h
  simp only [Bool.and_eq_true, decide_eq_true_eq] at h
  exact h.2.1
theorem itm_small {op n : Int} {x : ByteArray} (h : itmOk op n x = true) : x.size ≤ 200 := by
  have he : ∀ y : ByteArray, (y.toList == ([] : List UInt8)) = true → y.size ≤ 200 := fun y hy => by rw [empty_size (beq_iff_eq.mp hy)]; omega
  unfold itmOk at h
  by_cases c1 : op = 1
  · rw [if_pos c1, Bool.and_eq_true] at h; exact he x h.2
  · rw [if_neg c1] at h
    by_cases c2 : op = 2
    · rw [if_pos c2, Bool.and_eq_true] at h
      have := h.2
      unfold textOk at this
      rw [Bool.and_eq_true, decide_eq_true_eq] at this
      exact this.1
    · rw [if_neg c2] at h
      by_cases c3 : op = 3
      · rw [if_pos c3, Bool.and_eq_true] at h
        have := name_small h.2
        omega
      · rw [if_neg c3, Bool.and_eq_true, Bool.and_eq_true] at h; exact he x h.2.2
theorem exp_small {l : List Itm} (h : expOk l = true) : l.length ≤ 100 ∧ ∀ z ∈ l, z.f2.size ≤ 200 := by
  unfold expOk at h
  rw [Bool.and_eq_true, decide_eq_true_eq] at h
  refine ⟨h.1.2, ?_⟩
  have key : ∀ (l : List Itm) (d : Int), expRun l d = true → ∀ z ∈ l, z.f2.size ≤ 200 := by
    intro l
    induction l with
    | nil => intro d _ z hz; cases hz
    | cons t r ih =>
      intro d hd z hz
      rw [expRun, Bool.and_eq_true] at hd
      rcases List.mem_cons.1 hz with rfl | hz
      · exact itm_small hd.1
      · by_cases c : d < arity t.f0
        · rw [if_pos c] at hd; cases hd.2
        · rw [if_neg c] at hd; exact ih _ hd.2 z hz
  exact key l 0 h.2
end Go.Proofs.YtbpfdjbnfkclcaaGreatDoor.Pure
end
section
set_option linter.unusedVariables false
set_option linter.unusedSimpArgs false
namespace Go.Proofs.YtbpfdjbnfkclcaaGreatDoor.Pure
open Go Go.RowKit Go.Proofs.YtbpfdjbnfkclcaaGreatDoor Go.Proofs.YtbpfdjbnfkclcaaGreatDoor.L Go.Proofs.YtbpfdjbnfkclcaaGreatDoorW.PrintWords Go.Proofs.YtbpfdjbnfkclcaaGreatDoorW.PrintMore Go.Proofs.YtbpfdjbnfkclcaaGreatDoorW.PrintLast
theorem ba_ext {s t : ByteArray} (h : s.data.toList = t.data.toList) : s = t := by
  obtain ⟨⟨a⟩⟩ := s
  obtain ⟨⟨b⟩⟩ := t
  exact congrArg (fun x => (⟨⟨x⟩⟩ : ByteArray)) h
theorem ba_app (a b : List UInt8) : (⟨a.toArray⟩ : ByteArray) ++ ⟨b.toArray⟩ = ⟨(a ++ b).toArray⟩ := by
  apply ba_ext
  simp
theorem ba_size (a : List UInt8) : (⟨a.toArray⟩ : ByteArray).size = a.length := rfl
theorem ba_len (s : ByteArray) : s.data.toList.length = s.size := rfl
theorem one_size (x : UInt8) : (⟨#[x]⟩ : ByteArray).size = 1 := rfl
/-- A whole number's text. -/
def decT (n : Int) : ByteArray := ⟨(Lib.itoa n).toArray⟩
def inI (n : Int) : Prop := -9223372036854775808 < n ∧ n ≤ 9223372036854775807
theorem digit (u : Nat) (h : u < 10) : (⟨#[48, 49, 50, 51, 52, 53, 54, 55, 56, 57]⟩ : ByteArray).extract u (u + 1) = ⟨#[UInt8.ofNat (48 + u)]⟩ := by
  have : u = 0 ∨ u = 1 ∨ u = 2 ∨ u = 3 ∨ u = 4 ∨ u = 5 ∨ u = 6 ∨ u = 7 ∨ u = 8 ∨ u = 9 := by omega
  rcases this with rfl | rfl | rfl | rfl | rfl | rfl | rfl | rfl | rfl | rfl <;> decide
theorem dec_big {u : Nat} (h : ¬ u < 10) : Lib.decDigits u = Lib.decDigits (u / 10) ++ [UInt8.ofNat (48 + u % 10)] := by
  conv => lhs; rw [Lib.decDigits, dif_neg h]
theorem dec_len (k : Nat) : ∀ u, u < 10 ^ (k + 1) → (Lib.decDigits u).length ≤ k + 1 := by
  induction k with
  | zero =>
    intro u h
    rw [Lib.decDigits, dif_pos (by simpa using h)]
    simp
  | succ k ih =>
    intro u h
    by_cases c : u < 10
    · rw [Lib.decDigits, dif_pos c]; simp
    · rw [dec_big c, List.length_append]
      have := ih (u / 10) (by rw [Nat.pow_succ] at h; omega)
      simp only [List.length_singleton]
      omega
theorem dec_nat (u : Nat) : u ≤ 9223372036854775807 → Ev (fun k => spec_l4Dec.f k (u : Int)) ⟨(Lib.decDigits u).toArray⟩ := by
  induction u using Nat.strongRecOn with
  | _ u ih =>
  intro hu
  by_cases h : u < 10
  · refine Ev.step (f := fun _ => some ⟨(Lib.decDigits u).toArray⟩) (fun k => ?_) (Ev.now _)
    rw [spec_l4Dec.f, if_neg (by omega), if_neg (by omega), if_pos (by omega), if_pos (by omega), wsucc u (by omega), if_pos (by omega), if_pos (by omega), Int.toNat_natCast, Int.toNat_natCast, digit u h, Lib.decDigits, dif_pos h]
  · have e1 : Int.tdiv (u : Int) 10 = ((u / 10 : Nat) : Int) := by rw [Int.tdiv_eq_ediv_of_nonneg (by omega)]; omega
    have e2 : Int.tmod (u : Int) 10 = ((u % 10 : Nat) : Int) := by rw [Int.tmod_eq_emod_of_nonneg (by omega)]; omega
    have e3 := w64 ((u / 10 : Nat) : Int) (by omega)
    have e4 := wsucc (u % 10) (by omega)
    have c1 : (0 : Int) ≤ ((u % 10 : Nat) : Int) := by omega
    have c2 : ((u % 10 : Nat) : Int) ≤ ((u % 10 + 1 : Nat) : Int) := by omega
    have c3 : ((u % 10 + 1 : Nat) : Int) ≤ 10 := by omega
    refine Ev.step (f := fun k => (spec_l4Dec.f k ((u / 10 : Nat) : Int)).bind fun t => if t.size + 1 ≤ 9223372036854775807 then some (t ++ ⟨#[UInt8.ofNat (48 + u % 10)]⟩) else none) (fun k => ?_) ?_
    · rw [spec_l4Dec.f, if_neg (by omega), if_neg (by omega), if_neg (by omega), e1, e2, e3, e4]
      simp only [if_pos c1, if_pos c2, if_pos c3, Int.toNat_natCast, digit (u % 10) (by omega), one_size]
    · refine (ih (u / 10) (by omega) (by omega)).bind ?_
      have := dec_len 18 (u / 10) (by omega)
      refine Ev.pos (by rw [ba_size]; omega) ?_
      rw [dec_big h, ← ba_app]
      exact Ev.now _
theorem spec_dec (n : Int) (h : inI n) : Ev (fun k => spec_l4Dec.f k n) (decT n) := by
  unfold inI at h
  unfold decT Lib.itoa
  by_cases c : n < 0
  · rw [if_pos c]
    obtain ⟨u, hu⟩ : ∃ u : Nat, n = -(u : Int) := ⟨n.natAbs, by omega⟩
    have e : wrap64 (-n) = (u : Int) := by rw [w64 (-n) (by omega)]; omega
    have e2 : n.natAbs = u := by omega
    refine Ev.step (f := fun k => (spec_l4Dec.f k (u : Int)).bind fun t => if 1 + t.size ≤ 9223372036854775807 then some ((⟨#[45]⟩ : ByteArray) ++ t) else none) (fun k => ?_) ?_
    · rw [spec_l4Dec.f, if_neg (by omega), if_pos c, e]
    · refine (dec_nat u (by omega)).bind ?_
      have := dec_len 18 u (by omega)
      refine Ev.pos (by rw [ba_size]; omega) ?_
      rw [e2, show (⟨#[45]⟩ : ByteArray) = ⟨([45] : List UInt8).toArray⟩ from rfl, ba_app]
      exact Ev.now _
  · rw [if_neg c]
    have := dec_nat n.toNat (by omega)
    rwa [Int.toNat_of_nonneg (by omega)] at this
theorem decT_size (n : Int) (h : inI n) : (decT n).size ≤ 20 := by
  unfold inI at h
  unfold decT Lib.itoa
  rw [ba_size]
  split
  · have := dec_len 18 n.natAbs (by omega)
    simp only [List.length_cons]
    omega
  · have := dec_len 18 n.toNat (by omega)
    omega
theorem impl_dec (n : Int) (h : inI n) : strconv_Itoa_48.f n = some (decT n) := by
  unfold inI at h
  unfold strconv_Itoa_48.f
  rw [if_pos (by omega)]
  rfl
def rep (l : List UInt8) : List UInt8 := Lib.replaceAll l [39] [39, 39]
theorem rep_eq (l : List UInt8) : rep l = Lib.replaceK [39] [39, 39] (Lib.count l [39]) l := by
  have hne : (([39] : List UInt8) == [39, 39]) = false := rfl
  unfold rep Lib.replaceAll Lib.replace Lib.replaceNum
  rw [hne, if_neg (by decide), if_pos (Or.inl (by decide))]
theorem rep_nil : rep [] = [] := by
  rw [rep_eq]
  rfl
theorem rep_cons (b : UInt8) (l : List UInt8) : rep (b :: l) = (if b = 39 then [39, 39] else [b]) ++ rep l := by
  rw [rep_eq, rep_eq]
  by_cases h : b = 39
  · subst h
    rw [if_pos rfl, Lib.count_cons_eq, Nat.add_comm 1]
    have hix : Lib.index (39 :: l) [39] = ((0 : Nat) : Int) := by rw [Lib.index]; simp [List.isPrefixOf]
    rw [Lib.replaceK_hit _ _ _ _ 0 hix]
    simp
  · rw [if_neg h, Lib.count_cons_ne b 39 l h]
    cases hc : Lib.count l [39] with
    | zero => simp [Lib.replaceK]
    | succ k =>
      obtain ⟨j, hj⟩ := Lib.index_of_count (s := l) (old := [39]) (by omega)
      have hp : ([39] : List UInt8).isPrefixOf (b :: l) = false := by simp [List.isPrefixOf, Ne.symm h]
      have hix : Lib.index (b :: l) [39] = ((j + 1 : Nat) : Int) := by
        rw [Lib.index, hp]
        have : ¬ (Lib.index l [39] == -1) = true := fun e => by have := beq_iff_eq.1 e; omega
        simp [this, hj]
      rw [Lib.replaceK_hit _ _ _ _ (j + 1) hix, Lib.replaceK_hit _ _ _ _ j hj]
      simp
theorem rep_len (l : List UInt8) : (rep l).length ≤ 2 * l.length := by
  induction l with
  | nil => rw [rep_nil]; simp
  | cons b l ih =>
    rw [rep_cons, List.length_append, List.length_cons]
    split
    · simp only [List.length_cons, List.length_nil]; omega
    · simp only [List.length_cons, List.length_nil]; omega
/-- A string's text, quoted. -/
def quoT (v : ByteArray) : ByteArray := ((⟨#[39]⟩ : ByteArray) ++ ⟨(rep v.data.toList).toArray⟩) ++ ⟨#[39]⟩
theorem quoT_size (v : ByteArray) : (quoT v).size ≤ 2 * v.size + 2 := by
  unfold quoT
  rw [ByteArray.size_append, ByteArray.size_append, one_size, ba_size]
  have := rep_len v.data.toList
  rw [ba_len] at this
  omega
theorem impl_quo (v : ByteArray) (h : v.size ≤ 1000) : impl_quote.f v = some (quoT v) := by
  have h1 := Lib.countB_le (⟨#[39]⟩ : ByteArray) (by decide) v.size v (Nat.le_refl _)
  have h2 : (⟨#[39, 39]⟩ : ByteArray).size = 2 := rfl
  have h3 := rep_len v.data.toList
  rw [ba_len] at h3
  unfold impl_quote.f strings_ReplaceAll.f
  rw [if_pos ⟨by omega, by decide, by rw [h2]; omega⟩, Option.bind_some]
  have h4 : (⟨(rep v.data.toList).toArray⟩ : ByteArray).size ≤ 2000 := by rw [ba_size]; omega
  rw [show (⟨(Lib.replaceAll v.data.toList (⟨#[39]⟩ : ByteArray).data.toList (⟨#[39, 39]⟩ : ByteArray).data.toList).toArray⟩ : ByteArray) = ⟨(rep v.data.toList).toArray⟩ from rfl, if_pos (by omega), if_pos (by rw [ByteArray.size_append, one_size]; omega)]
  rfl
theorem byte_at (s : ByteArray) (i : Nat) (h : i < s.size) : ∃ b : UInt8, s.data.toList.drop i = b :: s.data.toList.drop (i + 1) ∧ bt s (i : Int) = (b.toNat : Int) ∧ s.extract i (i + 1) = ⟨#[b]⟩ := by
  have hl : i < s.data.toList.length := by rw [ba_len]; exact h
  refine ⟨s.data.toList[i], List.drop_eq_getElem_cons hl, ?_, ?_⟩
  · unfold bt
    rw [dif_pos (by simpa using h)]
    rfl
  · apply ba_ext
    rw [show (⟨#[s.data.toList[i]]⟩ : ByteArray).data.toList = [s.data.toList[i]] from rfl]
    simp only [ByteArray.data_extract, Array.toList_extract]
    rw [List.extract_eq_take_drop, List.drop_eq_getElem_cons hl]
    simp
theorem quote_l0 (s : ByteArray) (hs : s.size ≤ 1000) (d : Nat) : ∀ (i : Nat) (out : ByteArray), i + d = s.size → out.size + 2 * d ≤ 100000 → Ev (fun k => spec_l4Quote.l0 k s out (i : Int)) ((out ++ ⟨(rep (s.data.toList.drop i)).toArray⟩) ++ ⟨#[39]⟩) := by
  induction d with
  | zero =>
    intro i out hi hz
    refine Ev.step (f := fun _ => some (out ++ ⟨#[39]⟩)) (fun k => ?_) ?_
    · rw [spec_l4Quote.l0, if_neg (by omega), if_pos (by omega)]
    · rw [List.drop_eq_nil_of_le (by rw [ba_len]; omega), rep_nil]
      have e : out ++ (⟨([] : List UInt8).toArray⟩ : ByteArray) = out := by apply ba_ext; simp
      rw [e]
      exact Ev.now _
  | succ d ih =>
    intro i out hi hz
    obtain ⟨b, h1, h2, h3⟩ := byte_at s i (by omega)
    rw [h1, rep_cons]
    have e0 := wsucc i (by omega)
    have c1 : (i : Int) ≤ ((i + 1 : Nat) : Int) := by omega
    have c2 : ((i + 1 : Nat) : Int) ≤ (s.size : Int) := by omega
    by_cases c : b = 39
    · subst c
      refine Ev.step (f := fun k => spec_l4Quote.l0 k s ((out ++ ⟨#[39]⟩) ++ ⟨#[39]⟩) ((i + 1 : Nat) : Int)) (fun k => ?_) ?_
      · rw [spec_l4Quote.l0, if_pos (by omega), if_pos (by omega), h2, if_pos (by decide), if_pos (by omega), e0, if_pos c1, if_pos c2, Int.toNat_natCast, Int.toNat_natCast, h3, if_pos (by rw [ByteArray.size_append, one_size]; omega)]
      · have := ih (i + 1) ((out ++ ⟨#[39]⟩) ++ ⟨#[39]⟩) (by omega) (by rw [ByteArray.size_append, ByteArray.size_append, one_size]; omega)
        have e : ((out ++ (⟨#[39]⟩ : ByteArray)) ++ ⟨#[39]⟩) ++ ⟨(rep (s.data.toList.drop (i + 1))).toArray⟩ = out ++ ⟨((if (39 : UInt8) = 39 then [39, 39] else [39]) ++ rep (s.data.toList.drop (i + 1))).toArray⟩ := by
          apply ba_ext
          simp
        rw [e] at this
        exact this
    · refine Ev.step (f := fun k => spec_l4Quote.l0 k s (out ++ ⟨#[b]⟩) ((i + 1 : Nat) : Int)) (fun k => ?_) ?_
      · have cb : ¬ ((b.toNat : Int) = 39) := fun e => c (UInt8.toNat_inj.1 (by show b.toNat = 39; omega))
        rw [spec_l4Quote.l0, if_pos (by omega), if_pos (by omega), h2, if_neg cb, e0, if_pos c1, if_pos c2, Int.toNat_natCast, Int.toNat_natCast, h3, if_pos (by rw [one_size]; omega)]
      · have := ih (i + 1) (out ++ ⟨#[b]⟩) (by omega) (by rw [ByteArray.size_append, one_size]; omega)
        have e : (out ++ (⟨#[b]⟩ : ByteArray)) ++ ⟨(rep (s.data.toList.drop (i + 1))).toArray⟩ = out ++ ⟨((if b = 39 then [39, 39] else [b]) ++ rep (s.data.toList.drop (i + 1))).toArray⟩ := by
          rw [if_neg c]
          apply ba_ext
          simp
        rw [e] at this
        exact this
theorem spec_quo (v : ByteArray) (h : v.size ≤ 1000) : Ev (fun k => spec_l4Quote.f k v) (quoT v) := by
  have := quote_l0 v h v.size 0 ⟨#[39]⟩ (by omega) (by rw [one_size]; omega)
  unfold quoT
  exact this
def joinT (ps : List ByteArray) : ByteArray := ⟨(Lib.join (ps.map (·.data.toList)) [44, 32]).toArray⟩
theorem tail_len (B : Nat) : ∀ (r : List ByteArray), (∀ x ∈ r, x.size ≤ B) → (Lib.joinTail [44, 32] (r.map (·.data.toList))).length ≤ r.length * (B + 2)
  | [], _ => by simp [Lib.joinTail]
  | x :: r, h => by
    have ih := tail_len B r fun y hy => h y (List.mem_cons_of_mem _ hy)
    have hx := h x List.mem_cons_self
    have e : Lib.joinTail [44, 32] ((x :: r).map (·.data.toList)) = ([44, 32] ++ x.data.toList) ++ Lib.joinTail [44, 32] (r.map (·.data.toList)) := rfl
    rw [e, List.length_append, List.length_append, ba_len, show ([44, 32] : List UInt8).length = 2 from rfl, List.length_cons, Nat.add_mul]
    omega
theorem join_len (B : Nat) (ps : List ByteArray) (h : ∀ x ∈ ps, x.size ≤ B) (h1 : 1 ≤ ps.length) : (Lib.join (ps.map (·.data.toList)) [44, 32]).length ≤ ps.length * (B + 2) := by
  cases ps with
  | nil => simp at h1
  | cons x r =>
    rw [List.map_cons, Lib.join_cons, List.length_append, ba_len, List.length_cons, Nat.add_mul]
    have := tail_len B r fun y hy => h y (List.mem_cons_of_mem _ hy)
    have := h x List.mem_cons_self
    omega
theorem joinT_size (B : Nat) (ps : List ByteArray) (h : ∀ x ∈ ps, x.size ≤ B) (h1 : 1 ≤ ps.length) : (joinT ps).size ≤ ps.length * (B + 2) := by
  unfold joinT
  rw [ba_size]
  exact join_len B ps h h1
theorem impl_join (ps : List ByteArray) (h : ∀ x ∈ ps, x.size ≤ 1000000) (h1 : 1 ≤ ps.length) (h2 : ps.length ≤ 100) : strings_Join.f ps (⟨#[44, 32]⟩ : ByteArray) = some (joinT ps) := by
  have := join_len 1000000 ps h h1
  unfold strings_Join.f
  rw [if_pos ⟨⟨h1, by omega⟩, by show (Lib.join (ps.map (·.data.toList)) [44, 32]).length ≤ _; omega⟩]
  rfl
theorem commas_l0 (ps : List ByteArray) (h : ∀ x ∈ ps, x.size ≤ 1000000) (h2 : ps.length ≤ 100) (d : Nat) : ∀ (i : Nat) (out : ByteArray), 1 ≤ i → i + d = ps.length → out.size + d * 1000002 ≤ 1000000000 →
    Ev (fun k => spec_l4Commas.l0 k out ps (ps.length : Int) (i : Int)) (out ++ ⟨(Lib.joinTail [44, 32] ((ps.drop i).map (·.data.toList))).toArray⟩) := by
  induction d with
  | zero =>
    intro i out h1 hi hz
    refine Ev.step (f := fun _ => some out) (fun k => by rw [spec_l4Commas.l0, if_neg (by omega)]) ?_
    rw [List.drop_eq_nil_of_le (by omega)]
    have e : out ++ (⟨(Lib.joinTail [44, 32] (([] : List ByteArray).map (·.data.toList))).toArray⟩ : ByteArray) = out := by apply ba_ext; simp [Lib.joinTail]
    rw [e]
    exact Ev.now _
  | succ d ih =>
    intro i out h1 hi hz
    have hil : i < ps.length := by omega
    have hx := h ps[i] (List.getElem_mem hil)
    rw [Nat.add_mul] at hz
    have h2s : (⟨#[44, 32]⟩ : ByteArray).size = 2 := rfl
    refine Ev.step (f := fun k => spec_l4Commas.l0 k ((out ++ ⟨#[44, 32]⟩) ++ ps[i]) ps (ps.length : Int) ((i + 1 : Nat) : Int)) (fun k => ?_) ?_
    · rw [spec_l4Commas.l0, if_pos (by omega), if_pos (by omega), if_pos (by omega), if_pos (by omega), if_pos (by omega), rdS ps i hil, if_pos (by rw [ByteArray.size_append, h2s]; omega), wsucc i (by omega)]
    · have := ih (i + 1) ((out ++ ⟨#[44, 32]⟩) ++ ps[i]) (by omega) (by omega) (by rw [ByteArray.size_append, ByteArray.size_append, h2s]; omega)
      have e : ((out ++ (⟨#[44, 32]⟩ : ByteArray)) ++ ps[i]) ++ ⟨(Lib.joinTail [44, 32] ((ps.drop (i + 1)).map (·.data.toList))).toArray⟩ = out ++ ⟨(Lib.joinTail [44, 32] ((ps.drop i).map (·.data.toList))).toArray⟩ := by
        rw [List.drop_eq_getElem_cons hil]
        generalize ps[i] = x
        generalize ps.drop (i + 1) = q
        apply ba_ext
        simp [Lib.joinTail]
      rw [e] at this
      exact this
theorem spec_commas (ps : List ByteArray) (h : ∀ x ∈ ps, x.size ≤ 1000000) (h1 : 1 ≤ ps.length) (h2 : ps.length ≤ 100) : Ev (fun k => spec_l4Commas.f k ps) (joinT ps) := by
  unfold spec_l4Commas.f
  have h0 : 0 < ps.length := by omega
  have hx := h ps[0] (List.getElem_mem h0)
  refine Ev.step (f := fun k => spec_l4Commas.l0 k ((⟨#[]⟩ : ByteArray) ++ ps[0]) ps (ps.length : Int) ((0 + 1 : Nat) : Int)) (fun k => ?_) ?_
  · have e := rdS ps 0 h0
    have e2 := wsucc 0 (by omega)
    simp only [Int.ofNat_zero, Int.natCast_zero] at e e2
    rw [spec_l4Commas.l0, if_pos (by omega), if_pos (by omega), if_pos (by omega), if_neg (by omega), e, if_pos (by show 0 + _ ≤ _; omega), e2]
  · have := commas_l0 ps h h2 (ps.length - 1) 1 ((⟨#[]⟩ : ByteArray) ++ ps[0]) (by omega) (by omega) (by rw [ByteArray.size_append]; show 0 + _ + _ ≤ _; omega)
    have e : ((⟨#[]⟩ : ByteArray) ++ ps[0]) ++ ⟨(Lib.joinTail [44, 32] ((ps.drop 1).map (·.data.toList))).toArray⟩ = joinT ps := by
      unfold joinT
      cases ps with
      | nil => simp at h1
      | cons x r =>
        rw [List.map_cons, Lib.join_cons]
        apply ba_ext
        simp
    rw [e] at this
    exact this
end Go.Proofs.YtbpfdjbnfkclcaaGreatDoor.Pure
end
section
set_option linter.unusedVariables false
set_option linter.unusedSimpArgs false
namespace Go.Proofs.YtbpfdjbnfkclcaaGreatDoor.Pure
open Go Go.RowKit Go.Proofs.YtbpfdjbnfkclcaaGreatDoor Go.Proofs.YtbpfdjbnfkclcaaGreatDoor.L Go.Proofs.YtbpfdjbnfkclcaaGreatDoorW.PrintWords Go.Proofs.YtbpfdjbnfkclcaaGreatDoorW.PrintMore Go.Proofs.YtbpfdjbnfkclcaaGreatDoorW.PrintLast
/-- Does something stand that this kind has not? -/
def bad (kind : Int) (cols : List Col) (vals : List Val) (col : ByteArray) (exp : List Itm) (outs : List (List Itm)) : Bool :=
  (decide (¬ kind = 1) && decide (¬ cols.length = 0)) || ((decide (¬ kind = 2) && decide (¬ vals.length = 0)) || ((decide (¬ kind = 3) && (decide (¬ col.toList = ([] : List UInt8)) || decide (¬ exp.length = 0))) || (decide (¬ kind = 5) && decide (¬ outs.length = 0))))
theorem ne0 {α : Type} (l : List α) : ((l.length : Int) != 0) = decide (¬ l.length = 0) := by
  by_cases h : l.length = 0
  · simp [h]
  · rw [decide_eq_true h]; exact bne_iff_ne.2 (by omega)
theorem len0 {α : Type} (l : List α) : ((l.length : Int) = 0) ↔ l.length = 0 := by omega
theorem spec_f_eq (k : Nat) (kind : Int) (table : ByteArray) (cols : List Col) (vals : List Val) (col : ByteArray) (exp wh : List Itm) (outs : List (List Itm)) :
    spec_StmOK.f k kind table cols vals col exp wh outs = (spec_l4Name.f k table).bind fun t => if t = true then spec_StmOK.j0 k kind (bad kind cols vals col exp outs) kind table cols vals col exp wh outs else some false := by
  unfold spec_StmOK.f bad
  simp only [ne0, len0]
  congr 1
  funext t
  cases t with
  | false => simp only [if_neg ff]
  | true =>
    simp only [if_true]
    by_cases h1 : kind = 1
    · subst h1
      by_cases e2 : vals.length = 0 <;> by_cases e3 : col.toList = ([] : List UInt8) <;> by_cases e4 : exp.length = 0 <;> simp [e2, e3, e4]
    · by_cases h2 : kind = 2
      · subst h2
        by_cases e1 : cols.length = 0 <;> by_cases e3 : col.toList = ([] : List UInt8) <;> by_cases e4 : exp.length = 0 <;> simp [e1, e3, e4]
      · by_cases h3 : kind = 3
        · subst h3
          by_cases e1 : cols.length = 0 <;> by_cases e2 : vals.length = 0 <;> simp [e1, e2]
        · by_cases h5 : kind = 5
          · subst h5
            by_cases e1 : cols.length = 0 <;> by_cases e2 : vals.length = 0 <;> by_cases e3 : col.toList = ([] : List UInt8) <;> by_cases e4 : exp.length = 0 <;> simp [e1, e2, e3, e4]
          · by_cases e1 : cols.length = 0 <;> by_cases e2 : vals.length = 0 <;> by_cases e3 : col.toList = ([] : List UInt8) <;> by_cases e4 : exp.length = 0 <;> simp [h1, h2, h3, h5, e1, e2, e3, e4]
theorem spec_type (t : Int) : spec_l4Type.f t = some (decide (t = 1) || decide (t = 2)) := by
  unfold spec_l4Type.f
  by_cases h : t = 1
  · simp [h]
  · rw [if_neg h, decide_eq_false h, Bool.false_or]
    by_cases h2 : t = 2
    · simp [h2]
    · rw [decide_eq_false h2, show (t == 2) = false from beq_eq_false_iff_ne.2 h2]
theorem bind_two {β : Type} (x : Option Bool) (b : Bool) (y : Option β) (z : Option β) :
    (x.bind fun t => if t = true then ((some b : Option Bool).bind fun u => if u = true then y else z) else z) = ((x.bind fun t => some (t && b)).bind fun v => if v = true then y else z) := by
  cases x with
  | none => rfl
  | some t => cases t <;> cases b <;> rfl
section
variable (table : ByteArray) (cols : List Col) (vals : List Val) (col : ByteArray) (exp wh : List Itm) (outs : List (List Itm))
theorem j0_true (kind : Int) : Ev (fun k => spec_StmOK.j0 k kind true kind table cols vals col exp wh outs) false :=
  Ev.step (f := fun _ => some false) (fun k => by rw [spec_StmOK.j0, if_pos rfl]) (Ev.now _)
theorem j1_true (kind : Int) : Ev (fun k => spec_StmOK.j1 k kind true kind table cols vals col exp wh outs) false :=
  Ev.step (f := fun _ => some false) (fun k => by rw [spec_StmOK.j1, if_pos rfl]) (Ev.now _)
theorem j0_low (kind : Int) (h : kind < 3) {r : Bool} (hr : Ev (fun k => spec_StmOK.j1 k kind (decide (¬ wh.length = 0)) kind table cols vals col exp wh outs) r) : Ev (fun k => spec_StmOK.j0 k kind false kind table cols vals col exp wh outs) r :=
  Ev.step (fun k => by rw [spec_StmOK.j0, if_neg ff, if_pos h, ne0]) hr
theorem j0_high (kind : Int) (h : ¬ kind < 3) {r : Bool} (hr : Ev (fun k => spec_StmOK.j1 k kind false kind table cols vals col exp wh outs) r) : Ev (fun k => spec_StmOK.j0 k kind false kind table cols vals col exp wh outs) r :=
  Ev.step (fun k => by rw [spec_StmOK.j0, if_neg ff, if_neg h]) hr
theorem spec_cols (hl : cols.length ≤ 1000000000) : Ev (fun k => spec_StmOK.l0 k cols (cols.length : Int) ((0 : Nat) : Int) 1 table cols vals col exp wh outs) (decide (1 ≤ cols.length ∧ cols.length ≤ 20) && cols.all colOk) := by
  by_cases h20 : cols.length ≤ 20
  · have := Gen.every (α := Col) colOk (decide (1 ≤ cols.length)) (fun k i => spec_StmOK.l0 k cols (cols.length : Int) i 1 table cols vals col exp wh outs)
      (fun k c => (spec_l4Name.f k c.f0).bind fun t => some (t && (decide (c.f1 = 1) || decide (c.f1 = 2)))) cols (fun k i h => by
        rw [spec_StmOK.l0, if_pos (by omega), if_pos (by omega), if_pos (by omega), if_neg (by omega), rdCol cols i h, wsucc i (by omega)]
        simp only [spec_type]
        exact bind_two _ _ _ _)
      (Ev.step (f := fun _ => some (decide (1 ≤ cols.length))) (fun k => by
        rw [spec_StmOK.l0, if_neg (by omega)]
        congr 1
        by_cases h : 1 ≤ cols.length
        · rw [decide_eq_true h, decide_eq_true (by omega)]
        · rw [decide_eq_false h, decide_eq_false (by omega)]) (Ev.now _))
      (fun c _ => (spec_nm c.f0).bind (Ev.now _)) cols.length 0 (by omega)
    have e : (decide (1 ≤ cols.length ∧ cols.length ≤ 20) && cols.all colOk) = ((cols.drop 0).all colOk && decide (1 ≤ cols.length)) := by
      rw [List.drop_zero, Bool.and_comm]
      by_cases h : 1 ≤ cols.length
      · rw [decide_eq_true h, decide_eq_true (And.intro h h20)]
      · rw [decide_eq_false h, decide_eq_false (fun x => h x.1)]
    rw [e]
    exact this
  · refine Ev.step (f := fun _ => some false) (fun k => ?_) ?_
    · rw [spec_StmOK.l0, if_pos (by omega), if_pos (by omega), if_pos (by omega), if_pos (by omega)]
    · rw [decide_eq_false (fun x => h20 x.2), Bool.false_and]; exact Ev.now _
theorem spec_vals (hl : vals.length ≤ 1000000000) : Ev (fun k => spec_StmOK.l1 k vals (vals.length : Int) ((0 : Nat) : Int) 2 table cols vals col exp wh outs) (decide (1 ≤ vals.length ∧ vals.length ≤ 20) && vals.all fun v => valOk v.f0 v.f1 v.f2) := by
  by_cases h20 : vals.length ≤ 20
  · have := Gen.every (α := Val) (fun v => valOk v.f0 v.f1 v.f2) (decide (1 ≤ vals.length)) (fun k i => spec_StmOK.l1 k vals (vals.length : Int) i 2 table cols vals col exp wh outs)
      (fun k v => spec_l4Value.f k v.f0 v.f1 v.f2) vals (fun k i h => by
        rw [spec_StmOK.l1, if_pos (by omega), if_pos (by omega), if_pos (by omega), if_neg (by omega), rdVal vals i h, wsucc i (by omega)])
      (Ev.step (f := fun _ => some (decide (1 ≤ vals.length))) (fun k => by
        rw [spec_StmOK.l1, if_neg (by omega)]
        congr 1
        by_cases h : 1 ≤ vals.length
        · rw [decide_eq_true h, decide_eq_true (by omega)]
        · rw [decide_eq_false h, decide_eq_false (by omega)]) (Ev.now _))
      (fun v _ => spec_val _ _ _) vals.length 0 (by omega)
    have e : (decide (1 ≤ vals.length ∧ vals.length ≤ 20) && vals.all fun v => valOk v.f0 v.f1 v.f2) = ((vals.drop 0).all (fun v => valOk v.f0 v.f1 v.f2) && decide (1 ≤ vals.length)) := by
      rw [List.drop_zero, Bool.and_comm]
      by_cases h : 1 ≤ vals.length
      · rw [decide_eq_true h, decide_eq_true (And.intro h h20)]
      · rw [decide_eq_false h, decide_eq_false (fun x => h x.1)]
    rw [e]
    exact this
  · refine Ev.step (f := fun _ => some false) (fun k => ?_) ?_
    · rw [spec_StmOK.l1, if_pos (by omega), if_pos (by omega), if_pos (by omega), if_pos (by omega)]
    · rw [decide_eq_false (fun x => h20 x.2), Bool.false_and]; exact Ev.now _
theorem spec_outs (hl : outs.length ≤ 1000000000) : Ev (fun k => spec_StmOK.l2 k outs (outs.length : Int) ((0 : Nat) : Int) 5 table cols vals col exp wh outs) (decide (1 ≤ outs.length ∧ outs.length ≤ 20) && (outs.all expOk && whOk wh)) := by
  by_cases h20 : outs.length ≤ 20
  · have := Gen.every (α := List Itm) expOk (decide (1 ≤ outs.length) && whOk wh) (fun k i => spec_StmOK.l2 k outs (outs.length : Int) i 5 table cols vals col exp wh outs)
      (fun k v => spec_l4Exp.f k v) outs (fun k i h => by
        rw [spec_StmOK.l2, if_pos (by omega), if_pos (by omega), if_pos (by omega), if_neg (by omega), rdII outs i h, wsucc i (by omega)])
      (by
        by_cases h : 1 ≤ outs.length
        · refine Ev.step (f := fun k => (spec_l4Where.f k wh).bind fun t => some t) (fun k => by rw [spec_StmOK.l2, if_neg (by omega), if_pos (by omega)]) ?_
          rw [decide_eq_true h, Bool.true_and]
          exact (spec_wh wh).bind (Ev.now _)
        · refine Ev.step (f := fun _ => some false) (fun k => by rw [spec_StmOK.l2, if_neg (by omega), if_neg (by omega)]) ?_
          rw [decide_eq_false h, Bool.false_and]
          exact Ev.now _)
      (fun v _ => spec_exp _) outs.length 0 (by omega)
    have e : (decide (1 ≤ outs.length ∧ outs.length ≤ 20) && (outs.all expOk && whOk wh)) = ((outs.drop 0).all expOk && (decide (1 ≤ outs.length) && whOk wh)) := by
      rw [List.drop_zero]
      by_cases h : 1 ≤ outs.length
      · rw [decide_eq_true h, decide_eq_true (And.intro h h20)]; simp
      · rw [decide_eq_false h, decide_eq_false (fun x => h x.1)]; simp
    rw [e]
    exact this
  · refine Ev.step (f := fun _ => some false) (fun k => ?_) ?_
    · rw [spec_StmOK.l2, if_pos (by omega), if_pos (by omega), if_pos (by omega), if_pos (by omega)]
    · rw [decide_eq_false (fun x => h20 x.2), Bool.false_and]; exact Ev.now _
theorem spec_stm (kind : Int) (h2 : cols.length ≤ 1000000000) (h3 : vals.length ≤ 1000000000) (h7 : outs.length ≤ 1000000000) :
    Ev (fun k => spec_StmOK.f k kind table cols vals col exp wh outs) (stmOk kind table cols vals col exp wh outs) := by
  refine Ev.congr (fun k => spec_f_eq k kind table cols vals col exp wh outs) ?_
  refine (spec_nm table).bind ?_
  unfold stmOk
  cases hn : nameKw table with
  | false => simp only [if_neg ff, Bool.false_and]; exact Ev.now _
  | true =>
    simp only [if_true, Bool.true_and]
    by_cases k1 : kind = 1
    · subst k1
      by_cases e2 : vals.length = 0 <;> by_cases e3 : col.toList = ([] : List UInt8) <;> by_cases e4 : exp.length = 0 <;> by_cases e5 : outs.length = 0
      all_goals
        simp only [bad, decide_not, decide_true, decide_false, Bool.not_true, Bool.not_false, Bool.false_and, Bool.true_and, Bool.or_false, Bool.false_or, Bool.true_or, Bool.or_true, Bool.and_true, Bool.and_false, if_true, ite_false, if_neg ff, show ¬ (1 : Int) = 2 by decide, show ¬ (1 : Int) = 3 by decide, show ¬ (1 : Int) = 4 by decide, show ¬ (1 : Int) = 5 by decide, e2, e3, e4, e5]
        first
        | exact j0_true table cols vals col exp wh outs 1
        | (refine j0_low table cols vals col exp wh outs 1 (by decide) ?_
           by_cases e6 : wh.length = 0
           · simp only [e6, decide_true, decide_not, Bool.not_true, Bool.true_and]
             refine Ev.step (fun k => by rw [spec_StmOK.j1, if_neg ff, if_pos rfl]) ?_
             exact spec_cols table cols vals col exp wh outs h2
           · simp only [e6, decide_false, decide_not, Bool.not_false, Bool.false_and]
             exact j1_true table cols vals col exp wh outs 1)
    by_cases k2 : kind = 2
    · subst k2
      by_cases e1 : cols.length = 0 <;> by_cases e3 : col.toList = ([] : List UInt8) <;> by_cases e4 : exp.length = 0 <;> by_cases e5 : outs.length = 0
      all_goals
        simp only [bad, decide_not, decide_true, decide_false, Bool.not_true, Bool.not_false, Bool.false_and, Bool.true_and, Bool.or_false, Bool.false_or, Bool.true_or, Bool.or_true, Bool.and_true, Bool.and_false, if_true, ite_false, if_neg ff, show ¬ (2 : Int) = 1 by decide, show ¬ (2 : Int) = 3 by decide, show ¬ (2 : Int) = 4 by decide, show ¬ (2 : Int) = 5 by decide, e1, e3, e4, e5]
        first
        | exact j0_true table cols vals col exp wh outs 2
        | (refine j0_low table cols vals col exp wh outs 2 (by decide) ?_
           by_cases e6 : wh.length = 0
           · simp only [e6, decide_true, decide_not, Bool.not_true, Bool.true_and]
             refine Ev.step (fun k => by rw [spec_StmOK.j1, if_neg ff, if_neg (by decide), if_pos rfl]) ?_
             exact spec_vals table cols vals col exp wh outs h3
           · simp only [e6, decide_false, decide_not, Bool.not_false, Bool.false_and]
             exact j1_true table cols vals col exp wh outs 2)
    by_cases k3 : kind = 3
    · subst k3
      by_cases e1 : cols.length = 0 <;> by_cases e2 : vals.length = 0 <;> by_cases e5 : outs.length = 0
      all_goals
        simp only [bad, decide_not, decide_true, decide_false, Bool.not_true, Bool.not_false, Bool.false_and, Bool.true_and, Bool.or_false, Bool.false_or, Bool.true_or, Bool.or_true, Bool.and_true, Bool.and_false, if_true, ite_false, if_neg ff, show ¬ (3 : Int) = 1 by decide, show ¬ (3 : Int) = 2 by decide, show ¬ (3 : Int) = 4 by decide, show ¬ (3 : Int) = 5 by decide, e1, e2, e5]
        first
        | exact j0_true table cols vals col exp wh outs 3
        | (refine j0_high table cols vals col exp wh outs 3 (by decide) ?_
           refine Ev.step (fun k => by rw [spec_StmOK.j1, if_neg ff, if_neg (by decide), if_neg (by decide), if_pos rfl]) ?_
           refine (spec_nm col).bind ?_
           cases nameKw col with
           | false => simp only [if_neg ff, Bool.false_and]; exact Ev.now _
           | true =>
             simp only [if_true, Bool.true_and]
             refine (spec_exp exp).bind ?_
             cases expOk exp with
             | false => simp only [if_neg ff, Bool.false_and]; exact Ev.now _
             | true => simp only [if_true, Bool.true_and]; exact (spec_wh wh).bind (Ev.now _))
    by_cases k4 : kind = 4
    · subst k4
      by_cases e1 : cols.length = 0 <;> by_cases e2 : vals.length = 0 <;> by_cases e3 : col.toList = ([] : List UInt8) <;> by_cases e4 : exp.length = 0 <;> by_cases e5 : outs.length = 0
      all_goals
        simp only [bad, decide_not, decide_true, decide_false, Bool.not_true, Bool.not_false, Bool.false_and, Bool.true_and, Bool.or_false, Bool.false_or, Bool.true_or, Bool.or_true, Bool.and_true, Bool.and_false, if_true, ite_false, if_neg ff, show ¬ (4 : Int) = 1 by decide, show ¬ (4 : Int) = 2 by decide, show ¬ (4 : Int) = 3 by decide, show ¬ (4 : Int) = 5 by decide, e1, e2, e3, e4, e5]
        first
        | exact j0_true table cols vals col exp wh outs 4
        | (refine j0_high table cols vals col exp wh outs 4 (by decide) ?_
           refine Ev.step (fun k => by rw [spec_StmOK.j1, if_neg ff, if_neg (by decide), if_neg (by decide), if_neg (by decide), if_pos rfl]) ?_
           exact (spec_wh wh).bind (Ev.now _))
    by_cases k5 : kind = 5
    · subst k5
      by_cases e1 : cols.length = 0 <;> by_cases e2 : vals.length = 0 <;> by_cases e3 : col.toList = ([] : List UInt8) <;> by_cases e4 : exp.length = 0
      all_goals
        simp only [bad, decide_not, decide_true, decide_false, Bool.not_true, Bool.not_false, Bool.false_and, Bool.true_and, Bool.or_false, Bool.false_or, Bool.true_or, Bool.or_true, Bool.and_true, Bool.and_false, if_true, ite_false, if_neg ff, show ¬ (5 : Int) = 1 by decide, show ¬ (5 : Int) = 2 by decide, show ¬ (5 : Int) = 3 by decide, show ¬ (5 : Int) = 4 by decide, e1, e2, e3, e4]
        first
        | exact j0_true table cols vals col exp wh outs 5
        | (refine j0_high table cols vals col exp wh outs 5 (by decide) ?_
           refine Ev.step (fun k => by rw [spec_StmOK.j1, if_neg ff, if_neg (by decide), if_neg (by decide), if_neg (by decide), if_neg (by decide), if_pos rfl]) ?_
           exact spec_outs table cols vals col exp wh outs h7)
    simp only [if_neg k1, if_neg k2, if_neg k3, if_neg k4, if_neg k5]
    cases hb : bad kind cols vals col exp outs with
    | true => exact j0_true table cols vals col exp wh outs kind
    | false =>
      by_cases hlt : kind < 3
      · refine j0_low table cols vals col exp wh outs kind hlt ?_
        by_cases e6 : wh.length = 0
        · simp only [e6, decide_true, decide_not, Bool.not_true]
          exact Ev.step (f := fun _ => some false) (fun k => by rw [spec_StmOK.j1, if_neg ff, if_neg k1, if_neg k2, if_neg k3, if_neg k4, if_neg k5]) (Ev.now _)
        · simp only [e6, decide_false, decide_not, Bool.not_false]
          exact j1_true table cols vals col exp wh outs kind
      · refine j0_high table cols vals col exp wh outs kind hlt ?_
        exact Ev.step (f := fun _ => some false) (fun k => by rw [spec_StmOK.j1, if_neg ff, if_neg k1, if_neg k2, if_neg k3, if_neg k4, if_neg k5]) (Ev.now _)
theorem if_and (p : Prop) [Decidable p] (b : Bool) : (if p then (some b : Option Bool) else some false) = some (decide p && b) := by
  by_cases h : p <;> simp [h]
theorem eq0 {α : Type} (l : List α) : ((l.length : Int) == 0) = decide (l.length = 0) := by
  by_cases h : l.length = 0
  · simp [h]
  · rw [decide_eq_false h]; exact beq_eq_false_iff_ne.2 (by omega)
theorem ge1 {α : Type} (l : List α) : ((l.length : Int) ≥ 1) = (1 ≤ l.length) := propext ⟨fun h => by omega, fun h => by omega⟩
theorem le20 {α : Type} (l : List α) : ((l.length : Int) ≤ 20) = (l.length ≤ 20) := propext ⟨fun h => by omega, fun h => by omega⟩
theorem len0' {α : Type} (l : List α) : ((l.length : Int) = 0) = (l.length = 0) := propext (len0 l)
theorem dand (p q : Prop) [Decidable p] [Decidable q] : decide (p ∧ q) = (decide p && decide q) := by
  by_cases h : p <;> by_cases h2 : q <;> simp [h, h2]
theorem impl_stm (kind : Int) (ht : table.size ≤ 9223372036854775807) (hc : col.size ≤ 9223372036854775807) (h2 : cols.length ≤ 1000000000) (h2s : ∀ y ∈ cols, y.f0.size ≤ 9223372036854775807) (h3 : vals.length ≤ 1000000000) (h3s : ∀ y ∈ vals, y.f2.size ≤ 9223372036854775807) (h5s : ∀ y ∈ exp, y.f2.size ≤ 9223372036854775807) (h6s : ∀ y ∈ wh, y.f2.size ≤ 9223372036854775807) (h7 : outs.length ≤ 1000000000) (h7s : ∀ y ∈ outs, ∀ z ∈ y, z.f2.size ≤ 9223372036854775807) :
    Ev (fun k => impl_StmOK.f k kind table cols vals col exp wh outs) (stmOk kind table cols vals col exp wh outs) := by
  have key : Ev (fun k => impl_StmOK.j0 k (whOk wh) kind table cols vals col exp wh outs) (stmOk kind table cols vals col exp wh outs) := by
    unfold stmOk
    refine Ev.step (fun k => by rw [impl_StmOK.j0, impl_nm table ht, Option.bind_some]) ?_
    cases hn : nameKw table with
    | false => simp only [if_neg ff, Bool.false_and]; exact Ev.now _
    | true =>
      simp only [if_true, Bool.true_and]
      by_cases k1 : kind = 1
      · simp only [if_pos k1]
        have := Gen.every (α := Col) colOk ((decide (1 ≤ cols.length) && (decide (cols.length ≤ 20) && (decide (vals.length = 0) && (decide (col.toList = ([] : List UInt8)) && (decide (exp.length = 0) && (decide (wh.length = 0) && decide (outs.length = 0))))))))
          (fun k i => impl_StmOK.l0 k (cols.length : Int) (vals.length : Int) col (exp.length : Int) (outs.length : Int) cols (cols.length : Int) i kind table cols vals col exp wh outs) (fun k c => some (colOk c)) cols (fun k i h => by
            rw [impl_StmOK.l0, if_pos (by omega), if_pos (by omega), if_pos (by omega), rdCol cols i h, impl_nm _ (h2s _ (List.getElem_mem h)), wsucc i (by omega)]
            unfold colOk
            cases nameKw cols[i].f0 with
            | false => simp
            | true =>
              by_cases a1 : cols[i].f1 = 1
              · simp [a1]
              · by_cases a2 : cols[i].f1 = 2
                · simp [a2]
                · simp [a1, a2])
          (Ev.step (f := fun _ => some _) (fun k => by
            rw [impl_StmOK.l0, if_neg (by omega)]
            simp only [eq0, ge1, le20, len0', if_and]) (Ev.now _))
          (fun c _ => Ev.now _) cols.length 0 (by omega)
        rw [List.drop_zero] at this
        refine Ev.congr (fun k => rfl) ?_
        have e : (decide (vals.length = 0) && (decide (col.toList = ([] : List UInt8)) && (decide (exp.length = 0) && (decide (outs.length = 0) && (decide (wh.length = 0) && (decide (1 ≤ cols.length ∧ cols.length ≤ 20) && cols.all colOk)))))) = (cols.all colOk && (decide (1 ≤ cols.length) && (decide (cols.length ≤ 20) && (decide (vals.length = 0) && (decide (col.toList = ([] : List UInt8)) && (decide (exp.length = 0) && (decide (wh.length = 0) && decide (outs.length = 0)))))))) := by
          rw [dand]
          cases cols.all colOk <;> cases decide (vals.length = 0) <;> cases decide (col.toList = ([] : List UInt8)) <;> cases decide (exp.length = 0) <;> cases decide (outs.length = 0) <;> cases decide (wh.length = 0) <;> simp
        rw [e]
        exact this
      by_cases k2 : kind = 2
      · simp only [if_neg k1, if_pos k2]
        have := Gen.every (α := Val) (fun v => valOk v.f0 v.f1 v.f2) ((decide (1 ≤ vals.length) && (decide (vals.length ≤ 20) && (decide (cols.length = 0) && (decide (col.toList = ([] : List UInt8)) && (decide (exp.length = 0) && (decide (wh.length = 0) && decide (outs.length = 0))))))))
          (fun k i => impl_StmOK.l1 k (cols.length : Int) (vals.length : Int) col (exp.length : Int) (outs.length : Int) vals (vals.length : Int) i kind table cols vals col exp wh outs) (fun k v => some (valOk v.f0 v.f1 v.f2)) vals (fun k i h => by
            rw [impl_StmOK.l1, if_pos (by omega), if_pos (by omega), if_pos (by omega), rdVal vals i h, impl_val _ _ _ (h3s _ (List.getElem_mem h)), wsucc i (by omega)])
          (Ev.step (f := fun _ => some _) (fun k => by
            rw [impl_StmOK.l1, if_neg (by omega)]
            simp only [eq0, ge1, le20, len0', if_and]) (Ev.now _))
          (fun c _ => Ev.now _) vals.length 0 (by omega)
        rw [List.drop_zero] at this
        have e : (decide (cols.length = 0) && (decide (col.toList = ([] : List UInt8)) && (decide (exp.length = 0) && (decide (outs.length = 0) && (decide (wh.length = 0) && (decide (1 ≤ vals.length ∧ vals.length ≤ 20) && vals.all fun v => valOk v.f0 v.f1 v.f2)))))) = ((vals.all fun v => valOk v.f0 v.f1 v.f2) && (decide (1 ≤ vals.length) && (decide (vals.length ≤ 20) && (decide (cols.length = 0) && (decide (col.toList = ([] : List UInt8)) && (decide (exp.length = 0) && (decide (wh.length = 0) && decide (outs.length = 0)))))))) := by
          rw [dand]
          cases (vals.all fun v => valOk v.f0 v.f1 v.f2) <;> cases decide (cols.length = 0) <;> cases decide (col.toList = ([] : List UInt8)) <;> cases decide (exp.length = 0) <;> cases decide (outs.length = 0) <;> cases decide (wh.length = 0) <;> simp
        rw [e]
        exact this
      by_cases k3 : kind = 3
      · simp only [if_neg k1, if_neg k2, if_pos k3, impl_nm col hc, Option.bind_some]
        cases nameKw col with
        | false => simp only [if_neg ff, Bool.false_and, Bool.and_false]; exact Ev.now _
        | true =>
          simp only [if_true, Bool.true_and]
          refine (impl_exp exp h5s).bind ?_
          cases expOk exp with
          | false => simp only [if_neg ff, Bool.false_and, Bool.and_false]; exact Ev.now _
          | true =>
            simp only [if_true, Bool.true_and, eq0, len0', if_and]
            cases whOk wh with
            | false => simp only [decide_eq_false ff, Bool.false_and, Bool.and_false]; exact Ev.now _
            | true => simp only [decide_true, Bool.true_and, Bool.and_true]; exact Ev.now _
      by_cases k4 : kind = 4
      · simp only [if_neg k1, if_neg k2, if_neg k3, if_pos k4, eq0, len0', if_and]
        cases whOk wh with
        | false => simp only [decide_eq_false ff, Bool.false_and, Bool.and_false]; exact Ev.now _
        | true => simp only [decide_true, Bool.true_and, Bool.and_true]; exact Ev.now _
      by_cases k5 : kind = 5
      · simp only [if_neg k1, if_neg k2, if_neg k3, if_neg k4, if_pos k5]
        have := Gen.every (α := List Itm) expOk ((decide (1 ≤ outs.length) && (decide (outs.length ≤ 20) && (decide (whOk wh = true) && (decide (cols.length = 0) && (decide (vals.length = 0) && (decide (col.toList = ([] : List UInt8)) && decide (exp.length = 0))))))))
          (fun k i => impl_StmOK.l2 k (whOk wh) (cols.length : Int) (vals.length : Int) col (exp.length : Int) (outs.length : Int) outs (outs.length : Int) i) (fun k v => impl_expOK.f k v) outs (fun k i h => by
            rw [impl_StmOK.l2, if_pos (by omega), if_pos (by omega), if_pos (by omega), rdII outs i h, wsucc i (by omega)])
          (Ev.step (f := fun _ => some _) (fun k => by
            rw [impl_StmOK.l2, if_neg (by omega)]
            simp only [eq0, ge1, le20, len0', if_and]) (Ev.now _))
          (fun c hc => impl_exp c (h7s c hc)) outs.length 0 (by omega)
        rw [List.drop_zero] at this
        have e : (decide (cols.length = 0) && (decide (vals.length = 0) && (decide (col.toList = ([] : List UInt8)) && (decide (exp.length = 0) && (decide (1 ≤ outs.length ∧ outs.length ≤ 20) && (outs.all expOk && whOk wh)))))) = (outs.all expOk && (decide (1 ≤ outs.length) && (decide (outs.length ≤ 20) && (decide (whOk wh = true) && (decide (cols.length = 0) && (decide (vals.length = 0) && (decide (col.toList = ([] : List UInt8)) && decide (exp.length = 0)))))))) := by
          rw [dand]
          cases outs.all expOk <;> cases whOk wh <;> cases decide (cols.length = 0) <;> cases decide (vals.length = 0) <;> cases decide (col.toList = ([] : List UInt8)) <;> cases decide (exp.length = 0) <;> simp
        rw [e]
        exact this
      simp only [if_neg k1, if_neg k2, if_neg k3, if_neg k4, if_neg k5]
      exact Ev.now _
  unfold impl_StmOK.f
  by_cases e6 : wh.length = 0
  · have : whOk wh = true := by unfold whOk; rw [decide_eq_true e6, Bool.true_or]
    simp only [if_pos ((len0 wh).2 e6)]
    rw [this] at key
    exact key
  · have : whOk wh = expOk wh := by unfold whOk; rw [decide_eq_false e6, Bool.false_or]
    simp only [if_neg (fun h => e6 ((len0 wh).1 h))]
    rw [this] at key
    exact (impl_exp wh h6s).bind key
end
end Go.Proofs.YtbpfdjbnfkclcaaGreatDoor.Pure
end
