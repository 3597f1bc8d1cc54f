/- The texts that the proof of the law FnExactAppendEntry rests on, part 5: printed functions with their contracts, words, plain laws; the last part ends in the statement itself. No condition but those that each theorem states. -/
import Derived.Test.YtfknmohedlfmfaaGreatDoorKFnExactAppendEntry4
set_option linter.unusedVariables false
set_option linter.unusedSimpArgs false
section
namespace Go.Proofs.YtfknmohedlfmfaaGreatDoor.L
open Go.RowKit Go.Proofs.YtfknmohedlfmfaaGreatDoorW.PrintWords Go.Proofs.YtfknmohedlfmfaaGreatDoorW.PrintLast Go.Proofs.YtfknmohedlfmfaaGreatDoorW.PrintMore
attribute [local go_sem] max2_int min2_int max_two min_two max_three min_three max_four min_four
set_option linter.unusedVariables false
set_option linter.unusedSimpArgs false
def laws_heldFileS.l0 : Nat → List (S61) → Int → Int → Option (Int)
  | 0, _, _, _ => none
  | k + 1, x0, x1, x5 => if x5 < (x0.length : Int) then (if 0 ≤ x5 then ((laws_markText.f k x1).bind fun t252 => (if ((rd_T61 x0 x5).f0).toList = t252.toList then ((laws_markText.f k (wrap64 (x1 + 1))).bind fun t254 => (if ((rd_T61 x0 x5).f1).toList = t254.toList then (if ((rd_T61 x0 x5).f2) = (wrap64 ((wrap64 (x1 + 1)) + 1)) then (laws_heldFileS.l0 k x0 (wrap64 ((wrap64 ((wrap64 (x1 + 1)) + 1)) + 1)) (wrap64 (x5 + 1))) else (some (-1))) else (some (-1)))) else (some (-1)))) else (none)) else (some x1)
def laws_heldFileS.f (k : Nat) (l0 : List (S61)) (a1 : Int) : Option (Int) := laws_heldFileS.l0 k l0 a1 0
theorem laws_heldFileS.mono_l : ∀ k, (∀ y0 y1 y2, LeO (laws_heldFileS.l0 k y0 y1 y2) (laws_heldFileS.l0 (k + 1) y0 y1 y2))
  | 0 => fun _ _ _ r h => by simp [laws_heldFileS.l0] at h
  | k + 1 => by
    have ih0 := laws_heldFileS.mono_l k
    · intro y0 y1 y2
      unfold laws_heldFileS.l0
      repeat' first
      | (with_reducible exact ih0 _ _ _)
      | (with_reducible exact laws_markText.mono _ _)
      | (with_reducible exact LeO.refl _)
      | (with_reducible exact LeO.none _)
      | (with_reducible refine LeO.ite ?_ ?_)
      | (with_reducible refine LeO.bind ?_ (fun _ => ?_))
      | exact ih0 _ _ _
      | exact laws_markText.mono _ _
      | exact LeO.none _
      | refine LeO.ite ?_ ?_
      | refine LeO.bind ?_ (fun _ => ?_)
theorem laws_heldFileS.mono : ∀ a0 a1 k, LeO (laws_heldFileS.f k a0 a1) (laws_heldFileS.f (k + 1) a0 a1) := by
  intro a0 a1 k
  have ih0 := laws_heldFileS.mono_l k
  unfold laws_heldFileS.f
  repeat' first
      | (with_reducible exact ih0 _ _ _)
      | (with_reducible exact laws_markText.mono _ _)
      | (with_reducible exact LeO.refl _)
      | (with_reducible exact LeO.none _)
      | (with_reducible refine LeO.ite ?_ ?_)
      | (with_reducible refine LeO.bind ?_ (fun _ => ?_))
      | exact ih0 _ _ _
      | exact laws_markText.mono _ _
      | exact LeO.none _
      | refine LeO.ite ?_ ?_
      | refine LeO.bind ?_ (fun _ => ?_)
def laws_heldFileS.T4 : Bool × List (List Nat × List Nat) := (true, [([], []), ([], []), ([0, 1], [0, 1]), ([2], [2]), ([3], [3]), ([], []), ([5], [5]), ([4, 6], [4, 6])])
def laws_heldFileS.B4 : List Nat := [0, 0, 3, 7, 15, 0, 32, 127]
theorem laws_heldFileS.tab4 : rtab .any (opsOf Tryz.f27 4) = laws_heldFileS.T4 := by kernel_rfl
theorem laws_heldFileS.bits4 : waitsOk laws_heldFileS.T4.2 laws_heldFileS.B4 = true := by kernel_rfl
def laws_heldFileS.T7 : Bool × List (List Nat × List Nat) := (true, [([], []), ([], []), ([0, 1], [0, 1]), ([2], [2]), ([3], [3]), ([], []), ([5], [5]), ([4, 6], [4, 6])])
def laws_heldFileS.B7 : List Nat := [0, 0, 3, 7, 15, 0, 32, 127]
theorem laws_heldFileS.tab7 : rtab .any (opsOf Tryz.f27 7) = laws_heldFileS.T7 := by kernel_rfl
theorem laws_heldFileS.bits7 : waitsOk laws_heldFileS.T7.2 laws_heldFileS.B7 = true := by kernel_rfl
set_option maxHeartbeats 8000000 in
set_option maxRecDepth 100000 in
theorem laws_heldFileS.calls (k : Nat) (A0 : Option Addr) (c0 : Nat) (l0 : List (S61)) (a1 : Int) (r : Int) (w : World) (hr0 : Kd.C k61 w A0 l0.length l0) (hc0 : l0.length ≤ c0) (h : laws_heldFileS.f k l0 a1 = some r) :
    Calls Tryz.prog 27 #[.slice A0 l0.length c0, .int .i64 a1] w fun e w' => e = .returned (.int .i64 r) ∧ Below w.heap.size w w' := by
  have HR0 := qK hr0; have HC0 := qK hc0; clear hr0 hc0; have HB := qK (Below.refl w.heap.size w); have H : (laws_heldFileS.l0 k l0 a1 0) = some r := h; clear h; have H' := qK H; clear H; go_enter Tryz.func27, Tryz.ntmps27; go_wp2; go_loopg [1, 5] k (fun kq v1 v5 w' => ∃ (x1_1 : Int) (x5_1 : Int), v1 = .int .i64 x1_1 ∧ v5 = .int .i64 x5_1 ∧ Aside0 (laws_heldFileS.l0 kq l0 x1_1 x5_1 = some r) ∧ Aside0 (kq ≤ k) ∧ Aside0 (Below w.heap.size w w'))
  case atStart => exact ⟨(a1), (0), qS, qS, H', ⟨Nat.le_refl _⟩, ⟨qB⟩⟩
  case round =>
    clear H'; (try clear c2); (try clear p2); obtain ⟨x1_1, x5_1, rfl, rfl, HA, HK1, HB⟩ := hrel
    cases gk with
    | zero => exact absurd HA.out (by simp [laws_heldFileS.l0])
    | succ k1 =>
      have H := HA.out; clear HA; simp only [laws_heldFileS.l0] at H; by_cases c3 : x5_1 < (l0.length : Int)
      · rw [if_pos c3] at H; have c3b0 : decide (x5_1 < (l0.length : Int)) = true := decide_eq_true c3; clear c3; by_cases c4 : 0 ≤ x5_1
        · rw [if_pos c4] at H; have c4b0 : decide (0 ≤ x5_1) = true := decide_eq_true c4; clear c4; replace H := Option.bind_eq_some_iff.mp H; obtain ⟨t252, A50, H⟩ := H; have A5 := qK A50; clear A50; by_cases c6 : ((rd_T61 l0 x5_1).f0).toList = t252.toList
          · rw [if_pos c6] at H; have c6b0 : (((rd_T61 l0 x5_1).f0).toList == t252.toList) = true := beq_iff_eq.mpr c6; have c6b1 : (((rd_T61 l0 x5_1).f0).toList != t252.toList) = false := bne_eq_false_iff_eq.mpr c6; clear c6; replace H := Option.bind_eq_some_iff.mp H; obtain ⟨t254, A70, H⟩ := H; have A7 := qK A70; clear A70; by_cases c8 : ((rd_T61 l0 x5_1).f1).toList = t254.toList
            · rw [if_pos c8] at H; have c8b0 : (((rd_T61 l0 x5_1).f1).toList == t254.toList) = true := beq_iff_eq.mpr c8; have c8b1 : (((rd_T61 l0 x5_1).f1).toList != t254.toList) = false := bne_eq_false_iff_eq.mpr c8; clear c8; by_cases c9 : ((rd_T61 l0 x5_1).f2) = (wrap64 ((wrap64 (x1_1 + 1)) + 1))
              · rw [if_pos c9] at H; have c9b0 : (((rd_T61 l0 x5_1).f2) == (wrap64 ((wrap64 (x1_1 + 1)) + 1))) = true := beq_iff_eq.mpr c9; have c9b1 : (((rd_T61 l0 x5_1).f2) != (wrap64 ((wrap64 (x1_1 + 1)) + 1))) = false := bne_eq_false_iff_eq.mpr c9; clear c9; have H' := qK H; clear H; (try go_wp2); replace HB := qK (bd1 HB.out); have p251 : 0 ≤ (x5_1 : Int) := of_decide_eq_true qa; have q251 : x5_1 < (l0.length : Int) := of_decide_eq_true qa; obtain ⟨ad251, e251, hx251_0, hx251_1, hx251_2⟩ := at_T61 HR0.out x5_1 p251 q251; have hw251_2 := hx251_2; have hw251_1 := hx251_1; have hw251_0 := hx251_0; cases e251; replace hx251_0 := (HB.out.cell (World.block_lt_of_cell? w _ hx251_0)).trans hx251_0; replace hx251_1 := (HB.out.cell (World.block_lt_of_cell? w _ hx251_1)).trans hx251_1; replace hx251_2 := (HB.out.cell (World.block_lt_of_cell? w _ hx251_2)).trans hx251_2; replace p251 := eq_true p251; replace q251 := eq_true q251; refine qs 8 (fun w' => w'.cell? (ad251.add ((x5_1).toNat * 3)) = some (.string ((rd_T61 l0 x5_1).f0)) ∧ w'.cell? ⟨(ad251.add ((x5_1).toNat * 3)).block, (ad251.add ((x5_1).toNat * 3)).off + 1, none⟩ = some (.string ((rd_T61 l0 x5_1).f1)) ∧ w'.cell? ⟨(ad251.add ((x5_1).toNat * 3)).block, (ad251.add ((x5_1).toNat * 3)).off + 2, none⟩ = some (.int .i64 ((rd_T61 l0 x5_1).f2))) (ds := []) ⟨((HB.out.cell (World.block_lt_of_cell? w _ hw251_0)).trans hw251_0), ((HB.out.cell (World.block_lt_of_cell? w _ hw251_1)).trans hw251_1), ((HB.out.cell (World.block_lt_of_cell? w _ hw251_2)).trans hw251_2)⟩ (fun hHeld => ?_); refine with_tabW laws_heldFileS.tab4 laws_heldFileS.bits4 (fun HT_ HW_ => ?_); generalize wr.drew = w10 at HB hx251_0 hx251_1 hx251_2 hHeld ⊢; refine qp 0 12 ?_; refine qp 1 13 ?_; refine qp 2 14 ?_; refine qp 3 15 ?_; refine qp 5 17 ?_; refine qt 4 16 ?_; refine qo 6 18 (fun K hK => ?_); refine goes_ Tryz.func45 (by kernel_rfl) rfl #[.int .i64 x1_1] (by rfl) rfl rfl qA ?_; (with_reducible refine (laws_markText.calls k1 x1_1 t252 _ A5.out).mono ?_); rintro e w11 ⟨rfl, hb⟩; refine ⟨_, rfl, ?_⟩; replace HB := qHB HB hb; (try clear hb); (try clear hb2); (try clear hk); (try clear hi); refine hK.out _ _ ⟨((HB.out.cell (World.block_lt_of_cell? w _ hw251_0)).trans hw251_0), ((HB.out.cell (World.block_lt_of_cell? w _ hw251_1)).trans hw251_1), ((HB.out.cell (World.block_lt_of_cell? w _ hw251_2)).trans hw251_2)⟩ (fun hHeld => ?_); clear hK K; refine norm_ (a' := ?_) ?_ ?_; rotate_left
                · show Act.put _ (some 18) _ = _; simp only [Act.put, List.setIfInBounds_toArray, List.set_cons_zero, List.set_cons_succ, i64_w, i32_w]; rfl
                refine qp 7 19 ?_; refine done_ (done_of HT_.out (by kernel_rfl)) ?_; (try go_wp2); replace HB := qK (bd1 HB.out); have p253 : 0 ≤ (x5_1 : Int) := of_decide_eq_true qa; have q253 : x5_1 < (l0.length : Int) := of_decide_eq_true qa; obtain ⟨ad253, e253, hx253_0, hx253_1, hx253_2⟩ := at_T61 HR0.out x5_1 p253 q253; have hw253_2 := hx253_2; have hw253_1 := hx253_1; have hw253_0 := hx253_0; obtain rfl : ad251 = ad253 := (by injection e253); replace hx253_0 := (HB.out.cell (World.block_lt_of_cell? w _ hx253_0)).trans hx253_0; replace hx253_1 := (HB.out.cell (World.block_lt_of_cell? w _ hx253_1)).trans hx253_1; replace hx253_2 := (HB.out.cell (World.block_lt_of_cell? w _ hx253_2)).trans hx253_2; replace p253 := eq_true p253; replace q253 := eq_true q253; refine qs 8 (fun w' => w'.cell? (ad251.add ((x5_1).toNat * 3)) = some (.string ((rd_T61 l0 x5_1).f0)) ∧ w'.cell? ⟨(ad251.add ((x5_1).toNat * 3)).block, (ad251.add ((x5_1).toNat * 3)).off + 1, none⟩ = some (.string ((rd_T61 l0 x5_1).f1)) ∧ w'.cell? ⟨(ad251.add ((x5_1).toNat * 3)).block, (ad251.add ((x5_1).toNat * 3)).off + 2, none⟩ = some (.int .i64 ((rd_T61 l0 x5_1).f2))) (ds := []) ⟨((HB.out.cell (World.block_lt_of_cell? w _ hw253_0)).trans hw253_0), ((HB.out.cell (World.block_lt_of_cell? w _ hw253_1)).trans hw253_1), ((HB.out.cell (World.block_lt_of_cell? w _ hw253_2)).trans hw253_2)⟩ (fun hHeld => ?_); refine with_tabW laws_heldFileS.tab7 laws_heldFileS.bits7 (fun HT_ HW_ => ?_); generalize w11.drew = w12 at HB hx253_0 hx253_1 hx253_2 hHeld ⊢; refine qp 0 22 ?_; refine qp 1 23 ?_; refine qp 2 24 ?_; refine qp 3 25 ?_; refine qp 5 27 ?_; refine qt 4 26 ?_; refine qo 6 28 (fun K hK => ?_); refine goes_ Tryz.func45 (by kernel_rfl) rfl #[.int .i64 (wrap64 (x1_1 + 1))] (by rfl) rfl rfl qA ?_; (with_reducible refine (laws_markText.calls k1 (wrap64 (x1_1 + 1)) t254 _ A7.out).mono ?_); rintro e w13 ⟨rfl, hb⟩; refine ⟨_, rfl, ?_⟩; replace HB := qHB HB hb; (try clear hb); (try clear hb2); (try clear hk); (try clear hi); refine hK.out _ _ ⟨((HB.out.cell (World.block_lt_of_cell? w _ hw253_0)).trans hw253_0), ((HB.out.cell (World.block_lt_of_cell? w _ hw253_1)).trans hw253_1), ((HB.out.cell (World.block_lt_of_cell? w _ hw253_2)).trans hw253_2)⟩ (fun hHeld => ?_); clear hK K; refine norm_ (a' := ?_) ?_ ?_; rotate_left
                · show Act.put _ (some 28) _ = _; simp only [Act.put, List.setIfInBounds_toArray, List.set_cons_zero, List.set_cons_succ, i64_w, i32_w]; rfl
                refine qp 7 29 ?_; refine done_ (done_of HT_.out (by kernel_rfl)) ?_; have p255 : 0 ≤ (x5_1 : Int) := of_decide_eq_true qa; have q255 : x5_1 < (l0.length : Int) := of_decide_eq_true qa; obtain ⟨ad255, e255, hx255_0, hx255_1, hx255_2⟩ := at_T61 HR0.out x5_1 p255 q255; obtain rfl : ad251 = ad255 := (by injection e255); replace hx255_0 := (HB.out.cell (World.block_lt_of_cell? w _ hx255_0)).trans hx255_0; replace hx255_1 := (HB.out.cell (World.block_lt_of_cell? w _ hx255_1)).trans hx255_1; replace hx255_2 := (HB.out.cell (World.block_lt_of_cell? w _ hx255_2)).trans hx255_2; replace p255 := eq_true p255; replace q255 := eq_true q255; (try go_wp2); go_roundg k1
                case measure => have := HK1.out; omega
                case rel => exact ⟨(wrap64 ((wrap64 ((wrap64 (x1_1 + 1)) + 1)) + 1)), (wrap64 (x5_1 + 1)), qS, qS, H', ⟨by have := HK1.out; omega⟩, ⟨qB⟩⟩
              · rw [if_neg c9] at H; have c9b0 : (((rd_T61 l0 x5_1).f2) == (wrap64 ((wrap64 (x1_1 + 1)) + 1))) = false := beq_eq_false_iff_ne.mpr c9; have c9b1 : (((rd_T61 l0 x5_1).f2) != (wrap64 ((wrap64 (x1_1 + 1)) + 1))) = true := bne_iff_ne.mpr c9; obtain rfl := Option.some.inj H; (try go_wp2); replace HB := qK (bd1 HB.out); have p251 : 0 ≤ (x5_1 : Int) := of_decide_eq_true qa; have q251 : x5_1 < (l0.length : Int) := of_decide_eq_true qa; obtain ⟨ad251, e251, hx251_0, hx251_1, hx251_2⟩ := at_T61 HR0.out x5_1 p251 q251; have hw251_2 := hx251_2; have hw251_1 := hx251_1; have hw251_0 := hx251_0; cases e251; replace hx251_0 := (HB.out.cell (World.block_lt_of_cell? w _ hx251_0)).trans hx251_0; replace hx251_1 := (HB.out.cell (World.block_lt_of_cell? w _ hx251_1)).trans hx251_1; replace hx251_2 := (HB.out.cell (World.block_lt_of_cell? w _ hx251_2)).trans hx251_2; replace p251 := eq_true p251; replace q251 := eq_true q251; refine qs 8 (fun w' => w'.cell? (ad251.add ((x5_1).toNat * 3)) = some (.string ((rd_T61 l0 x5_1).f0)) ∧ w'.cell? ⟨(ad251.add ((x5_1).toNat * 3)).block, (ad251.add ((x5_1).toNat * 3)).off + 1, none⟩ = some (.string ((rd_T61 l0 x5_1).f1)) ∧ w'.cell? ⟨(ad251.add ((x5_1).toNat * 3)).block, (ad251.add ((x5_1).toNat * 3)).off + 2, none⟩ = some (.int .i64 ((rd_T61 l0 x5_1).f2))) (ds := []) ⟨((HB.out.cell (World.block_lt_of_cell? w _ hw251_0)).trans hw251_0), ((HB.out.cell (World.block_lt_of_cell? w _ hw251_1)).trans hw251_1), ((HB.out.cell (World.block_lt_of_cell? w _ hw251_2)).trans hw251_2)⟩ (fun hHeld => ?_); refine with_tabW laws_heldFileS.tab4 laws_heldFileS.bits4 (fun HT_ HW_ => ?_); generalize wr.drew = w14 at HB hx251_0 hx251_1 hx251_2 hHeld ⊢; refine qp 0 12 ?_; refine qp 1 13 ?_; refine qp 2 14 ?_; refine qp 3 15 ?_; refine qp 5 17 ?_; refine qt 4 16 ?_; refine qo 6 18 (fun K hK => ?_); refine goes_ Tryz.func45 (by kernel_rfl) rfl #[.int .i64 x1_1] (by rfl) rfl rfl qA ?_; (with_reducible refine (laws_markText.calls k1 x1_1 t252 _ A5.out).mono ?_); rintro e w15 ⟨rfl, hb⟩; refine ⟨_, rfl, ?_⟩; replace HB := qHB HB hb; (try clear hb); (try clear hb2); (try clear hk); (try clear hi); refine hK.out _ _ ⟨((HB.out.cell (World.block_lt_of_cell? w _ hw251_0)).trans hw251_0), ((HB.out.cell (World.block_lt_of_cell? w _ hw251_1)).trans hw251_1), ((HB.out.cell (World.block_lt_of_cell? w _ hw251_2)).trans hw251_2)⟩ (fun hHeld => ?_); clear hK K; refine norm_ (a' := ?_) ?_ ?_; rotate_left
                · show Act.put _ (some 18) _ = _; simp only [Act.put, List.setIfInBounds_toArray, List.set_cons_zero, List.set_cons_succ, i64_w, i32_w]; rfl
                refine qp 7 19 ?_; refine done_ (done_of HT_.out (by kernel_rfl)) ?_; (try go_wp2); replace HB := qK (bd1 HB.out); have p253 : 0 ≤ (x5_1 : Int) := of_decide_eq_true qa; have q253 : x5_1 < (l0.length : Int) := of_decide_eq_true qa; obtain ⟨ad253, e253, hx253_0, hx253_1, hx253_2⟩ := at_T61 HR0.out x5_1 p253 q253; have hw253_2 := hx253_2; have hw253_1 := hx253_1; have hw253_0 := hx253_0; obtain rfl : ad251 = ad253 := (by injection e253); replace hx253_0 := (HB.out.cell (World.block_lt_of_cell? w _ hx253_0)).trans hx253_0; replace hx253_1 := (HB.out.cell (World.block_lt_of_cell? w _ hx253_1)).trans hx253_1; replace hx253_2 := (HB.out.cell (World.block_lt_of_cell? w _ hx253_2)).trans hx253_2; replace p253 := eq_true p253; replace q253 := eq_true q253; refine qs 8 (fun w' => w'.cell? (ad251.add ((x5_1).toNat * 3)) = some (.string ((rd_T61 l0 x5_1).f0)) ∧ w'.cell? ⟨(ad251.add ((x5_1).toNat * 3)).block, (ad251.add ((x5_1).toNat * 3)).off + 1, none⟩ = some (.string ((rd_T61 l0 x5_1).f1)) ∧ w'.cell? ⟨(ad251.add ((x5_1).toNat * 3)).block, (ad251.add ((x5_1).toNat * 3)).off + 2, none⟩ = some (.int .i64 ((rd_T61 l0 x5_1).f2))) (ds := []) ⟨((HB.out.cell (World.block_lt_of_cell? w _ hw253_0)).trans hw253_0), ((HB.out.cell (World.block_lt_of_cell? w _ hw253_1)).trans hw253_1), ((HB.out.cell (World.block_lt_of_cell? w _ hw253_2)).trans hw253_2)⟩ (fun hHeld => ?_); refine with_tabW laws_heldFileS.tab7 laws_heldFileS.bits7 (fun HT_ HW_ => ?_); generalize w15.drew = w16 at HB hx253_0 hx253_1 hx253_2 hHeld ⊢; refine qp 0 22 ?_; refine qp 1 23 ?_; refine qp 2 24 ?_; refine qp 3 25 ?_; refine qp 5 27 ?_; refine qt 4 26 ?_; refine qo 6 28 (fun K hK => ?_); refine goes_ Tryz.func45 (by kernel_rfl) rfl #[.int .i64 (wrap64 (x1_1 + 1))] (by rfl) rfl rfl qA ?_; (with_reducible refine (laws_markText.calls k1 (wrap64 (x1_1 + 1)) t254 _ A7.out).mono ?_); rintro e w17 ⟨rfl, hb⟩; refine ⟨_, rfl, ?_⟩; replace HB := qHB HB hb; (try clear hb); (try clear hb2); (try clear hk); (try clear hi); refine hK.out _ _ ⟨((HB.out.cell (World.block_lt_of_cell? w _ hw253_0)).trans hw253_0), ((HB.out.cell (World.block_lt_of_cell? w _ hw253_1)).trans hw253_1), ((HB.out.cell (World.block_lt_of_cell? w _ hw253_2)).trans hw253_2)⟩ (fun hHeld => ?_); clear hK K; refine norm_ (a' := ?_) ?_ ?_; rotate_left
                · show Act.put _ (some 28) _ = _; simp only [Act.put, List.setIfInBounds_toArray, List.set_cons_zero, List.set_cons_succ, i64_w, i32_w]; rfl
                refine qp 7 29 ?_; refine done_ (done_of HT_.out (by kernel_rfl)) ?_; have p255 : 0 ≤ (x5_1 : Int) := of_decide_eq_true qa; have q255 : x5_1 < (l0.length : Int) := of_decide_eq_true qa; obtain ⟨ad255, e255, hx255_0, hx255_1, hx255_2⟩ := at_T61 HR0.out x5_1 p255 q255; obtain rfl : ad251 = ad255 := (by injection e255); replace hx255_0 := (HB.out.cell (World.block_lt_of_cell? w _ hx255_0)).trans hx255_0; replace hx255_1 := (HB.out.cell (World.block_lt_of_cell? w _ hx255_1)).trans hx255_1; replace hx255_2 := (HB.out.cell (World.block_lt_of_cell? w _ hx255_2)).trans hx255_2; replace p255 := eq_true p255; replace q255 := eq_true q255; (try go_wp2); go_ret; exact ⟨qR, qB⟩
            · rw [if_neg c8] at H; have c8b0 : (((rd_T61 l0 x5_1).f1).toList == t254.toList) = false := beq_eq_false_iff_ne.mpr c8; have c8b1 : (((rd_T61 l0 x5_1).f1).toList != t254.toList) = true := bne_iff_ne.mpr c8; obtain rfl := Option.some.inj H; (try go_wp2); replace HB := qK (bd1 HB.out); have p251 : 0 ≤ (x5_1 : Int) := of_decide_eq_true qa; have q251 : x5_1 < (l0.length : Int) := of_decide_eq_true qa; obtain ⟨ad251, e251, hx251_0, hx251_1, hx251_2⟩ := at_T61 HR0.out x5_1 p251 q251; have hw251_2 := hx251_2; have hw251_1 := hx251_1; have hw251_0 := hx251_0; cases e251; replace hx251_0 := (HB.out.cell (World.block_lt_of_cell? w _ hx251_0)).trans hx251_0; replace hx251_1 := (HB.out.cell (World.block_lt_of_cell? w _ hx251_1)).trans hx251_1; replace hx251_2 := (HB.out.cell (World.block_lt_of_cell? w _ hx251_2)).trans hx251_2; replace p251 := eq_true p251; replace q251 := eq_true q251; refine qs 8 (fun w' => w'.cell? (ad251.add ((x5_1).toNat * 3)) = some (.string ((rd_T61 l0 x5_1).f0)) ∧ w'.cell? ⟨(ad251.add ((x5_1).toNat * 3)).block, (ad251.add ((x5_1).toNat * 3)).off + 1, none⟩ = some (.string ((rd_T61 l0 x5_1).f1)) ∧ w'.cell? ⟨(ad251.add ((x5_1).toNat * 3)).block, (ad251.add ((x5_1).toNat * 3)).off + 2, none⟩ = some (.int .i64 ((rd_T61 l0 x5_1).f2))) (ds := []) ⟨((HB.out.cell (World.block_lt_of_cell? w _ hw251_0)).trans hw251_0), ((HB.out.cell (World.block_lt_of_cell? w _ hw251_1)).trans hw251_1), ((HB.out.cell (World.block_lt_of_cell? w _ hw251_2)).trans hw251_2)⟩ (fun hHeld => ?_); refine with_tabW laws_heldFileS.tab4 laws_heldFileS.bits4 (fun HT_ HW_ => ?_); generalize wr.drew = w18 at HB hx251_0 hx251_1 hx251_2 hHeld ⊢; refine qp 0 12 ?_; refine qp 1 13 ?_; refine qp 2 14 ?_; refine qp 3 15 ?_; refine qp 5 17 ?_; refine qt 4 16 ?_; refine qo 6 18 (fun K hK => ?_); refine goes_ Tryz.func45 (by kernel_rfl) rfl #[.int .i64 x1_1] (by rfl) rfl rfl qA ?_; (with_reducible refine (laws_markText.calls k1 x1_1 t252 _ A5.out).mono ?_); rintro e w19 ⟨rfl, hb⟩; refine ⟨_, rfl, ?_⟩; replace HB := qHB HB hb; (try clear hb); (try clear hb2); (try clear hk); (try clear hi); refine hK.out _ _ ⟨((HB.out.cell (World.block_lt_of_cell? w _ hw251_0)).trans hw251_0), ((HB.out.cell (World.block_lt_of_cell? w _ hw251_1)).trans hw251_1), ((HB.out.cell (World.block_lt_of_cell? w _ hw251_2)).trans hw251_2)⟩ (fun hHeld => ?_); clear hK K; refine norm_ (a' := ?_) ?_ ?_; rotate_left
              · show Act.put _ (some 18) _ = _; simp only [Act.put, List.setIfInBounds_toArray, List.set_cons_zero, List.set_cons_succ, i64_w, i32_w]; rfl
              refine qp 7 19 ?_; refine done_ (done_of HT_.out (by kernel_rfl)) ?_; (try go_wp2); replace HB := qK (bd1 HB.out); have p253 : 0 ≤ (x5_1 : Int) := of_decide_eq_true qa; have q253 : x5_1 < (l0.length : Int) := of_decide_eq_true qa; obtain ⟨ad253, e253, hx253_0, hx253_1, hx253_2⟩ := at_T61 HR0.out x5_1 p253 q253; have hw253_2 := hx253_2; have hw253_1 := hx253_1; have hw253_0 := hx253_0; obtain rfl : ad251 = ad253 := (by injection e253); replace hx253_0 := (HB.out.cell (World.block_lt_of_cell? w _ hx253_0)).trans hx253_0; replace hx253_1 := (HB.out.cell (World.block_lt_of_cell? w _ hx253_1)).trans hx253_1; replace hx253_2 := (HB.out.cell (World.block_lt_of_cell? w _ hx253_2)).trans hx253_2; replace p253 := eq_true p253; replace q253 := eq_true q253; refine qs 8 (fun w' => w'.cell? (ad251.add ((x5_1).toNat * 3)) = some (.string ((rd_T61 l0 x5_1).f0)) ∧ w'.cell? ⟨(ad251.add ((x5_1).toNat * 3)).block, (ad251.add ((x5_1).toNat * 3)).off + 1, none⟩ = some (.string ((rd_T61 l0 x5_1).f1)) ∧ w'.cell? ⟨(ad251.add ((x5_1).toNat * 3)).block, (ad251.add ((x5_1).toNat * 3)).off + 2, none⟩ = some (.int .i64 ((rd_T61 l0 x5_1).f2))) (ds := []) ⟨((HB.out.cell (World.block_lt_of_cell? w _ hw253_0)).trans hw253_0), ((HB.out.cell (World.block_lt_of_cell? w _ hw253_1)).trans hw253_1), ((HB.out.cell (World.block_lt_of_cell? w _ hw253_2)).trans hw253_2)⟩ (fun hHeld => ?_); refine with_tabW laws_heldFileS.tab7 laws_heldFileS.bits7 (fun HT_ HW_ => ?_); generalize w19.drew = w20 at HB hx253_0 hx253_1 hx253_2 hHeld ⊢; refine qp 0 22 ?_; refine qp 1 23 ?_; refine qp 2 24 ?_; refine qp 3 25 ?_; refine qp 5 27 ?_; refine qt 4 26 ?_; refine qo 6 28 (fun K hK => ?_); refine goes_ Tryz.func45 (by kernel_rfl) rfl #[.int .i64 (wrap64 (x1_1 + 1))] (by rfl) rfl rfl qA ?_; (with_reducible refine (laws_markText.calls k1 (wrap64 (x1_1 + 1)) t254 _ A7.out).mono ?_); rintro e w21 ⟨rfl, hb⟩; refine ⟨_, rfl, ?_⟩; replace HB := qHB HB hb; (try clear hb); (try clear hb2); (try clear hk); (try clear hi); refine hK.out _ _ ⟨((HB.out.cell (World.block_lt_of_cell? w _ hw253_0)).trans hw253_0), ((HB.out.cell (World.block_lt_of_cell? w _ hw253_1)).trans hw253_1), ((HB.out.cell (World.block_lt_of_cell? w _ hw253_2)).trans hw253_2)⟩ (fun hHeld => ?_); clear hK K; refine norm_ (a' := ?_) ?_ ?_; rotate_left
              · show Act.put _ (some 28) _ = _; simp only [Act.put, List.setIfInBounds_toArray, List.set_cons_zero, List.set_cons_succ, i64_w, i32_w]; rfl
              refine qp 7 29 ?_; refine done_ (done_of HT_.out (by kernel_rfl)) ?_; (try go_wp2); go_ret; exact ⟨qR, qB⟩
          · rw [if_neg c6] at H; have c6b0 : (((rd_T61 l0 x5_1).f0).toList == t252.toList) = false := beq_eq_false_iff_ne.mpr c6; have c6b1 : (((rd_T61 l0 x5_1).f0).toList != t252.toList) = true := bne_iff_ne.mpr c6; obtain rfl := Option.some.inj H; (try go_wp2); replace HB := qK (bd1 HB.out); have p251 : 0 ≤ (x5_1 : Int) := of_decide_eq_true qa; have q251 : x5_1 < (l0.length : Int) := of_decide_eq_true qa; obtain ⟨ad251, e251, hx251_0, hx251_1, hx251_2⟩ := at_T61 HR0.out x5_1 p251 q251; have hw251_2 := hx251_2; have hw251_1 := hx251_1; have hw251_0 := hx251_0; cases e251; replace hx251_0 := (HB.out.cell (World.block_lt_of_cell? w _ hx251_0)).trans hx251_0; replace hx251_1 := (HB.out.cell (World.block_lt_of_cell? w _ hx251_1)).trans hx251_1; replace hx251_2 := (HB.out.cell (World.block_lt_of_cell? w _ hx251_2)).trans hx251_2; replace p251 := eq_true p251; replace q251 := eq_true q251; refine qs 8 (fun w' => w'.cell? (ad251.add ((x5_1).toNat * 3)) = some (.string ((rd_T61 l0 x5_1).f0)) ∧ w'.cell? ⟨(ad251.add ((x5_1).toNat * 3)).block, (ad251.add ((x5_1).toNat * 3)).off + 1, none⟩ = some (.string ((rd_T61 l0 x5_1).f1)) ∧ w'.cell? ⟨(ad251.add ((x5_1).toNat * 3)).block, (ad251.add ((x5_1).toNat * 3)).off + 2, none⟩ = some (.int .i64 ((rd_T61 l0 x5_1).f2))) (ds := []) ⟨((HB.out.cell (World.block_lt_of_cell? w _ hw251_0)).trans hw251_0), ((HB.out.cell (World.block_lt_of_cell? w _ hw251_1)).trans hw251_1), ((HB.out.cell (World.block_lt_of_cell? w _ hw251_2)).trans hw251_2)⟩ (fun hHeld => ?_); refine with_tabW laws_heldFileS.tab4 laws_heldFileS.bits4 (fun HT_ HW_ => ?_); generalize wr.drew = w22 at HB hx251_0 hx251_1 hx251_2 hHeld ⊢; refine qp 0 12 ?_; refine qp 1 13 ?_; refine qp 2 14 ?_; refine qp 3 15 ?_; refine qp 5 17 ?_; refine qt 4 16 ?_; refine qo 6 18 (fun K hK => ?_); refine goes_ Tryz.func45 (by kernel_rfl) rfl #[.int .i64 x1_1] (by rfl) rfl rfl qA ?_; (with_reducible refine (laws_markText.calls k1 x1_1 t252 _ A5.out).mono ?_); rintro e w23 ⟨rfl, hb⟩; refine ⟨_, rfl, ?_⟩; replace HB := qHB HB hb; (try clear hb); (try clear hb2); (try clear hk); (try clear hi); refine hK.out _ _ ⟨((HB.out.cell (World.block_lt_of_cell? w _ hw251_0)).trans hw251_0), ((HB.out.cell (World.block_lt_of_cell? w _ hw251_1)).trans hw251_1), ((HB.out.cell (World.block_lt_of_cell? w _ hw251_2)).trans hw251_2)⟩ (fun hHeld => ?_); clear hK K; refine norm_ (a' := ?_) ?_ ?_; rotate_left
            · show Act.put _ (some 18) _ = _; simp only [Act.put, List.setIfInBounds_toArray, List.set_cons_zero, List.set_cons_succ, i64_w, i32_w]; rfl
            refine qp 7 19 ?_; refine done_ (done_of HT_.out (by kernel_rfl)) ?_; (try go_wp2); go_ret; exact ⟨qR, qB⟩
        · rw [if_neg c4] at H; exact absurd H (by simp)
      · rw [if_neg c3] at H; have c3b0 : decide (x5_1 < (l0.length : Int)) = false := decide_eq_false c3; clear c3; obtain rfl := Option.some.inj H; go_wp2; go_ret; exact ⟨qR, qB⟩
def laws_heldFs.f (k : Nat) (l0_0 : List (S61)) (a0_1 : Int) (a0_2 : Int) (a0_3 : Int) (a0_4 : Int) (a0_5 : Bool) (a1 : Int) : Option (Int) := (laws_heldFileS.f k l0_0 a1).bind fun t257 => (if t257 < 0 then (some (-1)) else (some t257))
theorem laws_heldFs.mono : ∀ a0 a1 a2 a3 a4 a5 a6 k, LeO (laws_heldFs.f k a0 a1 a2 a3 a4 a5 a6) (laws_heldFs.f (k + 1) a0 a1 a2 a3 a4 a5 a6) := by
  intro a0 a1 a2 a3 a4 a5 a6 k
  unfold laws_heldFs.f
  repeat' first
      | (with_reducible exact laws_heldFileS.mono _ _ _)
      | (with_reducible exact LeO.refl _)
      | (with_reducible exact LeO.none _)
      | (with_reducible refine LeO.ite ?_ ?_)
      | (with_reducible refine LeO.bind ?_ (fun _ => ?_))
      | exact laws_heldFileS.mono _ _ _
      | exact LeO.none _
      | refine LeO.ite ?_ ?_
      | refine LeO.bind ?_ (fun _ => ?_)
set_option maxHeartbeats 8000000 in
set_option maxRecDepth 100000 in
theorem laws_heldFs.calls (k : Nat) (A0_0 : Option Addr) (c0_0 : Nat) (l0_0 : List (S61)) (a0_1 : Int) (a0_2 : Int) (a0_3 : Int) (a0_4 : Int) (a0_5 : Bool) (a1 : Int) (r : Int) (w : World) (hr0_0 : Kd.C k61 w A0_0 l0_0.length l0_0) (hc0_0 : l0_0.length ≤ c0_0) (h : laws_heldFs.f k l0_0 a0_1 a0_2 a0_3 a0_4 a0_5 a1 = some r) :
    Calls Tryz.prog 12 #[.agg #[.slice A0_0 l0_0.length c0_0, .int .i64 a0_1, .int .i64 a0_2, .int .i64 a0_3, .int .i64 a0_4, .bool a0_5], .int .i64 a1] w fun e w' => e = .returned (.int .i64 r) ∧ Below w.heap.size w w' := by
  have hu30 := Tryz.underlying30; have HR0_0 := qK hr0_0; have HC0_0 := qK hc0_0; clear hr0_0 hc0_0; have HB := qK (Below.refl w.heap.size w); have H : ((laws_heldFileS.f k l0_0 a1).bind fun t257 => (if t257 < 0 then (some (-1)) else (some t257))) = some r := h; clear h; replace H := Option.bind_eq_some_iff.mp H; obtain ⟨t257, A30, H⟩ := H; have A3 := qK A30; clear A30; by_cases c4 : t257 < 0
  · rw [if_pos c4] at H; have c4b0 : decide (t257 < 0) = true := decide_eq_true c4; clear c4; obtain rfl := Option.some.inj H; go_enter Tryz.func12, Tryz.ntmps12; go_wp2_with (first | ((with_reducible refine gds (N := 2) rfl ?_); refine qbx 2 #[.slice A0_0 l0_0.length c0_0, .int .i64 a0_1, .int .i64 a0_2, .int .i64 a0_3, .int .i64 a0_4, .bool a0_5] 30 ?_; intro gb256 hg w5 hbox hb; have BK256 := qK (hbox); have GW256 := qK ((qW : w.heap.size ≤ gb256)); have GE256 := GW256; replace HB := qHB HB hb; clear hb hbox hg; have hz6 := qz6 BK256.out) | ((with_reducible refine gcl (f := 27) rfl ?_); refine goesL_ (some 8) rfl rfl Tryz.func27 (by kernel_rfl) rfl #[.slice A0_0 l0_0.length c0_0, .int .i64 a1] rfl qA ?_; (with_reducible refine (laws_heldFileS.calls k _ _ l0_0 a1 t257 _ ?side1 ?side2 A3.out).mono ?_); (case side1 => exact qC HR0_0); (case side2 => exact HC0_0.out); rintro e w7 ⟨rfl, hb⟩; refine ⟨_, rfl, ?_⟩; replace BK256 := qbb BK256 hb; replace HB := qHB HB hb; (try clear hb); (try clear hb2); (try clear hk); (try clear hi))); go_ret; exact ⟨qR, qB⟩
  · rw [if_neg c4] at H; have c4b0 : decide (t257 < 0) = false := decide_eq_false c4; clear c4; obtain rfl := Option.some.inj H; go_enter Tryz.func12, Tryz.ntmps12; go_wp2_with (first | ((with_reducible refine gds (N := 2) rfl ?_); refine qbx 2 #[.slice A0_0 l0_0.length c0_0, .int .i64 a0_1, .int .i64 a0_2, .int .i64 a0_3, .int .i64 a0_4, .bool a0_5] 30 ?_; intro gb256 hg w8 hbox hb; have BK256 := qK (hbox); have GW256 := qK ((qW : w.heap.size ≤ gb256)); have GE256 := GW256; replace HB := qHB HB hb; clear hb hbox hg; have hz9 := qz6 BK256.out) | ((with_reducible refine gcl (f := 27) rfl ?_); refine goesL_ (some 8) rfl rfl Tryz.func27 (by kernel_rfl) rfl #[.slice A0_0 l0_0.length c0_0, .int .i64 a1] rfl qA ?_; (with_reducible refine (laws_heldFileS.calls k _ _ l0_0 a1 t257 _ ?side1 ?side2 A3.out).mono ?_); (case side1 => exact qC HR0_0); (case side2 => exact HC0_0.out); rintro e w10 ⟨rfl, hb⟩; refine ⟨_, rfl, ?_⟩; replace BK256 := qbb BK256 hb; replace HB := qHB HB hb; (try clear hb); (try clear hb2); (try clear hk); (try clear hi))); go_ret; exact ⟨qR, qB⟩
end Go.Proofs.YtfknmohedlfmfaaGreatDoor.L
end
section
set_option linter.unusedVariables false
set_option linter.unusedSimpArgs false
namespace Go.Proofs.YtfknmohedlfmfaaGreatDoor.L
open Go Go.RowKit Go.Proofs Go.Proofs.YtfknmohedlfmfaaGreatDoor Go.Proofs.YtfknmohedlfmfaaGreatDoorW.PrintWords Go.Proofs.YtfknmohedlfmfaaGreatDoorW.PrintLast Go.Proofs.YtfknmohedlfmfaaGreatDoorW.PrintMore
abbrev LFileT := S55
abbrev LFileK := k55
theorem infoLFs : (Tryz.prog.info? 24).map (·.size) = some 6 := by kernel_rfl
theorem infoLLog : (Tryz.prog.info? 26).map (·.size) = some 2 := by kernel_rfl
section
variable {P : Program} {md : Region.Mode} {ops : Array Oper} {Q : Exit → Act → World → Prop} {S : World → Prop} {ds : List Nat}
theorem slot_ {oi : Oper} {a : Act} {w : World} {K : Act → World → Prop} (N : Tmp) (h : if Region.wanted oi (yielded ops a.tmps) = true then Oper.wp P oi a w K Q else K (a.put (some N) undef) w) : if Region.wanted oi (yielded ops a.tmps) = true then Oper.wp P oi a w K Q else K (a.put (some N) undef) w := h
theorem qo' {oi : Oper} {fuel : Nat} {l : Array Bool} {a : Act} {w : World} (i : Nat)
    (h : ∀ K : Act → World → Prop, Shut (∀ a' w', S w' → (S w' → wpAnyLast P md ops Q S ds fuel (l.setIfInBounds i true) a' w') → K a' w') → if Region.wanted oi (yielded ops a.tmps) = true then Oper.wp P oi a w K Q else K (a.put none undef) w)
    (hi : ops[i]? = some oi := by rfl) (hN : oi.dst = none := by rfl) (hc : readyB md ops l (l.setIfInBounds i true) i = true := by kernel_rfl) (hd : i ∉ ds := by decide) :
    wpAnyLast P md ops Q S ds (fuel + 1) l a w := one_ _ hi hN hc hd h
theorem q2 {oi oj : Oper} {fuel : Nat} {l : Array Bool} {a : Act} {w : World} (i j : Nat) (ni nj : Tmp)
    (h1 : ∀ K : Act → World → Prop, Shut (∀ a' w', S w' → (S w' → wpAnyLast P md ops Q S ds fuel (l.setIfInBounds i true) a' w') → K a' w') → if Region.wanted oi (yielded ops a.tmps) = true then Oper.wp P oi a w K Q else K (a.put (some ni) undef) w)
    (h2 : ∀ K : Act → World → Prop, Shut (∀ a' w', S w' → (S w' → wpAnyLast P md ops Q S ds fuel (l.setIfInBounds j true) a' w') → K a' w') → if Region.wanted oj (yielded ops a.tmps) = true then Oper.wp P oj a w K Q else K (a.put (some nj) undef) w)
    (hc : (Region.ready md ops l == [i, j]) = true := by kernel_rfl) (hi : ops[i]? = some oi := by rfl) (hj : ops[j]? = some oj := by rfl) (hNi : oi.dst = some ni := by rfl) (hNj : oj.dst = some nj := by rfl) (hdi : i ∉ ds := by decide) (hdj : j ∉ ds := by decide) :
    wpAnyLast P md ops Q S ds (fuel + 1) l a w := two_ _ _ hi hj hNi hNj (by rw [hc]; simp) hdi hdj h1 h2
theorem q3 {oi oj ok : Oper} {fuel : Nat} {l : Array Bool} {a : Act} {w : World} (i j k : Nat) (ni nj nk : Tmp)
    (h1 : ∀ K : Act → World → Prop, Shut (∀ a' w', S w' → (S w' → wpAnyLast P md ops Q S ds fuel (l.setIfInBounds i true) a' w') → K a' w') → if Region.wanted oi (yielded ops a.tmps) = true then Oper.wp P oi a w K Q else K (a.put (some ni) undef) w)
    (h2 : ∀ K : Act → World → Prop, Shut (∀ a' w', S w' → (S w' → wpAnyLast P md ops Q S ds fuel (l.setIfInBounds j true) a' w') → K a' w') → if Region.wanted oj (yielded ops a.tmps) = true then Oper.wp P oj a w K Q else K (a.put (some nj) undef) w)
    (h3 : ∀ K : Act → World → Prop, Shut (∀ a' w', S w' → (S w' → wpAnyLast P md ops Q S ds fuel (l.setIfInBounds k true) a' w') → K a' w') → if Region.wanted ok (yielded ops a.tmps) = true then Oper.wp P ok a w K Q else K (a.put (some nk) undef) w)
    (hc : (Region.ready md ops l == [i, j, k]) = true := by kernel_rfl) (hi : ops[i]? = some oi := by rfl) (hj : ops[j]? = some oj := by rfl) (hk : ops[k]? = some ok := by rfl) (hNi : oi.dst = some ni := by rfl) (hNj : oj.dst = some nj := by rfl) (hNk : ok.dst = some nk := by rfl) (hdi : i ∉ ds := by decide) (hdj : j ∉ ds := by decide) (hdk : k ∉ ds := by decide) :
    wpAnyLast P md ops Q S ds (fuel + 1) l a w := three_ _ _ _ hi hj hk hNi hNj hNk (by rw [hc]; simp) hdi hdj hdk h1 h2 h3
end
theorem ne_type {W : World} {g g' : Nat} {c1 c2 : Array Value} {t1 t2 : TypeId} {f1 f2 : Nat × Nat} (h1 : W.heap[g]? = some (.cells c1 t1 f1)) (h2 : W.heap[g']? = some (.cells c2 t2 f2)) (ht : t1 ≠ t2) : g ≠ g' := fun e => by
  subst e
  rw [h1] at h2
  injection h2 with h2
  injection h2 with _ h3
  exact ht h3
theorem Kd.R_set {w : World} {B g : Nat} {ok : Nat → Prop} {v : Value} {l : List FileT} {cs : Array Value} {t : TypeId} (h : Kd.R FileK 61 w B ok v l) (hX : w.heap[g]? = some (.cells cs t (0, 0))) (ht : ∀ q, q ∈ 61 :: FileK.E → q ≠ t) (row : Array Value) :
    Kd.R FileK 61 (w.setRow g row) B ok v l :=
  Kd.Rmo (Kd.R_step (Kd.Rty h hX ht) (fun k hk _ => by simp only [World.setRow, Array.getElem?_modify]; rw [if_neg (fun e => hk.2 e.symm)])) (fun _ hk => hk.1)
theorem R_range {w : World} {B s : Nat} {ok : Nat → Prop} {v : Value} {l : List FileT} (h : Kd.R FileK 61 w B ok v l) (hs : s ≤ B) : Kd.R FileK 61 w B (fun k => s ≤ k ∧ k < w.heap.size) v l :=
  Kd.Rmo (Kd.R_bound h) (fun k hk => ⟨Nat.le_trans hs hk.2.1, hk.2.2.1⟩)
set_option maxHeartbeats 16000000 in
set_option maxRecDepth 100000 in
theorem lawAp_true (A : Option Addr) (c : Nat) (l : List LFileT) (cap cnt cr fa : Int) (dn : Bool) (last size : Int) (entry : ByteArray) (most : Int) (w : World) (hG : GOK w) (hr : Kd.C LFileK w A l.length l) (hc : l.length ≤ c)
    (k1 k2 k4 k5 k6 k7 k9 k10 k11 : Nat) (left : Int) (L : List FileT) (b1 b2 b3 b4 : Int) (b5 : Bool) (p q : Int) (Z : List FileT) (z1 z2 z3 z4 : Int) (z5 : Bool) (y1 y2 y3 m1 m2 : Int) (L2 Z2 : List FileT) (hes : ¬ 1048576 < entry.size)
    (h1 : laws_szFs.f k1 l cap cnt cr fa dn 1048576 = some left) (hl : ¬ left < 0)
    (h2 : laws_toFs.f k2 l cap cnt cr fa dn = some (L, b1, b2, b3, b4, b5)) (h3 : laws_toLog.f last size = some (p, q))
    (h4 : spec_AppendEntry.f k4 L b1 b2 b3 b4 b5 p q entry most = some (Z, z1, z2, z3, z4, z5, y1, y2, y3)) (h5 : impl_AppendEntry.f k5 L b1 b2 b3 b4 b5 p q entry most = some (Z, z1, z2, z3, z4, z5, y1, y2, y3))
    (h6 : laws_eqFs.f k6 Z z1 z2 z3 z4 z5 Z z1 z2 z3 z4 z5 = some true) (h7 : laws_eqFs.f k7 L b1 b2 b3 b4 b5 L b1 b2 b3 b4 b5 = some true) (h8 : laws_eqLog.f y1 y2 y1 y2 = some true)
    (h9 : laws_markFs.f k9 L b1 b2 b3 b4 b5 1 = some (m1, L2)) (hm1 : ¬ m1 < 0) (h10 : laws_markFs.f k10 Z z1 z2 z3 z4 z5 1 = some (m2, Z2)) (hm2 : ¬ m2 < 0) (h11 : laws_heldFs.f k11 Z2 z1 z2 z3 z4 z5 1 = some m2) :
    Calls Tryz.prog 3 #[.agg #[.slice A l.length c, .int .i64 cap, .int .i64 cnt, .int .i64 cr, .int .i64 fa, .bool dn], .agg #[.int .i64 last, .int .i64 size], .string entry, .int .i64 most] w fun e w' => e = .returned (.bool true) ∧ Below w.heap.size w w' := by
  have HR := Aside0.mk hr
  have HC := Aside0.mk hc
  have HGK := Aside0.mk hG
  have H1 := Aside0.mk h1
  have H2 := Aside0.mk h2
  have H3 := Aside0.mk h3
  have H4 := Aside0.mk h4
  have H5 := Aside0.mk h5
  have H6 := Aside0.mk h6
  have H7 := Aside0.mk h7
  have H8 := Aside0.mk h8
  have H9 := Aside0.mk h9
  have H10h := Aside0.mk h10
  have H11h := Aside0.mk h11
  have k0 : decide (1048576 < (entry.size : Int)) = false := decide_eq_false (by omega)
  have k1_ : decide (left < 0) = false := decide_eq_false hl
  have km1 : decide (m1 < 0) = false := decide_eq_false hm1
  have km2 : decide (m2 < 0) = false := decide_eq_false hm2
  have ky : (y3 != y3) = false := by simp
  have kmm : (m2 != m2) = false := by simp
  clear hG hr hc h1 h2 h3 h4 h5 h6 h7 h8 h9 h10 h11 hes hl hm1 hm2
  go_enter Tryz.func3, Tryz.ntmps3
  go_upto_region 7 with (first | ((with_reducible refine gds (N := 4) rfl ?_); refine qbx 4 #[.slice A l.length c, .int .i64 cap, .int .i64 cnt, .int .i64 cr, .int .i64 fa, .bool dn] 24 ?_; intro ga hg w' hbox hb; have HB := Aside0.mk hb; have HA := Aside0.mk hbox; clear hb hbox hg) | ((with_reducible refine gds (N := 5) rfl ?_); refine qbx 5 #[.int .i64 last, .int .i64 size] 26 ?_; intro gl hg w' hbox hb; have HG := Aside0.mk hbox; replace HA := Aside0.mk (bbe HA.out hb); replace HB := Aside0.mk (bst HB.out hb); clear hb hbox hg) | ((with_reducible refine gds (N := 26) rfl ?_); refine wpList_load_row rfl 24 (.tmp 4) rfl ga ?hp 24 #[.slice A l.length c, .int .i64 cap, .int .i64 cnt, .int .i64 cr, .int .i64 fa, .bool dn] (0, 0) _ ?hg Tryz.underlying24 ?ha ?hi ?_; (case hp => rfl); (case hg => exact HA.out); (case ha => rfl); (case hi => exact infoLFs)) | (go_at_call 4; (with_reducible refine (laws_szFs.calls k1 A c l cap cnt cr fa dn 1048576 left _ (Kd.Cbe HR.out HB.out) HC.out H1.out).mono ?_); rintro e w' ⟨rfl, hb⟩; replace HA := Aside0.mk (bbe HA.out hb); replace HG := Aside0.mk (bbe HG.out hb); replace HB := Aside0.mk (bst HB.out hb); clear hb))
  clear k0 k1_
  go_cut [10, 11, 12] from 23 (fun s10 s11 s12 W => ∃ (g10 g11 : Nat) (A10 : Option Addr) (c10 : Nat), s10 = .pointer (some ⟨g10, 0, none⟩) ∧ s11 = .pointer (some ⟨g11, 0, none⟩) ∧ s12 = .int .i64 y3 ∧ Below w.heap.size w W ∧ W.heap[ga]? = some (.cells #[.slice A l.length c, .int .i64 cap, .int .i64 cnt, .int .i64 cr, .int .i64 fa, .bool dn] 24 (0, 0)) ∧ W.heap[gl]? = some (.cells #[.int .i64 last, .int .i64 size] 26 (0, 0)) ∧ W.heap[g10]? = some (.cells #[.slice A10 Z.length c10, .int .i64 z1, .int .i64 z2, .int .i64 z3, .int .i64 z4, .bool z5] 30 (0, 0)) ∧ W.heap[g11]? = some (.cells #[.int .i64 y1, .int .i64 y2] 31 (0, 0)) ∧ Kd.R FileK 61 W w.heap.size (fun _ => True) (.slice A10 Z.length c10) Z)
  case first => as_aux_lemma =>
    refine qs 16 (fun w' => w'.heap[ga]? = some (.cells #[.slice A l.length c, .int .i64 cap, .int .i64 cnt, .int .i64 cr, .int .i64 fa, .bool dn] 24 (0, 0)) ∧ w'.heap[gl]? = some (.cells #[.int .i64 last, .int .i64 size] 26 (0, 0))) (ds := []) ⟨HA.out, HG.out⟩ (fun hHeld => ?_)
    replace HA := Aside0.mk (bbe HA.out (bd1 (Below.refl _ _)))
    replace HG := Aside0.mk (bbe HG.out (bd1 (Below.refl _ _)))
    replace HB := Aside0.mk (bst HB.out (bd1 (Below.refl _ _)))
    refine qt 0 32 ?_ (hy := Or.inl ⟨by rfl, fun w' hS => exec_load_row 24 (.tmp 4) rfl ga rfl 24 #[.slice A l.length c, .int .i64 cap, .int .i64 cnt, .int .i64 cr, .int .i64 fa, .bool dn] hS.1 Tryz.underlying24 rfl infoLFs⟩)
    refine qt 2 34 ?_ (hy := Or.inl ⟨by rfl, fun w' hS => exec_load_row 26 (.tmp 5) rfl gl rfl 26 #[.int .i64 last, .int .i64 size] hS.2 Tryz.underlying26 rfl infoLLog⟩)
    refine qp 4 36 ?_
    refine qp 5 37 ?_
    refine q3 1 11 12 33 10 11 (fun K hK => ?_) (fun K hK => ?_) (fun K hK => ?_); rotate_left 3
    all_goals first
      | (refine slot_ 33 ?_; refine goes_ (N := some 33) Tryz.func6 (by kernel_rfl) rfl #[.agg #[.slice A l.length c, .int .i64 cap, .int .i64 cnt, .int .i64 cr, .int .i64 fa, .bool dn]] (by rfl) rfl rfl qA ?_; refine (laws_toFs.calls k2 A c l cap cnt cr fa dn _ _ _ _ _ _ _ (Kd.Cbe HR.out HB.out) HC.out H2.out).mono ?_; rintro e w' ⟨v, rfl, hv, hb⟩; obtain ⟨AL, cL, rfl⟩ := Kd.R_slice hv; have hlo := HB.out.size; (try replace HA := Aside0.mk (bbe HA.out hb)); (try replace HG := Aside0.mk (bbe HG.out hb)); (try replace H10 := Aside0.mk (bbe H10.out hb)); (try replace H11 := Aside0.mk (bbe H11.out hb)); (try replace VL := Aside0.mk (Kd.Rbe VL.out hb)); (try replace V10 := Aside0.mk (Kd.Rbe V10.out hb)); replace HB := Aside0.mk (bst HB.out hb); have VL := Aside0.mk (Kd.Rlo hv hlo); clear hv hlo; clear hb; refine ⟨_, rfl, ?_⟩; refine hK.out _ _ ⟨HA.out, HG.out⟩ (fun hHeld => ?_); clear hK K; refine norm_ (a' := ?_) ?_ ?_; rotate_left; (show Act.put _ (some 33) _ = _; simp only [Act.put, List.setIfInBounds_toArray, List.set_cons_zero, List.set_cons_succ, i64_w, i32_w]; rfl))
      | (refine slot_ 10 ?_; refine bxs ?hg (N := 10) ?hd (cs := #[.slice none 0 0, .int .i64 0, .int .i64 0, .int .i64 0, .int .i64 0, .bool false]) (t := 30) ?hr ?_; (case hd => rfl); (case hg => rfl); (case hr => first | (go_simp; done) | (go_simp; rfl)); intro g10 hg w' hbox hb; have G10 := Aside0.mk (Nat.le_trans HB.out.size (Nat.le_of_eq hg.symm)); (try replace HA := Aside0.mk (bbe HA.out hb)); (try replace HG := Aside0.mk (bbe HG.out hb)); (try replace H10 := Aside0.mk (bbe H10.out hb)); (try replace H11 := Aside0.mk (bbe H11.out hb)); (try replace VL := Aside0.mk (Kd.Rbe VL.out hb)); (try replace V10 := Aside0.mk (Kd.Rbe V10.out hb)); replace HB := Aside0.mk (bst HB.out hb); have H10 := Aside0.mk hbox; clear hb hbox hg; refine hK.out _ _ ⟨HA.out, HG.out⟩ (fun hHeld => ?_); clear hK K; refine norm_ (a' := ?_) ?_ ?_; rotate_left; (show Act.put _ (some 10) _ = _; simp only [Act.put, List.setIfInBounds_toArray, List.set_cons_zero, List.set_cons_succ, i64_w, i32_w]; rfl))
      | (refine slot_ 11 ?_; refine bxs ?hg (N := 11) ?hd (cs := #[.int .i64 0, .int .i64 0]) (t := 31) ?hr ?_; (case hd => rfl); (case hg => rfl); (case hr => first | (go_simp; done) | (go_simp; rfl)); intro g11 hg w' hbox hb; have G11 := Aside0.mk (Nat.le_trans HB.out.size (Nat.le_of_eq hg.symm)); (try replace HA := Aside0.mk (bbe HA.out hb)); (try replace HG := Aside0.mk (bbe HG.out hb)); (try replace H10 := Aside0.mk (bbe H10.out hb)); (try replace H11 := Aside0.mk (bbe H11.out hb)); (try replace VL := Aside0.mk (Kd.Rbe VL.out hb)); (try replace V10 := Aside0.mk (Kd.Rbe V10.out hb)); replace HB := Aside0.mk (bst HB.out hb); have H11 := Aside0.mk hbox; clear hb hbox hg; refine hK.out _ _ ⟨HA.out, HG.out⟩ (fun hHeld => ?_); clear hK K; refine norm_ (a' := ?_) ?_ ?_; rotate_left; (show Act.put _ (some 11) _ = _; simp only [Act.put, List.setIfInBounds_toArray, List.set_cons_zero, List.set_cons_succ, i64_w, i32_w]; rfl))
    refine q3 3 11 12 35 10 11 (fun K hK => ?_) (fun K hK => ?_) (fun K hK => ?_); rotate_left 3
    refine q2 1 12 33 11 (fun K hK => ?_) (fun K hK => ?_); rotate_left 2
    refine q2 1 11 33 10 (fun K hK => ?_) (fun K hK => ?_); rotate_left 2
    all_goals first
      | (refine slot_ 35 ?_; refine goes_ (N := some 35) Tryz.func7 (by kernel_rfl) rfl #[.agg #[.int .i64 last, .int .i64 size]] (by rfl) rfl rfl qA ?_; refine (laws_toLog.calls last size p q _ H3.out).mono ?_; rintro e w' ⟨rfl, hb⟩; (try replace HA := Aside0.mk (bbe HA.out hb)); (try replace HG := Aside0.mk (bbe HG.out hb)); (try replace H10 := Aside0.mk (bbe H10.out hb)); (try replace H11 := Aside0.mk (bbe H11.out hb)); (try replace VL := Aside0.mk (Kd.Rbe VL.out hb)); (try replace V10 := Aside0.mk (Kd.Rbe V10.out hb)); replace HB := Aside0.mk (bst HB.out hb); clear hb; refine ⟨_, rfl, ?_⟩; refine hK.out _ _ ⟨HA.out, HG.out⟩ (fun hHeld => ?_); clear hK K; refine norm_ (a' := ?_) ?_ ?_; rotate_left; (show Act.put _ (some 35) _ = _; simp only [Act.put, List.setIfInBounds_toArray, List.set_cons_zero, List.set_cons_succ, i64_w, i32_w]; rfl))
      | (refine slot_ 10 ?_; refine bxs ?hg (N := 10) ?hd (cs := #[.slice none 0 0, .int .i64 0, .int .i64 0, .int .i64 0, .int .i64 0, .bool false]) (t := 30) ?hr ?_; (case hd => rfl); (case hg => rfl); (case hr => first | (go_simp; done) | (go_simp; rfl)); intro g10 hg w' hbox hb; have G10 := Aside0.mk (Nat.le_trans HB.out.size (Nat.le_of_eq hg.symm)); (try replace HA := Aside0.mk (bbe HA.out hb)); (try replace HG := Aside0.mk (bbe HG.out hb)); (try replace H10 := Aside0.mk (bbe H10.out hb)); (try replace H11 := Aside0.mk (bbe H11.out hb)); (try replace VL := Aside0.mk (Kd.Rbe VL.out hb)); (try replace V10 := Aside0.mk (Kd.Rbe V10.out hb)); replace HB := Aside0.mk (bst HB.out hb); have H10 := Aside0.mk hbox; clear hb hbox hg; refine hK.out _ _ ⟨HA.out, HG.out⟩ (fun hHeld => ?_); clear hK K; refine norm_ (a' := ?_) ?_ ?_; rotate_left; (show Act.put _ (some 10) _ = _; simp only [Act.put, List.setIfInBounds_toArray, List.set_cons_zero, List.set_cons_succ, i64_w, i32_w]; rfl))
      | (refine slot_ 11 ?_; refine bxs ?hg (N := 11) ?hd (cs := #[.int .i64 0, .int .i64 0]) (t := 31) ?hr ?_; (case hd => rfl); (case hg => rfl); (case hr => first | (go_simp; done) | (go_simp; rfl)); intro g11 hg w' hbox hb; have G11 := Aside0.mk (Nat.le_trans HB.out.size (Nat.le_of_eq hg.symm)); (try replace HA := Aside0.mk (bbe HA.out hb)); (try replace HG := Aside0.mk (bbe HG.out hb)); (try replace H10 := Aside0.mk (bbe H10.out hb)); (try replace H11 := Aside0.mk (bbe H11.out hb)); (try replace VL := Aside0.mk (Kd.Rbe VL.out hb)); (try replace V10 := Aside0.mk (Kd.Rbe V10.out hb)); replace HB := Aside0.mk (bst HB.out hb); have H11 := Aside0.mk hbox; clear hb hbox hg; refine hK.out _ _ ⟨HA.out, HG.out⟩ (fun hHeld => ?_); clear hK K; refine norm_ (a' := ?_) ?_ ?_; rotate_left; (show Act.put _ (some 11) _ = _; simp only [Act.put, List.setIfInBounds_toArray, List.set_cons_zero, List.set_cons_succ, i64_w, i32_w]; rfl))
      | (refine slot_ 33 ?_; refine goes_ (N := some 33) Tryz.func6 (by kernel_rfl) rfl #[.agg #[.slice A l.length c, .int .i64 cap, .int .i64 cnt, .int .i64 cr, .int .i64 fa, .bool dn]] (by rfl) rfl rfl qA ?_; refine (laws_toFs.calls k2 A c l cap cnt cr fa dn _ _ _ _ _ _ _ (Kd.Cbe HR.out HB.out) HC.out H2.out).mono ?_; rintro e w' ⟨v, rfl, hv, hb⟩; obtain ⟨AL, cL, rfl⟩ := Kd.R_slice hv; have hlo := HB.out.size; (try replace HA := Aside0.mk (bbe HA.out hb)); (try replace HG := Aside0.mk (bbe HG.out hb)); (try replace H10 := Aside0.mk (bbe H10.out hb)); (try replace H11 := Aside0.mk (bbe H11.out hb)); (try replace VL := Aside0.mk (Kd.Rbe VL.out hb)); (try replace V10 := Aside0.mk (Kd.Rbe V10.out hb)); replace HB := Aside0.mk (bst HB.out hb); have VL := Aside0.mk (Kd.Rlo hv hlo); clear hv hlo; clear hb; refine ⟨_, rfl, ?_⟩; refine hK.out _ _ ⟨HA.out, HG.out⟩ (fun hHeld => ?_); clear hK K; refine norm_ (a' := ?_) ?_ ?_; rotate_left; (show Act.put _ (some 33) _ = _; simp only [Act.put, List.setIfInBounds_toArray, List.set_cons_zero, List.set_cons_succ, i64_w, i32_w]; rfl))
    refine q3 6 11 12 38 10 11 (fun K hK => ?_) (fun K hK => ?_) (fun K hK => ?_); rotate_left 3
    refine q2 3 12 35 11 (fun K hK => ?_) (fun K hK => ?_); rotate_left 2
    refine q2 3 11 35 10 (fun K hK => ?_) (fun K hK => ?_); rotate_left 2
    refine q2 3 12 35 11 (fun K hK => ?_) (fun K hK => ?_); rotate_left 2
    refine qo 1 33 (fun K hK => ?_); rotate_left 1
    refine q2 3 11 35 10 (fun K hK => ?_) (fun K hK => ?_); rotate_left 2
    refine qo 1 33 (fun K hK => ?_); rotate_left 1
    all_goals first
      | (refine slot_ 38 ?_; refine goes_ (N := some 38) Tryz.func5 (by kernel_rfl) rfl #[.agg #[.slice AL L.length cL, .int .i64 b1, .int .i64 b2, .int .i64 b3, .int .i64 b4, .bool b5], .agg #[.int .i64 p, .int .i64 q], .string entry, .int .i64 most] (by rfl) rfl rfl qA ?_; refine (spec_AppendEntry.calls k4 AL cL L b1 b2 b3 b4 b5 p q entry most _ _ _ _ _ _ _ _ _ _ (Kd.R_reads' VL.out).2.2 (Kd.R_reads' VL.out).2.1 H4.out).mono ?_; rintro e w' ⟨v, rfl, hv, hb⟩; obtain ⟨A10, c10, rfl⟩ := Kd.R_slice hv; have hlo := HB.out.size; (try replace HA := Aside0.mk (bbe HA.out hb)); (try replace HG := Aside0.mk (bbe HG.out hb)); (try replace H10 := Aside0.mk (bbe H10.out hb)); (try replace H11 := Aside0.mk (bbe H11.out hb)); (try replace VL := Aside0.mk (Kd.Rbe VL.out hb)); (try replace V10 := Aside0.mk (Kd.Rbe V10.out hb)); replace HB := Aside0.mk (bst HB.out hb); have V10 := Aside0.mk (Kd.Rlo hv hlo); clear hv hlo; clear hb; refine ⟨_, rfl, ?_⟩; refine hK.out _ _ ⟨HA.out, HG.out⟩ (fun hHeld => ?_); clear hK K; refine norm_ (a' := ?_) ?_ ?_; rotate_left; (show Act.put _ (some 38) _ = _; simp only [Act.put, List.setIfInBounds_toArray, List.set_cons_zero, List.set_cons_succ, i64_w, i32_w]; rfl))
      | (refine slot_ 10 ?_; refine bxs ?hg (N := 10) ?hd (cs := #[.slice none 0 0, .int .i64 0, .int .i64 0, .int .i64 0, .int .i64 0, .bool false]) (t := 30) ?hr ?_; (case hd => rfl); (case hg => rfl); (case hr => first | (go_simp; done) | (go_simp; rfl)); intro g10 hg w' hbox hb; have G10 := Aside0.mk (Nat.le_trans HB.out.size (Nat.le_of_eq hg.symm)); (try replace HA := Aside0.mk (bbe HA.out hb)); (try replace HG := Aside0.mk (bbe HG.out hb)); (try replace H10 := Aside0.mk (bbe H10.out hb)); (try replace H11 := Aside0.mk (bbe H11.out hb)); (try replace VL := Aside0.mk (Kd.Rbe VL.out hb)); (try replace V10 := Aside0.mk (Kd.Rbe V10.out hb)); replace HB := Aside0.mk (bst HB.out hb); have H10 := Aside0.mk hbox; clear hb hbox hg; refine hK.out _ _ ⟨HA.out, HG.out⟩ (fun hHeld => ?_); clear hK K; refine norm_ (a' := ?_) ?_ ?_; rotate_left; (show Act.put _ (some 10) _ = _; simp only [Act.put, List.setIfInBounds_toArray, List.set_cons_zero, List.set_cons_succ, i64_w, i32_w]; rfl))
      | (refine slot_ 11 ?_; refine bxs ?hg (N := 11) ?hd (cs := #[.int .i64 0, .int .i64 0]) (t := 31) ?hr ?_; (case hd => rfl); (case hg => rfl); (case hr => first | (go_simp; done) | (go_simp; rfl)); intro g11 hg w' hbox hb; have G11 := Aside0.mk (Nat.le_trans HB.out.size (Nat.le_of_eq hg.symm)); (try replace HA := Aside0.mk (bbe HA.out hb)); (try replace HG := Aside0.mk (bbe HG.out hb)); (try replace H10 := Aside0.mk (bbe H10.out hb)); (try replace H11 := Aside0.mk (bbe H11.out hb)); (try replace VL := Aside0.mk (Kd.Rbe VL.out hb)); (try replace V10 := Aside0.mk (Kd.Rbe V10.out hb)); replace HB := Aside0.mk (bst HB.out hb); have H11 := Aside0.mk hbox; clear hb hbox hg; refine hK.out _ _ ⟨HA.out, HG.out⟩ (fun hHeld => ?_); clear hK K; refine norm_ (a' := ?_) ?_ ?_; rotate_left; (show Act.put _ (some 11) _ = _; simp only [Act.put, List.setIfInBounds_toArray, List.set_cons_zero, List.set_cons_succ, i64_w, i32_w]; rfl))
      | (refine slot_ 35 ?_; refine goes_ (N := some 35) Tryz.func7 (by kernel_rfl) rfl #[.agg #[.int .i64 last, .int .i64 size]] (by rfl) rfl rfl qA ?_; refine (laws_toLog.calls last size p q _ H3.out).mono ?_; rintro e w' ⟨rfl, hb⟩; (try replace HA := Aside0.mk (bbe HA.out hb)); (try replace HG := Aside0.mk (bbe HG.out hb)); (try replace H10 := Aside0.mk (bbe H10.out hb)); (try replace H11 := Aside0.mk (bbe H11.out hb)); (try replace VL := Aside0.mk (Kd.Rbe VL.out hb)); (try replace V10 := Aside0.mk (Kd.Rbe V10.out hb)); replace HB := Aside0.mk (bst HB.out hb); clear hb; refine ⟨_, rfl, ?_⟩; refine hK.out _ _ ⟨HA.out, HG.out⟩ (fun hHeld => ?_); clear hK K; refine norm_ (a' := ?_) ?_ ?_; rotate_left; (show Act.put _ (some 35) _ = _; simp only [Act.put, List.setIfInBounds_toArray, List.set_cons_zero, List.set_cons_succ, i64_w, i32_w]; rfl))
      | (refine slot_ 33 ?_; refine goes_ (N := some 33) Tryz.func6 (by kernel_rfl) rfl #[.agg #[.slice A l.length c, .int .i64 cap, .int .i64 cnt, .int .i64 cr, .int .i64 fa, .bool dn]] (by rfl) rfl rfl qA ?_; refine (laws_toFs.calls k2 A c l cap cnt cr fa dn _ _ _ _ _ _ _ (Kd.Cbe HR.out HB.out) HC.out H2.out).mono ?_; rintro e w' ⟨v, rfl, hv, hb⟩; obtain ⟨AL, cL, rfl⟩ := Kd.R_slice hv; have hlo := HB.out.size; (try replace HA := Aside0.mk (bbe HA.out hb)); (try replace HG := Aside0.mk (bbe HG.out hb)); (try replace H10 := Aside0.mk (bbe H10.out hb)); (try replace H11 := Aside0.mk (bbe H11.out hb)); (try replace VL := Aside0.mk (Kd.Rbe VL.out hb)); (try replace V10 := Aside0.mk (Kd.Rbe V10.out hb)); replace HB := Aside0.mk (bst HB.out hb); have VL := Aside0.mk (Kd.Rlo hv hlo); clear hv hlo; clear hb; refine ⟨_, rfl, ?_⟩; refine hK.out _ _ ⟨HA.out, HG.out⟩ (fun hHeld => ?_); clear hK K; refine norm_ (a' := ?_) ?_ ?_; rotate_left; (show Act.put _ (some 33) _ = _; simp only [Act.put, List.setIfInBounds_toArray, List.set_cons_zero, List.set_cons_succ, i64_w, i32_w]; rfl))
    refine qp 7 31 ?_; refine qp 8 39 ?_; refine qp 9 40 ?_; refine qp 10 41 ?_; refine q2 11 12 10 11 (fun K hK => ?_) (fun K hK => ?_); rotate_left 2
    refine q2 6 12 38 11 (fun K hK => ?_) (fun K hK => ?_); rotate_left 2
    refine q2 6 11 38 10 (fun K hK => ?_) (fun K hK => ?_); rotate_left 2
    refine q2 6 12 38 11 (fun K hK => ?_) (fun K hK => ?_); rotate_left 2
    refine qo 3 35 (fun K hK => ?_); rotate_left 1
    refine q2 6 11 38 10 (fun K hK => ?_) (fun K hK => ?_); rotate_left 2
    refine qo 3 35 (fun K hK => ?_); rotate_left 1
    refine q2 6 12 38 11 (fun K hK => ?_) (fun K hK => ?_); rotate_left 2
    refine qo 3 35 (fun K hK => ?_); rotate_left 1
    refine qo 3 35 (fun K hK => ?_); rotate_left 1
    refine q2 6 11 38 10 (fun K hK => ?_) (fun K hK => ?_); rotate_left 2
    refine qo 3 35 (fun K hK => ?_); rotate_left 1
    refine qo 3 35 (fun K hK => ?_); rotate_left 1
    all_goals first
      | (refine slot_ 10 ?_; refine bxs ?hg (N := 10) ?hd (cs := #[.slice none 0 0, .int .i64 0, .int .i64 0, .int .i64 0, .int .i64 0, .bool false]) (t := 30) ?hr ?_; (case hd => rfl); (case hg => rfl); (case hr => first | (go_simp; done) | (go_simp; rfl)); intro g10 hg w' hbox hb; have G10 := Aside0.mk (Nat.le_trans HB.out.size (Nat.le_of_eq hg.symm)); (try replace HA := Aside0.mk (bbe HA.out hb)); (try replace HG := Aside0.mk (bbe HG.out hb)); (try replace H10 := Aside0.mk (bbe H10.out hb)); (try replace H11 := Aside0.mk (bbe H11.out hb)); (try replace VL := Aside0.mk (Kd.Rbe VL.out hb)); (try replace V10 := Aside0.mk (Kd.Rbe V10.out hb)); replace HB := Aside0.mk (bst HB.out hb); have H10 := Aside0.mk hbox; clear hb hbox hg; refine hK.out _ _ ⟨HA.out, HG.out⟩ (fun hHeld => ?_); clear hK K; refine norm_ (a' := ?_) ?_ ?_; rotate_left; (show Act.put _ (some 10) _ = _; simp only [Act.put, List.setIfInBounds_toArray, List.set_cons_zero, List.set_cons_succ, i64_w, i32_w]; rfl))
      | (refine slot_ 11 ?_; refine bxs ?hg (N := 11) ?hd (cs := #[.int .i64 0, .int .i64 0]) (t := 31) ?hr ?_; (case hd => rfl); (case hg => rfl); (case hr => first | (go_simp; done) | (go_simp; rfl)); intro g11 hg w' hbox hb; have G11 := Aside0.mk (Nat.le_trans HB.out.size (Nat.le_of_eq hg.symm)); (try replace HA := Aside0.mk (bbe HA.out hb)); (try replace HG := Aside0.mk (bbe HG.out hb)); (try replace H10 := Aside0.mk (bbe H10.out hb)); (try replace H11 := Aside0.mk (bbe H11.out hb)); (try replace VL := Aside0.mk (Kd.Rbe VL.out hb)); (try replace V10 := Aside0.mk (Kd.Rbe V10.out hb)); replace HB := Aside0.mk (bst HB.out hb); have H11 := Aside0.mk hbox; clear hb hbox hg; refine hK.out _ _ ⟨HA.out, HG.out⟩ (fun hHeld => ?_); clear hK K; refine norm_ (a' := ?_) ?_ ?_; rotate_left; (show Act.put _ (some 11) _ = _; simp only [Act.put, List.setIfInBounds_toArray, List.set_cons_zero, List.set_cons_succ, i64_w, i32_w]; rfl))
      | (refine slot_ 38 ?_; refine goes_ (N := some 38) Tryz.func5 (by kernel_rfl) rfl #[.agg #[.slice AL L.length cL, .int .i64 b1, .int .i64 b2, .int .i64 b3, .int .i64 b4, .bool b5], .agg #[.int .i64 p, .int .i64 q], .string entry, .int .i64 most] (by rfl) rfl rfl qA ?_; refine (spec_AppendEntry.calls k4 AL cL L b1 b2 b3 b4 b5 p q entry most _ _ _ _ _ _ _ _ _ _ (Kd.R_reads' VL.out).2.2 (Kd.R_reads' VL.out).2.1 H4.out).mono ?_; rintro e w' ⟨v, rfl, hv, hb⟩; obtain ⟨A10, c10, rfl⟩ := Kd.R_slice hv; have hlo := HB.out.size; (try replace HA := Aside0.mk (bbe HA.out hb)); (try replace HG := Aside0.mk (bbe HG.out hb)); (try replace H10 := Aside0.mk (bbe H10.out hb)); (try replace H11 := Aside0.mk (bbe H11.out hb)); (try replace VL := Aside0.mk (Kd.Rbe VL.out hb)); (try replace V10 := Aside0.mk (Kd.Rbe V10.out hb)); replace HB := Aside0.mk (bst HB.out hb); have V10 := Aside0.mk (Kd.Rlo hv hlo); clear hv hlo; clear hb; refine ⟨_, rfl, ?_⟩; refine hK.out _ _ ⟨HA.out, HG.out⟩ (fun hHeld => ?_); clear hK K; refine norm_ (a' := ?_) ?_ ?_; rotate_left; (show Act.put _ (some 38) _ = _; simp only [Act.put, List.setIfInBounds_toArray, List.set_cons_zero, List.set_cons_succ, i64_w, i32_w]; rfl))
      | (refine slot_ 35 ?_; refine goes_ (N := some 35) Tryz.func7 (by kernel_rfl) rfl #[.agg #[.int .i64 last, .int .i64 size]] (by rfl) rfl rfl qA ?_; refine (laws_toLog.calls last size p q _ H3.out).mono ?_; rintro e w' ⟨rfl, hb⟩; (try replace HA := Aside0.mk (bbe HA.out hb)); (try replace HG := Aside0.mk (bbe HG.out hb)); (try replace H10 := Aside0.mk (bbe H10.out hb)); (try replace H11 := Aside0.mk (bbe H11.out hb)); (try replace VL := Aside0.mk (Kd.Rbe VL.out hb)); (try replace V10 := Aside0.mk (Kd.Rbe V10.out hb)); replace HB := Aside0.mk (bst HB.out hb); clear hb; refine ⟨_, rfl, ?_⟩; refine hK.out _ _ ⟨HA.out, HG.out⟩ (fun hHeld => ?_); clear hK K; refine norm_ (a' := ?_) ?_ ?_; rotate_left; (show Act.put _ (some 35) _ = _; simp only [Act.put, List.setIfInBounds_toArray, List.set_cons_zero, List.set_cons_succ, i64_w, i32_w]; rfl))
    refine qo 12 11 (fun K hK => ?_); rotate_left 1
    refine qo 11 10 (fun K hK => ?_); rotate_left 1
    refine qp 7 31 ?_; refine qp 8 39 ?_; refine qp 9 40 ?_; refine qp 10 41 ?_; refine qo 12 11 (fun K hK => ?_); rotate_left 1
    refine qo 6 38 (fun K hK => ?_); rotate_left 1
    refine qp 7 31 ?_; refine qp 8 39 ?_; refine qp 9 40 ?_; refine qp 10 41 ?_; refine qo 11 10 (fun K hK => ?_); rotate_left 1
    refine qo 6 38 (fun K hK => ?_); rotate_left 1
    refine qp 7 31 ?_; refine qp 8 39 ?_; refine qp 9 40 ?_; refine qp 10 41 ?_; refine qo 12 11 (fun K hK => ?_); rotate_left 1
    refine qo 6 38 (fun K hK => ?_); rotate_left 1
    refine qo 6 38 (fun K hK => ?_); rotate_left 1
    refine qp 7 31 ?_; refine qp 8 39 ?_; refine qp 9 40 ?_; refine qp 10 41 ?_; refine qo 11 10 (fun K hK => ?_); rotate_left 1
    refine qo 6 38 (fun K hK => ?_); rotate_left 1
    refine qo 6 38 (fun K hK => ?_); rotate_left 1
    refine qp 7 31 ?_; refine qp 8 39 ?_; refine qp 9 40 ?_; refine qp 10 41 ?_; refine qo 12 11 (fun K hK => ?_); rotate_left 1
    refine qo 6 38 (fun K hK => ?_); rotate_left 1
    refine qo 6 38 (fun K hK => ?_); rotate_left 1
    refine qo 6 38 (fun K hK => ?_); rotate_left 1
    refine qp 7 31 ?_; refine qp 8 39 ?_; refine qp 9 40 ?_; refine qp 10 41 ?_; refine qo 11 10 (fun K hK => ?_); rotate_left 1
    refine qo 6 38 (fun K hK => ?_); rotate_left 1
    refine qo 6 38 (fun K hK => ?_); rotate_left 1
    refine qo 6 38 (fun K hK => ?_); rotate_left 1
    all_goals first
      | (refine slot_ 11 ?_; refine bxs ?hg (N := 11) ?hd (cs := #[.int .i64 0, .int .i64 0]) (t := 31) ?hr ?_; (case hd => rfl); (case hg => rfl); (case hr => first | (go_simp; done) | (go_simp; rfl)); intro g11 hg w' hbox hb; have G11 := Aside0.mk (Nat.le_trans HB.out.size (Nat.le_of_eq hg.symm)); (try replace HA := Aside0.mk (bbe HA.out hb)); (try replace HG := Aside0.mk (bbe HG.out hb)); (try replace H10 := Aside0.mk (bbe H10.out hb)); (try replace H11 := Aside0.mk (bbe H11.out hb)); (try replace VL := Aside0.mk (Kd.Rbe VL.out hb)); (try replace V10 := Aside0.mk (Kd.Rbe V10.out hb)); replace HB := Aside0.mk (bst HB.out hb); have H11 := Aside0.mk hbox; clear hb hbox hg; refine hK.out _ _ ⟨HA.out, HG.out⟩ (fun hHeld => ?_); clear hK K; refine norm_ (a' := ?_) ?_ ?_; rotate_left; (show Act.put _ (some 11) _ = _; simp only [Act.put, List.setIfInBounds_toArray, List.set_cons_zero, List.set_cons_succ, i64_w, i32_w]; rfl))
      | (refine slot_ 10 ?_; refine bxs ?hg (N := 10) ?hd (cs := #[.slice none 0 0, .int .i64 0, .int .i64 0, .int .i64 0, .int .i64 0, .bool false]) (t := 30) ?hr ?_; (case hd => rfl); (case hg => rfl); (case hr => first | (go_simp; done) | (go_simp; rfl)); intro g10 hg w' hbox hb; have G10 := Aside0.mk (Nat.le_trans HB.out.size (Nat.le_of_eq hg.symm)); (try replace HA := Aside0.mk (bbe HA.out hb)); (try replace HG := Aside0.mk (bbe HG.out hb)); (try replace H10 := Aside0.mk (bbe H10.out hb)); (try replace H11 := Aside0.mk (bbe H11.out hb)); (try replace VL := Aside0.mk (Kd.Rbe VL.out hb)); (try replace V10 := Aside0.mk (Kd.Rbe V10.out hb)); replace HB := Aside0.mk (bst HB.out hb); have H10 := Aside0.mk hbox; clear hb hbox hg; refine hK.out _ _ ⟨HA.out, HG.out⟩ (fun hHeld => ?_); clear hK K; refine norm_ (a' := ?_) ?_ ?_; rotate_left; (show Act.put _ (some 10) _ = _; simp only [Act.put, List.setIfInBounds_toArray, List.set_cons_zero, List.set_cons_succ, i64_w, i32_w]; rfl))
      | (refine slot_ 38 ?_; refine goes_ (N := some 38) Tryz.func5 (by kernel_rfl) rfl #[.agg #[.slice AL L.length cL, .int .i64 b1, .int .i64 b2, .int .i64 b3, .int .i64 b4, .bool b5], .agg #[.int .i64 p, .int .i64 q], .string entry, .int .i64 most] (by rfl) rfl rfl qA ?_; refine (spec_AppendEntry.calls k4 AL cL L b1 b2 b3 b4 b5 p q entry most _ _ _ _ _ _ _ _ _ _ (Kd.R_reads' VL.out).2.2 (Kd.R_reads' VL.out).2.1 H4.out).mono ?_; rintro e w' ⟨v, rfl, hv, hb⟩; obtain ⟨A10, c10, rfl⟩ := Kd.R_slice hv; have hlo := HB.out.size; (try replace HA := Aside0.mk (bbe HA.out hb)); (try replace HG := Aside0.mk (bbe HG.out hb)); (try replace H10 := Aside0.mk (bbe H10.out hb)); (try replace H11 := Aside0.mk (bbe H11.out hb)); (try replace VL := Aside0.mk (Kd.Rbe VL.out hb)); (try replace V10 := Aside0.mk (Kd.Rbe V10.out hb)); replace HB := Aside0.mk (bst HB.out hb); have V10 := Aside0.mk (Kd.Rlo hv hlo); clear hv hlo; clear hb; refine ⟨_, rfl, ?_⟩; refine hK.out _ _ ⟨HA.out, HG.out⟩ (fun hHeld => ?_); clear hK K; refine norm_ (a' := ?_) ?_ ?_; rotate_left; (show Act.put _ (some 38) _ = _; simp only [Act.put, List.setIfInBounds_toArray, List.set_cons_zero, List.set_cons_succ, i64_w, i32_w]; rfl))
    rotate_left 1
    rotate_left 1
    rotate_left 1
    refine qp 7 31 ?_; refine qp 8 39 ?_; refine qp 9 40 ?_; refine qp 10 41 ?_; rotate_left 1
    rotate_left 1
    refine qp 7 31 ?_; refine qp 8 39 ?_; refine qp 9 40 ?_; refine qp 10 41 ?_; rotate_left 1
    rotate_left 1
    refine qp 7 31 ?_; refine qp 8 39 ?_; refine qp 9 40 ?_; refine qp 10 41 ?_; rotate_left 1
    refine qp 7 31 ?_; refine qp 8 39 ?_; refine qp 9 40 ?_; refine qp 10 41 ?_; rotate_left 1
    rotate_left 1
    refine qp 7 31 ?_; refine qp 8 39 ?_; refine qp 9 40 ?_; refine qp 10 41 ?_; rotate_left 1
    refine qp 7 31 ?_; refine qp 8 39 ?_; refine qp 9 40 ?_; refine qp 10 41 ?_; rotate_left 1
    rotate_left 1
    refine qp 7 31 ?_; refine qp 8 39 ?_; refine qp 9 40 ?_; refine qp 10 41 ?_; rotate_left 1
    refine qp 7 31 ?_; refine qp 8 39 ?_; refine qp 9 40 ?_; refine qp 10 41 ?_; rotate_left 1
    refine qp 7 31 ?_; refine qp 8 39 ?_; refine qp 9 40 ?_; refine qp 10 41 ?_; rotate_left 1
    rotate_left 1
    refine qp 7 31 ?_; refine qp 8 39 ?_; refine qp 9 40 ?_; refine qp 10 41 ?_; rotate_left 1
    refine qp 7 31 ?_; refine qp 8 39 ?_; refine qp 9 40 ?_; refine qp 10 41 ?_; rotate_left 1
    refine qp 7 31 ?_; refine qp 8 39 ?_; refine qp 9 40 ?_; refine qp 10 41 ?_; rotate_left 1
    all_goals (refine qo' 13 (fun K hK => ?_); refine skip_ (by rfl) rfl (exec_store_row 30 (.tmp 10) (.tmp 39) rfl g10 #[.slice A10 Z.length c10, .int .i64 z1, .int .i64 z2, .int .i64 z3, .int .i64 z4, .bool z5] rfl rfl 30 #[.slice none 0 0, .int .i64 0, .int .i64 0, .int .i64 0, .int .i64 0, .bool false] H10.out infoFs rfl (by simp [Value.oneCell'])) ?_; replace HA := Aside0.mk (blk_setRow HA.out (ne_type HA.out H10.out (by decide)) #[.slice A10 Z.length c10, .int .i64 z1, .int .i64 z2, .int .i64 z3, .int .i64 z4, .bool z5]); replace HG := Aside0.mk (blk_setRow HG.out (ne_type HG.out H10.out (by decide)) #[.slice A10 Z.length c10, .int .i64 z1, .int .i64 z2, .int .i64 z3, .int .i64 z4, .bool z5]); replace H11 := Aside0.mk (blk_setRow H11.out (ne_type H11.out H10.out (by decide)) #[.slice A10 Z.length c10, .int .i64 z1, .int .i64 z2, .int .i64 z3, .int .i64 z4, .bool z5]); replace V10 := Aside0.mk (Kd.R_set V10.out H10.out (by decide) #[.slice A10 Z.length c10, .int .i64 z1, .int .i64 z2, .int .i64 z3, .int .i64 z4, .bool z5]); replace HB := Aside0.mk (below_setRowF HB.out G10.out #[.slice A10 Z.length c10, .int .i64 z1, .int .i64 z2, .int .i64 z3, .int .i64 z4, .bool z5]); replace H10 := Aside0.mk (heap_setRow_sameF (cs' := #[.slice A10 Z.length c10, .int .i64 z1, .int .i64 z2, .int .i64 z3, .int .i64 z4, .bool z5]) H10.out); refine hK.out _ _ ⟨HA.out, HG.out⟩ (fun hHeld => ?_); clear hK K)
    all_goals (refine qo' 14 (fun K hK => ?_); refine skip_ (by rfl) rfl (exec_store_row 31 (.tmp 11) (.tmp 40) rfl g11 #[.int .i64 y1, .int .i64 y2] rfl rfl 31 #[.int .i64 0, .int .i64 0] H11.out infoLog rfl (by simp [Value.oneCell'])) ?_; replace HA := Aside0.mk (blk_setRow HA.out (ne_type HA.out H11.out (by decide)) #[.int .i64 y1, .int .i64 y2]); replace HG := Aside0.mk (blk_setRow HG.out (ne_type HG.out H11.out (by decide)) #[.int .i64 y1, .int .i64 y2]); replace H10 := Aside0.mk (blk_setRow H10.out (ne_type H10.out H11.out (by decide)) #[.int .i64 y1, .int .i64 y2]); replace V10 := Aside0.mk (Kd.R_set V10.out H11.out (by decide) #[.int .i64 y1, .int .i64 y2]); replace HB := Aside0.mk (below_setRowF HB.out G11.out #[.int .i64 y1, .int .i64 y2]); replace H11 := Aside0.mk (heap_setRow_sameF (cs' := #[.int .i64 y1, .int .i64 y2]) H11.out); refine hK.out _ _ ⟨HA.out, HG.out⟩ (fun hHeld => ?_); clear hK K)
    all_goals (refine qp 15 12 ?_; refine done_ (by kernel_rfl) ?_; go_wp2_with fail; go_meet; (case rel => exact ⟨g10, g11, A10, c10, rfl, rfl, rfl, HB.out, HA.out, HG.out, H10.out, H11.out, V10.out⟩))
  case rest =>
    obtain ⟨g10, g11, A10, c10, rfl, rfl, rfl, hB, hA, hG, h10, h11, hV⟩ := hcut
    have HB := Aside0.mk hB
    have HA := Aside0.mk hA
    have HG := Aside0.mk hG
    have H10 := Aside0.mk h10
    have H11 := Aside0.mk h11
    obtain ⟨s13, hs13⟩ : ∃ s, wc.heap.size = s := ⟨_, rfl⟩
    have V10 := Aside0.mk (show Kd.R FileK 61 wc w.heap.size (fun k => k < s13) (.slice A10 Z.length c10) Z from Kd.Rmo (Kd.R_bound hV) (fun k hk => by have := hk.2.2.1; omega))
    have N0 := Aside0.mk (show ga < s13 ∧ gl < s13 ∧ g10 < s13 ∧ g11 < s13 from ⟨hs13 ▸ blt hA, hs13 ▸ blt hG, hs13 ▸ blt h10, hs13 ▸ blt h11⟩)
    have HS := Aside0.mk (Nat.le_of_eq hs13.symm)
    clear hB hA hG h10 h11 hV hs13
    go_upto_region 9 with (first | ((with_reducible refine gds (N := 42) rfl ?_); refine wpList_load_row rfl 24 (.tmp 4) rfl ga ?hp 24 #[.slice A l.length c, .int .i64 cap, .int .i64 cnt, .int .i64 cr, .int .i64 fa, .bool dn] (0, 0) _ ?hg Tryz.underlying24 ?ha ?hi ?_; (case hp => rfl); (case hg => exact HA.out); (case ha => rfl); (case hi => exact infoLFs)) | (go_at_call 6; (with_reducible refine (laws_toFs.calls k2 A c l cap cnt cr fa dn _ _ _ _ _ _ _ (Kd.Cbe HR.out HB.out) HC.out H2.out).mono ?_); rintro e w' ⟨v, rfl, hv, hb⟩; obtain ⟨A13, c13, rfl⟩ := Kd.R_slice hv; have hlo := HB.out.size; replace HA := Aside0.mk (bbe HA.out hb); replace HG := Aside0.mk (bbe HG.out hb); replace H10 := Aside0.mk (bbe H10.out hb); replace H11 := Aside0.mk (bbe H11.out hb); replace V10 := Aside0.mk (Kd.Rbe V10.out hb); replace HB := Aside0.mk (bst HB.out hb); obtain ⟨e13, he13⟩ : ∃ s, w'.heap.size = s := ⟨_, rfl⟩; have V13 := Aside0.mk (show Kd.R FileK 61 w' w.heap.size (fun k => s13 ≤ k ∧ k < e13) (.slice A13 L.length c13) L from he13 ▸ Kd.Rlo (R_range hv HS.out) hlo); have HE := Aside0.mk (show s13 ≤ e13 ∧ e13 ≤ w'.heap.size from ⟨Nat.le_trans HS.out (he13 ▸ hb.size), Nat.le_of_eq he13.symm⟩); clear hv hb hlo he13) | ((with_reducible refine gds (N := 13) rfl ?_); refine qbx 13 #[.slice none 0 0, .int .i64 0, .int .i64 0, .int .i64 0, .int .i64 0, .bool false] 30 ?_; intro g13 hg w' hbox hb; have G13 := Aside0.mk (show e13 ≤ g13 ∧ w.heap.size ≤ g13 from ⟨Nat.le_trans HE.out.2 (Nat.le_of_eq hg.symm), Nat.le_trans HB.out.size (Nat.le_of_eq hg.symm)⟩); have N13 := Aside0.mk (hg ▸ blt H10.out : g10 < g13); replace HA := Aside0.mk (bbe HA.out hb); replace HG := Aside0.mk (bbe HG.out hb); replace H10 := Aside0.mk (bbe H10.out hb); replace H11 := Aside0.mk (bbe H11.out hb); replace V10 := Aside0.mk (Kd.Rbe V10.out hb); replace V13 := Aside0.mk (Kd.Rbe V13.out hb); replace HB := Aside0.mk (bst HB.out hb); have H13 := Aside0.mk hbox; clear hb hbox hg) | ((with_reducible refine gst (t := 30) (p := 13) rfl ?_); refine wpList_store_row rfl 30 (.tmp 13) (.tmp 43) rfl g13 #[.slice A13 L.length c13, .int .i64 b1, .int .i64 b2, .int .i64 b3, .int .i64 b4, .bool b5] ?hx ?hy 30 #[.slice none 0 0, .int .i64 0, .int .i64 0, .int .i64 0, .int .i64 0, .bool false] ?hg ?hi ?ho ?h1 ?_; (case hx => rfl); (case hy => rfl); (case hg => exact H13.out); (case hi => exact infoFs); (case ho => rfl); (case h1 => simp [Value.oneCell'])))
    simp only [Act.put, List.setIfInBounds_toArray, List.set_cons_zero, List.set_cons_succ]
    replace HA := Aside0.mk (blk_setRow HA.out (ne_type HA.out H13.out (by decide)) #[.slice A13 L.length c13, .int .i64 b1, .int .i64 b2, .int .i64 b3, .int .i64 b4, .bool b5])
    replace HG := Aside0.mk (blk_setRow HG.out (ne_type HG.out H13.out (by decide)) #[.slice A13 L.length c13, .int .i64 b1, .int .i64 b2, .int .i64 b3, .int .i64 b4, .bool b5])
    replace H10 := Aside0.mk (blk_setRow H10.out (Nat.ne_of_lt N13.out) #[.slice A13 L.length c13, .int .i64 b1, .int .i64 b2, .int .i64 b3, .int .i64 b4, .bool b5])
    replace H11 := Aside0.mk (blk_setRow H11.out (ne_type H11.out H13.out (by decide)) #[.slice A13 L.length c13, .int .i64 b1, .int .i64 b2, .int .i64 b3, .int .i64 b4, .bool b5])
    replace V10 := Aside0.mk (Kd.R_set V10.out H13.out (by decide) #[.slice A13 L.length c13, .int .i64 b1, .int .i64 b2, .int .i64 b3, .int .i64 b4, .bool b5])
    replace V13 := Aside0.mk (Kd.R_set V13.out H13.out (by decide) #[.slice A13 L.length c13, .int .i64 b1, .int .i64 b2, .int .i64 b3, .int .i64 b4, .bool b5])
    replace HB := Aside0.mk (below_setRowF HB.out G13.out.2 #[.slice A13 L.length c13, .int .i64 b1, .int .i64 b2, .int .i64 b3, .int .i64 b4, .bool b5])
    replace H13 := Aside0.mk (heap_setRow_sameF (cs' := #[.slice A13 L.length c13, .int .i64 b1, .int .i64 b2, .int .i64 b3, .int .i64 b4, .bool b5]) H13.out)
    generalize hwq : w'.setRow g13 #[.slice A13 L.length c13, .int .i64 b1, .int .i64 b2, .int .i64 b3, .int .i64 b4, .bool b5] = wq at HA HG H10 H11 V10 V13 HB H13 ⊢
    clear hwq HS
    obtain ⟨s14, hs14⟩ : ∃ s, wq.heap.size = s := ⟨_, rfl⟩
    have N1 := Aside0.mk (show g13 < s14 from hs14 ▸ blt H13.out)
    have HS := Aside0.mk (Nat.le_of_eq hs14.symm)
    clear hs14
    go_cut [14, 15, 16] from 23 (fun s14_ s15 s16 W => ∃ (g14 g15 : Nat) (A14 : Option Addr) (c14 : Nat), s14_ = .pointer (some ⟨g14, 0, none⟩) ∧ s15 = .pointer (some ⟨g15, 0, none⟩) ∧ s16 = .int .i64 y3 ∧ Below w.heap.size w W ∧ W.heap[ga]? = some (.cells #[.slice A l.length c, .int .i64 cap, .int .i64 cnt, .int .i64 cr, .int .i64 fa, .bool dn] 24 (0, 0)) ∧ W.heap[gl]? = some (.cells #[.int .i64 last, .int .i64 size] 26 (0, 0)) ∧ W.heap[g10]? = some (.cells #[.slice A10 Z.length c10, .int .i64 z1, .int .i64 z2, .int .i64 z3, .int .i64 z4, .bool z5] 30 (0, 0)) ∧ W.heap[g11]? = some (.cells #[.int .i64 y1, .int .i64 y2] 31 (0, 0)) ∧ W.heap[g13]? = some (.cells #[.slice A13 L.length c13, .int .i64 b1, .int .i64 b2, .int .i64 b3, .int .i64 b4, .bool b5] 30 (0, 0)) ∧ W.heap[g14]? = some (.cells #[.slice A14 Z.length c14, .int .i64 z1, .int .i64 z2, .int .i64 z3, .int .i64 z4, .bool z5] 30 (0, 0)) ∧ W.heap[g15]? = some (.cells #[.int .i64 y1, .int .i64 y2] 31 (0, 0)) ∧ Kd.R FileK 61 W w.heap.size (fun k => k < s13) (.slice A10 Z.length c10) Z ∧ Kd.R FileK 61 W w.heap.size (fun k => s13 ≤ k ∧ k < e13) (.slice A13 L.length c13) L ∧ Kd.R FileK 61 W w.heap.size (fun k => s14 ≤ k) (.slice A14 Z.length c14) Z ∧ s14 ≤ g14 ∧ s14 ≤ g15)
    case first => as_aux_lemma =>
      have HQ := Aside0.mk (bd1 (Below.refl wq.heap.size wq))
      refine qs 15 (fun w' => w'.heap[g13]? = some (.cells #[.slice A13 L.length c13, .int .i64 b1, .int .i64 b2, .int .i64 b3, .int .i64 b4, .bool b5] 30 (0, 0)) ∧ w'.heap[gl]? = some (.cells #[.int .i64 last, .int .i64 size] 26 (0, 0))) (ds := []) ⟨H13.out, HG.out⟩ (fun hHeld => ?_)
      replace HA := Aside0.mk (bbe HA.out (bd1 (Below.refl _ _)))
      replace HG := Aside0.mk (bbe HG.out (bd1 (Below.refl _ _)))
      replace H10 := Aside0.mk (bbe H10.out (bd1 (Below.refl _ _)))
      replace H11 := Aside0.mk (bbe H11.out (bd1 (Below.refl _ _)))
      replace H13 := Aside0.mk (bbe H13.out (bd1 (Below.refl _ _)))
      replace V10 := Aside0.mk (Kd.Rbe V10.out (bd1 (Below.refl _ _)))
      replace V13 := Aside0.mk (Kd.Rbe V13.out (bd1 (Below.refl _ _)))
      replace HB := Aside0.mk (bst HB.out (bd1 (Below.refl _ _)))
      refine qt 0 45 ?_ (hy := Or.inl ⟨by rfl, fun w' hS => exec_load_row 30 (.tmp 13) rfl g13 rfl 30 #[.slice A13 L.length c13, .int .i64 b1, .int .i64 b2, .int .i64 b3, .int .i64 b4, .bool b5] hS.1 Tryz.underlying30 rfl infoFs⟩)
      refine qt 1 46 ?_ (hy := Or.inl ⟨by rfl, fun w' hS => exec_load_row 26 (.tmp 5) rfl gl rfl 26 #[.int .i64 last, .int .i64 size] hS.2 Tryz.underlying26 rfl infoLLog⟩)
      refine qp 3 48 ?_
      refine qp 4 49 ?_
      refine q3 2 10 11 47 14 15 (fun K hK => ?_) (fun K hK => ?_) (fun K hK => ?_); rotate_left 3
      all_goals first
        | (refine slot_ 47 ?_; refine goes_ (N := some 47) Tryz.func7 (by kernel_rfl) rfl #[.agg #[.int .i64 last, .int .i64 size]] (by rfl) rfl rfl qA ?_; refine (laws_toLog.calls last size p q _ H3.out).mono ?_; rintro e w' ⟨rfl, hb⟩; (try replace HA := Aside0.mk (bbe HA.out hb)); (try replace HG := Aside0.mk (bbe HG.out hb)); (try replace H10 := Aside0.mk (bbe H10.out hb)); (try replace H11 := Aside0.mk (bbe H11.out hb)); (try replace H13 := Aside0.mk (bbe H13.out hb)); (try replace H14 := Aside0.mk (bbe H14.out hb)); (try replace H15 := Aside0.mk (bbe H15.out hb)); (try replace V10 := Aside0.mk (Kd.Rbe V10.out hb)); (try replace V13 := Aside0.mk (Kd.Rbe V13.out hb)); (try replace V14 := Aside0.mk (Kd.Rbe V14.out hb)); replace HB := Aside0.mk (bst HB.out hb); replace HQ := Aside0.mk (bst HQ.out hb); clear hb; refine ⟨_, rfl, ?_⟩; refine hK.out _ _ ⟨H13.out, HG.out⟩ (fun hHeld => ?_); clear hK K; refine norm_ (a' := ?_) ?_ ?_; rotate_left; (show Act.put _ (some 47) _ = _; simp only [Act.put, List.setIfInBounds_toArray, List.set_cons_zero, List.set_cons_succ, i64_w, i32_w]; rfl))
        | (refine slot_ 14 ?_; refine bxs ?hg (N := 14) ?hd (cs := #[.slice none 0 0, .int .i64 0, .int .i64 0, .int .i64 0, .int .i64 0, .bool false]) (t := 30) ?hr ?_; (case hd => rfl); (case hg => rfl); (case hr => first | (go_simp; done) | (go_simp; rfl)); intro g14 hg w' hbox hb; have G14 := Aside0.mk (Nat.le_trans HB.out.size (Nat.le_of_eq hg.symm)); have N14 := Aside0.mk (show s14 ≤ g14 ∧ g10 < g14 ∧ g13 < g14 from ⟨Nat.le_trans (Nat.le_trans HS.out HQ.out.size) (Nat.le_of_eq hg.symm), hg ▸ blt H10.out, hg ▸ blt H13.out⟩); (try replace HA := Aside0.mk (bbe HA.out hb)); (try replace HG := Aside0.mk (bbe HG.out hb)); (try replace H10 := Aside0.mk (bbe H10.out hb)); (try replace H11 := Aside0.mk (bbe H11.out hb)); (try replace H13 := Aside0.mk (bbe H13.out hb)); (try replace H14 := Aside0.mk (bbe H14.out hb)); (try replace H15 := Aside0.mk (bbe H15.out hb)); (try replace V10 := Aside0.mk (Kd.Rbe V10.out hb)); (try replace V13 := Aside0.mk (Kd.Rbe V13.out hb)); (try replace V14 := Aside0.mk (Kd.Rbe V14.out hb)); replace HB := Aside0.mk (bst HB.out hb); replace HQ := Aside0.mk (bst HQ.out hb); have H14 := Aside0.mk hbox; clear hb hbox hg; refine hK.out _ _ ⟨H13.out, HG.out⟩ (fun hHeld => ?_); clear hK K; refine norm_ (a' := ?_) ?_ ?_; rotate_left; (show Act.put _ (some 14) _ = _; simp only [Act.put, List.setIfInBounds_toArray, List.set_cons_zero, List.set_cons_succ, i64_w, i32_w]; rfl))
        | (refine slot_ 15 ?_; refine bxs ?hg (N := 15) ?hd (cs := #[.int .i64 0, .int .i64 0]) (t := 31) ?hr ?_; (case hd => rfl); (case hg => rfl); (case hr => first | (go_simp; done) | (go_simp; rfl)); intro g15 hg w' hbox hb; have G15 := Aside0.mk (Nat.le_trans HB.out.size (Nat.le_of_eq hg.symm)); have N15 := Aside0.mk (show s14 ≤ g15 ∧ g11 < g15 from ⟨Nat.le_trans (Nat.le_trans HS.out HQ.out.size) (Nat.le_of_eq hg.symm), hg ▸ blt H11.out⟩); (try replace HA := Aside0.mk (bbe HA.out hb)); (try replace HG := Aside0.mk (bbe HG.out hb)); (try replace H10 := Aside0.mk (bbe H10.out hb)); (try replace H11 := Aside0.mk (bbe H11.out hb)); (try replace H13 := Aside0.mk (bbe H13.out hb)); (try replace H14 := Aside0.mk (bbe H14.out hb)); (try replace H15 := Aside0.mk (bbe H15.out hb)); (try replace V10 := Aside0.mk (Kd.Rbe V10.out hb)); (try replace V13 := Aside0.mk (Kd.Rbe V13.out hb)); (try replace V14 := Aside0.mk (Kd.Rbe V14.out hb)); replace HB := Aside0.mk (bst HB.out hb); replace HQ := Aside0.mk (bst HQ.out hb); have H15 := Aside0.mk hbox; clear hb hbox hg; refine hK.out _ _ ⟨H13.out, HG.out⟩ (fun hHeld => ?_); clear hK K; refine norm_ (a' := ?_) ?_ ?_; rotate_left; (show Act.put _ (some 15) _ = _; simp only [Act.put, List.setIfInBounds_toArray, List.set_cons_zero, List.set_cons_succ, i64_w, i32_w]; rfl))
      refine q3 5 10 11 50 14 15 (fun K hK => ?_) (fun K hK => ?_) (fun K hK => ?_); rotate_left 3
      refine q2 2 11 47 15 (fun K hK => ?_) (fun K hK => ?_); rotate_left 2
      refine q2 2 10 47 14 (fun K hK => ?_) (fun K hK => ?_); rotate_left 2
      all_goals first
        | (refine slot_ 50 ?_; refine goes_ (N := some 50) Tryz.func8 (by kernel_rfl) rfl #[.agg #[.slice A13 L.length c13, .int .i64 b1, .int .i64 b2, .int .i64 b3, .int .i64 b4, .bool b5], .agg #[.int .i64 p, .int .i64 q], .string entry, .int .i64 most] (by rfl) rfl rfl qA ?_; refine (impl_AppendEntry.calls k5 A13 c13 L b1 b2 b3 b4 b5 p q entry most _ _ _ _ _ _ _ _ _ _ (HGK.out.below HB.out) (Kd.R_reads' V13.out).2.2 (Kd.R_reads' V13.out).2.1 H5.out).mono ?_; rintro e w' ⟨v, rfl, hv, hb⟩; obtain ⟨A14, c14, rfl⟩ := Kd.R_slice hv; have hlo := HB.out.size; have hs9 := Nat.le_trans HS.out HQ.out.size; (try replace HA := Aside0.mk (bbe HA.out hb)); (try replace HG := Aside0.mk (bbe HG.out hb)); (try replace H10 := Aside0.mk (bbe H10.out hb)); (try replace H11 := Aside0.mk (bbe H11.out hb)); (try replace H13 := Aside0.mk (bbe H13.out hb)); (try replace H14 := Aside0.mk (bbe H14.out hb)); (try replace H15 := Aside0.mk (bbe H15.out hb)); (try replace V10 := Aside0.mk (Kd.Rbe V10.out hb)); (try replace V13 := Aside0.mk (Kd.Rbe V13.out hb)); (try replace V14 := Aside0.mk (Kd.Rbe V14.out hb)); replace HB := Aside0.mk (bst HB.out hb); have V14 := Aside0.mk (Kd.Rmo (Kd.Rlo (R_range hv hs9) hlo) (fun k hk => hk.1)); clear hv hlo hs9; replace HQ := Aside0.mk (bst HQ.out hb); clear hb; refine ⟨_, rfl, ?_⟩; refine hK.out _ _ ⟨H13.out, HG.out⟩ (fun hHeld => ?_); clear hK K; refine norm_ (a' := ?_) ?_ ?_; rotate_left; (show Act.put _ (some 50) _ = _; simp only [Act.put, List.setIfInBounds_toArray, List.set_cons_zero, List.set_cons_succ, i64_w, i32_w]; rfl))
        | (refine slot_ 14 ?_; refine bxs ?hg (N := 14) ?hd (cs := #[.slice none 0 0, .int .i64 0, .int .i64 0, .int .i64 0, .int .i64 0, .bool false]) (t := 30) ?hr ?_; (case hd => rfl); (case hg => rfl); (case hr => first | (go_simp; done) | (go_simp; rfl)); intro g14 hg w' hbox hb; have G14 := Aside0.mk (Nat.le_trans HB.out.size (Nat.le_of_eq hg.symm)); have N14 := Aside0.mk (show s14 ≤ g14 ∧ g10 < g14 ∧ g13 < g14 from ⟨Nat.le_trans (Nat.le_trans HS.out HQ.out.size) (Nat.le_of_eq hg.symm), hg ▸ blt H10.out, hg ▸ blt H13.out⟩); (try replace HA := Aside0.mk (bbe HA.out hb)); (try replace HG := Aside0.mk (bbe HG.out hb)); (try replace H10 := Aside0.mk (bbe H10.out hb)); (try replace H11 := Aside0.mk (bbe H11.out hb)); (try replace H13 := Aside0.mk (bbe H13.out hb)); (try replace H14 := Aside0.mk (bbe H14.out hb)); (try replace H15 := Aside0.mk (bbe H15.out hb)); (try replace V10 := Aside0.mk (Kd.Rbe V10.out hb)); (try replace V13 := Aside0.mk (Kd.Rbe V13.out hb)); (try replace V14 := Aside0.mk (Kd.Rbe V14.out hb)); replace HB := Aside0.mk (bst HB.out hb); replace HQ := Aside0.mk (bst HQ.out hb); have H14 := Aside0.mk hbox; clear hb hbox hg; refine hK.out _ _ ⟨H13.out, HG.out⟩ (fun hHeld => ?_); clear hK K; refine norm_ (a' := ?_) ?_ ?_; rotate_left; (show Act.put _ (some 14) _ = _; simp only [Act.put, List.setIfInBounds_toArray, List.set_cons_zero, List.set_cons_succ, i64_w, i32_w]; rfl))
        | (refine slot_ 15 ?_; refine bxs ?hg (N := 15) ?hd (cs := #[.int .i64 0, .int .i64 0]) (t := 31) ?hr ?_; (case hd => rfl); (case hg => rfl); (case hr => first | (go_simp; done) | (go_simp; rfl)); intro g15 hg w' hbox hb; have G15 := Aside0.mk (Nat.le_trans HB.out.size (Nat.le_of_eq hg.symm)); have N15 := Aside0.mk (show s14 ≤ g15 ∧ g11 < g15 from ⟨Nat.le_trans (Nat.le_trans HS.out HQ.out.size) (Nat.le_of_eq hg.symm), hg ▸ blt H11.out⟩); (try replace HA := Aside0.mk (bbe HA.out hb)); (try replace HG := Aside0.mk (bbe HG.out hb)); (try replace H10 := Aside0.mk (bbe H10.out hb)); (try replace H11 := Aside0.mk (bbe H11.out hb)); (try replace H13 := Aside0.mk (bbe H13.out hb)); (try replace H14 := Aside0.mk (bbe H14.out hb)); (try replace H15 := Aside0.mk (bbe H15.out hb)); (try replace V10 := Aside0.mk (Kd.Rbe V10.out hb)); (try replace V13 := Aside0.mk (Kd.Rbe V13.out hb)); (try replace V14 := Aside0.mk (Kd.Rbe V14.out hb)); replace HB := Aside0.mk (bst HB.out hb); replace HQ := Aside0.mk (bst HQ.out hb); have H15 := Aside0.mk hbox; clear hb hbox hg; refine hK.out _ _ ⟨H13.out, HG.out⟩ (fun hHeld => ?_); clear hK K; refine norm_ (a' := ?_) ?_ ?_; rotate_left; (show Act.put _ (some 15) _ = _; simp only [Act.put, List.setIfInBounds_toArray, List.set_cons_zero, List.set_cons_succ, i64_w, i32_w]; rfl))
        | (refine slot_ 47 ?_; refine goes_ (N := some 47) Tryz.func7 (by kernel_rfl) rfl #[.agg #[.int .i64 last, .int .i64 size]] (by rfl) rfl rfl qA ?_; refine (laws_toLog.calls last size p q _ H3.out).mono ?_; rintro e w' ⟨rfl, hb⟩; (try replace HA := Aside0.mk (bbe HA.out hb)); (try replace HG := Aside0.mk (bbe HG.out hb)); (try replace H10 := Aside0.mk (bbe H10.out hb)); (try replace H11 := Aside0.mk (bbe H11.out hb)); (try replace H13 := Aside0.mk (bbe H13.out hb)); (try replace H14 := Aside0.mk (bbe H14.out hb)); (try replace H15 := Aside0.mk (bbe H15.out hb)); (try replace V10 := Aside0.mk (Kd.Rbe V10.out hb)); (try replace V13 := Aside0.mk (Kd.Rbe V13.out hb)); (try replace V14 := Aside0.mk (Kd.Rbe V14.out hb)); replace HB := Aside0.mk (bst HB.out hb); replace HQ := Aside0.mk (bst HQ.out hb); clear hb; refine ⟨_, rfl, ?_⟩; refine hK.out _ _ ⟨H13.out, HG.out⟩ (fun hHeld => ?_); clear hK K; refine norm_ (a' := ?_) ?_ ?_; rotate_left; (show Act.put _ (some 47) _ = _; simp only [Act.put, List.setIfInBounds_toArray, List.set_cons_zero, List.set_cons_succ, i64_w, i32_w]; rfl))
      refine qp 6 44 ?_; refine qp 7 51 ?_; refine qp 8 52 ?_; refine qp 9 53 ?_; refine q2 10 11 14 15 (fun K hK => ?_) (fun K hK => ?_); rotate_left 2
      refine q2 5 11 50 15 (fun K hK => ?_) (fun K hK => ?_); rotate_left 2
      refine q2 5 10 50 14 (fun K hK => ?_) (fun K hK => ?_); rotate_left 2
      refine q2 5 11 50 15 (fun K hK => ?_) (fun K hK => ?_); rotate_left 2
      refine qo 2 47 (fun K hK => ?_); rotate_left 1
      refine q2 5 10 50 14 (fun K hK => ?_) (fun K hK => ?_); rotate_left 2
      refine qo 2 47 (fun K hK => ?_); rotate_left 1
      all_goals first
        | (refine slot_ 14 ?_; refine bxs ?hg (N := 14) ?hd (cs := #[.slice none 0 0, .int .i64 0, .int .i64 0, .int .i64 0, .int .i64 0, .bool false]) (t := 30) ?hr ?_; (case hd => rfl); (case hg => rfl); (case hr => first | (go_simp; done) | (go_simp; rfl)); intro g14 hg w' hbox hb; have G14 := Aside0.mk (Nat.le_trans HB.out.size (Nat.le_of_eq hg.symm)); have N14 := Aside0.mk (show s14 ≤ g14 ∧ g10 < g14 ∧ g13 < g14 from ⟨Nat.le_trans (Nat.le_trans HS.out HQ.out.size) (Nat.le_of_eq hg.symm), hg ▸ blt H10.out, hg ▸ blt H13.out⟩); (try replace HA := Aside0.mk (bbe HA.out hb)); (try replace HG := Aside0.mk (bbe HG.out hb)); (try replace H10 := Aside0.mk (bbe H10.out hb)); (try replace H11 := Aside0.mk (bbe H11.out hb)); (try replace H13 := Aside0.mk (bbe H13.out hb)); (try replace H14 := Aside0.mk (bbe H14.out hb)); (try replace H15 := Aside0.mk (bbe H15.out hb)); (try replace V10 := Aside0.mk (Kd.Rbe V10.out hb)); (try replace V13 := Aside0.mk (Kd.Rbe V13.out hb)); (try replace V14 := Aside0.mk (Kd.Rbe V14.out hb)); replace HB := Aside0.mk (bst HB.out hb); replace HQ := Aside0.mk (bst HQ.out hb); have H14 := Aside0.mk hbox; clear hb hbox hg; refine hK.out _ _ ⟨H13.out, HG.out⟩ (fun hHeld => ?_); clear hK K; refine norm_ (a' := ?_) ?_ ?_; rotate_left; (show Act.put _ (some 14) _ = _; simp only [Act.put, List.setIfInBounds_toArray, List.set_cons_zero, List.set_cons_succ, i64_w, i32_w]; rfl))
        | (refine slot_ 15 ?_; refine bxs ?hg (N := 15) ?hd (cs := #[.int .i64 0, .int .i64 0]) (t := 31) ?hr ?_; (case hd => rfl); (case hg => rfl); (case hr => first | (go_simp; done) | (go_simp; rfl)); intro g15 hg w' hbox hb; have G15 := Aside0.mk (Nat.le_trans HB.out.size (Nat.le_of_eq hg.symm)); have N15 := Aside0.mk (show s14 ≤ g15 ∧ g11 < g15 from ⟨Nat.le_trans (Nat.le_trans HS.out HQ.out.size) (Nat.le_of_eq hg.symm), hg ▸ blt H11.out⟩); (try replace HA := Aside0.mk (bbe HA.out hb)); (try replace HG := Aside0.mk (bbe HG.out hb)); (try replace H10 := Aside0.mk (bbe H10.out hb)); (try replace H11 := Aside0.mk (bbe H11.out hb)); (try replace H13 := Aside0.mk (bbe H13.out hb)); (try replace H14 := Aside0.mk (bbe H14.out hb)); (try replace H15 := Aside0.mk (bbe H15.out hb)); (try replace V10 := Aside0.mk (Kd.Rbe V10.out hb)); (try replace V13 := Aside0.mk (Kd.Rbe V13.out hb)); (try replace V14 := Aside0.mk (Kd.Rbe V14.out hb)); replace HB := Aside0.mk (bst HB.out hb); replace HQ := Aside0.mk (bst HQ.out hb); have H15 := Aside0.mk hbox; clear hb hbox hg; refine hK.out _ _ ⟨H13.out, HG.out⟩ (fun hHeld => ?_); clear hK K; refine norm_ (a' := ?_) ?_ ?_; rotate_left; (show Act.put _ (some 15) _ = _; simp only [Act.put, List.setIfInBounds_toArray, List.set_cons_zero, List.set_cons_succ, i64_w, i32_w]; rfl))
        | (refine slot_ 50 ?_; refine goes_ (N := some 50) Tryz.func8 (by kernel_rfl) rfl #[.agg #[.slice A13 L.length c13, .int .i64 b1, .int .i64 b2, .int .i64 b3, .int .i64 b4, .bool b5], .agg #[.int .i64 p, .int .i64 q], .string entry, .int .i64 most] (by rfl) rfl rfl qA ?_; refine (impl_AppendEntry.calls k5 A13 c13 L b1 b2 b3 b4 b5 p q entry most _ _ _ _ _ _ _ _ _ _ (HGK.out.below HB.out) (Kd.R_reads' V13.out).2.2 (Kd.R_reads' V13.out).2.1 H5.out).mono ?_; rintro e w' ⟨v, rfl, hv, hb⟩; obtain ⟨A14, c14, rfl⟩ := Kd.R_slice hv; have hlo := HB.out.size; have hs9 := Nat.le_trans HS.out HQ.out.size; (try replace HA := Aside0.mk (bbe HA.out hb)); (try replace HG := Aside0.mk (bbe HG.out hb)); (try replace H10 := Aside0.mk (bbe H10.out hb)); (try replace H11 := Aside0.mk (bbe H11.out hb)); (try replace H13 := Aside0.mk (bbe H13.out hb)); (try replace H14 := Aside0.mk (bbe H14.out hb)); (try replace H15 := Aside0.mk (bbe H15.out hb)); (try replace V10 := Aside0.mk (Kd.Rbe V10.out hb)); (try replace V13 := Aside0.mk (Kd.Rbe V13.out hb)); (try replace V14 := Aside0.mk (Kd.Rbe V14.out hb)); replace HB := Aside0.mk (bst HB.out hb); have V14 := Aside0.mk (Kd.Rmo (Kd.Rlo (R_range hv hs9) hlo) (fun k hk => hk.1)); clear hv hlo hs9; replace HQ := Aside0.mk (bst HQ.out hb); clear hb; refine ⟨_, rfl, ?_⟩; refine hK.out _ _ ⟨H13.out, HG.out⟩ (fun hHeld => ?_); clear hK K; refine norm_ (a' := ?_) ?_ ?_; rotate_left; (show Act.put _ (some 50) _ = _; simp only [Act.put, List.setIfInBounds_toArray, List.set_cons_zero, List.set_cons_succ, i64_w, i32_w]; rfl))
        | (refine slot_ 47 ?_; refine goes_ (N := some 47) Tryz.func7 (by kernel_rfl) rfl #[.agg #[.int .i64 last, .int .i64 size]] (by rfl) rfl rfl qA ?_; refine (laws_toLog.calls last size p q _ H3.out).mono ?_; rintro e w' ⟨rfl, hb⟩; (try replace HA := Aside0.mk (bbe HA.out hb)); (try replace HG := Aside0.mk (bbe HG.out hb)); (try replace H10 := Aside0.mk (bbe H10.out hb)); (try replace H11 := Aside0.mk (bbe H11.out hb)); (try replace H13 := Aside0.mk (bbe H13.out hb)); (try replace H14 := Aside0.mk (bbe H14.out hb)); (try replace H15 := Aside0.mk (bbe H15.out hb)); (try replace V10 := Aside0.mk (Kd.Rbe V10.out hb)); (try replace V13 := Aside0.mk (Kd.Rbe V13.out hb)); (try replace V14 := Aside0.mk (Kd.Rbe V14.out hb)); replace HB := Aside0.mk (bst HB.out hb); replace HQ := Aside0.mk (bst HQ.out hb); clear hb; refine ⟨_, rfl, ?_⟩; refine hK.out _ _ ⟨H13.out, HG.out⟩ (fun hHeld => ?_); clear hK K; refine norm_ (a' := ?_) ?_ ?_; rotate_left; (show Act.put _ (some 47) _ = _; simp only [Act.put, List.setIfInBounds_toArray, List.set_cons_zero, List.set_cons_succ, i64_w, i32_w]; rfl))
      refine qo 11 15 (fun K hK => ?_); rotate_left 1
      refine qo 10 14 (fun K hK => ?_); rotate_left 1
      refine qp 6 44 ?_; refine qp 7 51 ?_; refine qp 8 52 ?_; refine qp 9 53 ?_; refine qo 11 15 (fun K hK => ?_); rotate_left 1
      refine qo 5 50 (fun K hK => ?_); rotate_left 1
      refine qp 6 44 ?_; refine qp 7 51 ?_; refine qp 8 52 ?_; refine qp 9 53 ?_; refine qo 10 14 (fun K hK => ?_); rotate_left 1
      refine qo 5 50 (fun K hK => ?_); rotate_left 1
      refine qp 6 44 ?_; refine qp 7 51 ?_; refine qp 8 52 ?_; refine qp 9 53 ?_; refine qo 11 15 (fun K hK => ?_); rotate_left 1
      refine qo 5 50 (fun K hK => ?_); rotate_left 1
      refine qo 5 50 (fun K hK => ?_); rotate_left 1
      refine qp 6 44 ?_; refine qp 7 51 ?_; refine qp 8 52 ?_; refine qp 9 53 ?_; refine qo 10 14 (fun K hK => ?_); rotate_left 1
      refine qo 5 50 (fun K hK => ?_); rotate_left 1
      refine qo 5 50 (fun K hK => ?_); rotate_left 1
      all_goals first
        | (refine slot_ 15 ?_; refine bxs ?hg (N := 15) ?hd (cs := #[.int .i64 0, .int .i64 0]) (t := 31) ?hr ?_; (case hd => rfl); (case hg => rfl); (case hr => first | (go_simp; done) | (go_simp; rfl)); intro g15 hg w' hbox hb; have G15 := Aside0.mk (Nat.le_trans HB.out.size (Nat.le_of_eq hg.symm)); have N15 := Aside0.mk (show s14 ≤ g15 ∧ g11 < g15 from ⟨Nat.le_trans (Nat.le_trans HS.out HQ.out.size) (Nat.le_of_eq hg.symm), hg ▸ blt H11.out⟩); (try replace HA := Aside0.mk (bbe HA.out hb)); (try replace HG := Aside0.mk (bbe HG.out hb)); (try replace H10 := Aside0.mk (bbe H10.out hb)); (try replace H11 := Aside0.mk (bbe H11.out hb)); (try replace H13 := Aside0.mk (bbe H13.out hb)); (try replace H14 := Aside0.mk (bbe H14.out hb)); (try replace H15 := Aside0.mk (bbe H15.out hb)); (try replace V10 := Aside0.mk (Kd.Rbe V10.out hb)); (try replace V13 := Aside0.mk (Kd.Rbe V13.out hb)); (try replace V14 := Aside0.mk (Kd.Rbe V14.out hb)); replace HB := Aside0.mk (bst HB.out hb); replace HQ := Aside0.mk (bst HQ.out hb); have H15 := Aside0.mk hbox; clear hb hbox hg; refine hK.out _ _ ⟨H13.out, HG.out⟩ (fun hHeld => ?_); clear hK K; refine norm_ (a' := ?_) ?_ ?_; rotate_left; (show Act.put _ (some 15) _ = _; simp only [Act.put, List.setIfInBounds_toArray, List.set_cons_zero, List.set_cons_succ, i64_w, i32_w]; rfl))
        | (refine slot_ 14 ?_; refine bxs ?hg (N := 14) ?hd (cs := #[.slice none 0 0, .int .i64 0, .int .i64 0, .int .i64 0, .int .i64 0, .bool false]) (t := 30) ?hr ?_; (case hd => rfl); (case hg => rfl); (case hr => first | (go_simp; done) | (go_simp; rfl)); intro g14 hg w' hbox hb; have G14 := Aside0.mk (Nat.le_trans HB.out.size (Nat.le_of_eq hg.symm)); have N14 := Aside0.mk (show s14 ≤ g14 ∧ g10 < g14 ∧ g13 < g14 from ⟨Nat.le_trans (Nat.le_trans HS.out HQ.out.size) (Nat.le_of_eq hg.symm), hg ▸ blt H10.out, hg ▸ blt H13.out⟩); (try replace HA := Aside0.mk (bbe HA.out hb)); (try replace HG := Aside0.mk (bbe HG.out hb)); (try replace H10 := Aside0.mk (bbe H10.out hb)); (try replace H11 := Aside0.mk (bbe H11.out hb)); (try replace H13 := Aside0.mk (bbe H13.out hb)); (try replace H14 := Aside0.mk (bbe H14.out hb)); (try replace H15 := Aside0.mk (bbe H15.out hb)); (try replace V10 := Aside0.mk (Kd.Rbe V10.out hb)); (try replace V13 := Aside0.mk (Kd.Rbe V13.out hb)); (try replace V14 := Aside0.mk (Kd.Rbe V14.out hb)); replace HB := Aside0.mk (bst HB.out hb); replace HQ := Aside0.mk (bst HQ.out hb); have H14 := Aside0.mk hbox; clear hb hbox hg; refine hK.out _ _ ⟨H13.out, HG.out⟩ (fun hHeld => ?_); clear hK K; refine norm_ (a' := ?_) ?_ ?_; rotate_left; (show Act.put _ (some 14) _ = _; simp only [Act.put, List.setIfInBounds_toArray, List.set_cons_zero, List.set_cons_succ, i64_w, i32_w]; rfl))
        | (refine slot_ 50 ?_; refine goes_ (N := some 50) Tryz.func8 (by kernel_rfl) rfl #[.agg #[.slice A13 L.length c13, .int .i64 b1, .int .i64 b2, .int .i64 b3, .int .i64 b4, .bool b5], .agg #[.int .i64 p, .int .i64 q], .string entry, .int .i64 most] (by rfl) rfl rfl qA ?_; refine (impl_AppendEntry.calls k5 A13 c13 L b1 b2 b3 b4 b5 p q entry most _ _ _ _ _ _ _ _ _ _ (HGK.out.below HB.out) (Kd.R_reads' V13.out).2.2 (Kd.R_reads' V13.out).2.1 H5.out).mono ?_; rintro e w' ⟨v, rfl, hv, hb⟩; obtain ⟨A14, c14, rfl⟩ := Kd.R_slice hv; have hlo := HB.out.size; have hs9 := Nat.le_trans HS.out HQ.out.size; (try replace HA := Aside0.mk (bbe HA.out hb)); (try replace HG := Aside0.mk (bbe HG.out hb)); (try replace H10 := Aside0.mk (bbe H10.out hb)); (try replace H11 := Aside0.mk (bbe H11.out hb)); (try replace H13 := Aside0.mk (bbe H13.out hb)); (try replace H14 := Aside0.mk (bbe H14.out hb)); (try replace H15 := Aside0.mk (bbe H15.out hb)); (try replace V10 := Aside0.mk (Kd.Rbe V10.out hb)); (try replace V13 := Aside0.mk (Kd.Rbe V13.out hb)); (try replace V14 := Aside0.mk (Kd.Rbe V14.out hb)); replace HB := Aside0.mk (bst HB.out hb); have V14 := Aside0.mk (Kd.Rmo (Kd.Rlo (R_range hv hs9) hlo) (fun k hk => hk.1)); clear hv hlo hs9; replace HQ := Aside0.mk (bst HQ.out hb); clear hb; refine ⟨_, rfl, ?_⟩; refine hK.out _ _ ⟨H13.out, HG.out⟩ (fun hHeld => ?_); clear hK K; refine norm_ (a' := ?_) ?_ ?_; rotate_left; (show Act.put _ (some 50) _ = _; simp only [Act.put, List.setIfInBounds_toArray, List.set_cons_zero, List.set_cons_succ, i64_w, i32_w]; rfl))
      rotate_left 1
      rotate_left 1
      rotate_left 1
      refine qp 6 44 ?_; refine qp 7 51 ?_; refine qp 8 52 ?_; refine qp 9 53 ?_; rotate_left 1
      rotate_left 1
      refine qp 6 44 ?_; refine qp 7 51 ?_; refine qp 8 52 ?_; refine qp 9 53 ?_; rotate_left 1
      rotate_left 1
      refine qp 6 44 ?_; refine qp 7 51 ?_; refine qp 8 52 ?_; refine qp 9 53 ?_; rotate_left 1
      refine qp 6 44 ?_; refine qp 7 51 ?_; refine qp 8 52 ?_; refine qp 9 53 ?_; rotate_left 1
      rotate_left 1
      refine qp 6 44 ?_; refine qp 7 51 ?_; refine qp 8 52 ?_; refine qp 9 53 ?_; rotate_left 1
      refine qp 6 44 ?_; refine qp 7 51 ?_; refine qp 8 52 ?_; refine qp 9 53 ?_; rotate_left 1
      all_goals (refine qo' 12 (fun K hK => ?_); refine skip_ (by rfl) rfl (exec_store_row 30 (.tmp 14) (.tmp 51) rfl g14 #[.slice A14 Z.length c14, .int .i64 z1, .int .i64 z2, .int .i64 z3, .int .i64 z4, .bool z5] rfl rfl 30 #[.slice none 0 0, .int .i64 0, .int .i64 0, .int .i64 0, .int .i64 0, .bool false] H14.out infoFs rfl (by simp [Value.oneCell'])) ?_; replace HA := Aside0.mk (blk_setRow HA.out (ne_type HA.out H14.out (by decide)) #[.slice A14 Z.length c14, .int .i64 z1, .int .i64 z2, .int .i64 z3, .int .i64 z4, .bool z5]); replace HG := Aside0.mk (blk_setRow HG.out (ne_type HG.out H14.out (by decide)) #[.slice A14 Z.length c14, .int .i64 z1, .int .i64 z2, .int .i64 z3, .int .i64 z4, .bool z5]); replace H10 := Aside0.mk (blk_setRow H10.out (Nat.ne_of_lt N14.out.2.1) #[.slice A14 Z.length c14, .int .i64 z1, .int .i64 z2, .int .i64 z3, .int .i64 z4, .bool z5]); replace H11 := Aside0.mk (blk_setRow H11.out (ne_type H11.out H14.out (by decide)) #[.slice A14 Z.length c14, .int .i64 z1, .int .i64 z2, .int .i64 z3, .int .i64 z4, .bool z5]); replace H13 := Aside0.mk (blk_setRow H13.out (Nat.ne_of_lt N14.out.2.2) #[.slice A14 Z.length c14, .int .i64 z1, .int .i64 z2, .int .i64 z3, .int .i64 z4, .bool z5]); replace H15 := Aside0.mk (blk_setRow H15.out (ne_type H15.out H14.out (by decide)) #[.slice A14 Z.length c14, .int .i64 z1, .int .i64 z2, .int .i64 z3, .int .i64 z4, .bool z5]); replace V10 := Aside0.mk (Kd.R_set V10.out H14.out (by decide) #[.slice A14 Z.length c14, .int .i64 z1, .int .i64 z2, .int .i64 z3, .int .i64 z4, .bool z5]); replace V13 := Aside0.mk (Kd.R_set V13.out H14.out (by decide) #[.slice A14 Z.length c14, .int .i64 z1, .int .i64 z2, .int .i64 z3, .int .i64 z4, .bool z5]); replace V14 := Aside0.mk (Kd.R_set V14.out H14.out (by decide) #[.slice A14 Z.length c14, .int .i64 z1, .int .i64 z2, .int .i64 z3, .int .i64 z4, .bool z5]); replace HB := Aside0.mk (below_setRowF HB.out G14.out #[.slice A14 Z.length c14, .int .i64 z1, .int .i64 z2, .int .i64 z3, .int .i64 z4, .bool z5]); replace H14 := Aside0.mk (heap_setRow_sameF (cs' := #[.slice A14 Z.length c14, .int .i64 z1, .int .i64 z2, .int .i64 z3, .int .i64 z4, .bool z5]) H14.out); refine hK.out _ _ ⟨H13.out, HG.out⟩ (fun hHeld => ?_); clear hK K)
      all_goals (refine qo' 13 (fun K hK => ?_); refine skip_ (by rfl) rfl (exec_store_row 31 (.tmp 15) (.tmp 52) rfl g15 #[.int .i64 y1, .int .i64 y2] rfl rfl 31 #[.int .i64 0, .int .i64 0] H15.out infoLog rfl (by simp [Value.oneCell'])) ?_; replace HA := Aside0.mk (blk_setRow HA.out (ne_type HA.out H15.out (by decide)) #[.int .i64 y1, .int .i64 y2]); replace HG := Aside0.mk (blk_setRow HG.out (ne_type HG.out H15.out (by decide)) #[.int .i64 y1, .int .i64 y2]); replace H10 := Aside0.mk (blk_setRow H10.out (ne_type H10.out H15.out (by decide)) #[.int .i64 y1, .int .i64 y2]); replace H11 := Aside0.mk (blk_setRow H11.out (Nat.ne_of_lt N15.out.2) #[.int .i64 y1, .int .i64 y2]); replace H13 := Aside0.mk (blk_setRow H13.out (ne_type H13.out H15.out (by decide)) #[.int .i64 y1, .int .i64 y2]); replace H14 := Aside0.mk (blk_setRow H14.out (ne_type H14.out H15.out (by decide)) #[.int .i64 y1, .int .i64 y2]); replace V10 := Aside0.mk (Kd.R_set V10.out H15.out (by decide) #[.int .i64 y1, .int .i64 y2]); replace V13 := Aside0.mk (Kd.R_set V13.out H15.out (by decide) #[.int .i64 y1, .int .i64 y2]); replace V14 := Aside0.mk (Kd.R_set V14.out H15.out (by decide) #[.int .i64 y1, .int .i64 y2]); replace HB := Aside0.mk (below_setRowF HB.out G15.out #[.int .i64 y1, .int .i64 y2]); replace H15 := Aside0.mk (heap_setRow_sameF (cs' := #[.int .i64 y1, .int .i64 y2]) H15.out); refine hK.out _ _ ⟨H13.out, HG.out⟩ (fun hHeld => ?_); clear hK K)
      all_goals (refine qp 14 16 ?_; refine done_ (by kernel_rfl) ?_; go_wp2_with fail; go_meet; (case rel => exact ⟨g14, g15, A14, c14, rfl, rfl, rfl, HB.out, HA.out, HG.out, H10.out, H11.out, H13.out, H14.out, H15.out, V10.out, V13.out, V14.out, N14.out.1, N15.out.1⟩))
    case rest =>
      clear HA HG H10 H11 H13 V10 V13 HB HS
      obtain ⟨g14, g15, A14, c14, rfl, rfl, rfl, hB, hA, hG, h10, h11, h13, h14, h15, hv1, hv2, hv3, hn1, hn2⟩ := hcut
      have HB := Aside0.mk hB
      have HA := Aside0.mk hA
      have HG := Aside0.mk hG
      have H10 := Aside0.mk h10
      have H11 := Aside0.mk h11
      have H13 := Aside0.mk h13
      have H14 := Aside0.mk h14
      have H15 := Aside0.mk h15
      have V10 := Aside0.mk hv1
      have V13 := Aside0.mk hv2
      have V14 := Aside0.mk hv3
      have NN := Aside0.mk (show s14 ≤ g14 ∧ s14 ≤ g15 ∧ s13 ≤ e13 ∧ e13 ≤ g13 ∧ g13 < s14 ∧ (ga < s13 ∧ gl < s13 ∧ g10 < s13 ∧ g11 < s13) from ⟨hn1, hn2, HE.out.1, G13.out.1, N1.out, N0.out⟩)
      clear hB hA hG h10 h11 h13 h14 h15 hv1 hv2 hv3 hn1 hn2
      go_upto_region 12 with (first | ((with_reducible refine gds (N := 54) rfl ?_); refine wpList_load_row rfl 30 (.tmp 14) rfl g14 ?hp 30 #[.slice A14 Z.length c14, .int .i64 z1, .int .i64 z2, .int .i64 z3, .int .i64 z4, .bool z5] (0, 0) _ ?hg Tryz.underlying30 ?ha ?hi ?_; (case hp => rfl); (case hg => exact H14.out); (case ha => rfl); (case hi => exact infoFs)) | ((with_reducible refine gds (N := 55) rfl ?_); refine wpList_load_row rfl 30 (.tmp 10) rfl g10 ?hp 30 #[.slice A10 Z.length c10, .int .i64 z1, .int .i64 z2, .int .i64 z3, .int .i64 z4, .bool z5] (0, 0) _ ?hg Tryz.underlying30 ?ha ?hi ?_; (case hp => rfl); (case hg => exact H10.out); (case ha => rfl); (case hi => exact infoFs)) | (go_at_call 9; (with_reducible refine (laws_eqFs.calls k6 A14 c14 Z z1 z2 z3 z4 z5 A10 c10 Z z1 z2 z3 z4 z5 true _ (Kd.R_reads' V14.out).2.2 (Kd.R_reads' V14.out).2.1 (Kd.R_reads' V10.out).2.2 (Kd.R_reads' V10.out).2.1 H6.out).mono ?_); rintro e w' ⟨rfl, hb⟩; replace HA := Aside0.mk (bbe HA.out hb); replace HG := Aside0.mk (bbe HG.out hb); replace H10 := Aside0.mk (bbe H10.out hb); replace H11 := Aside0.mk (bbe H11.out hb); replace H13 := Aside0.mk (bbe H13.out hb); replace H14 := Aside0.mk (bbe H14.out hb); replace H15 := Aside0.mk (bbe H15.out hb); replace V10 := Aside0.mk (Kd.Rbe V10.out hb); replace V13 := Aside0.mk (Kd.Rbe V13.out hb); replace V14 := Aside0.mk (Kd.Rbe V14.out hb); replace HB := Aside0.mk (bst HB.out hb); (try clear hza hzb); have hza := qz2 H15.out; have hzb := qz2 H11.out; clear hb) | (go_at_call 10; (with_reducible refine (laws_eqLog.calls y1 y2 y1 y2 true _ H8.out).mono ?_); rintro e w' ⟨rfl, hb⟩; replace HA := Aside0.mk (bbe HA.out hb); replace HG := Aside0.mk (bbe HG.out hb); replace H10 := Aside0.mk (bbe H10.out hb); replace H11 := Aside0.mk (bbe H11.out hb); replace H13 := Aside0.mk (bbe H13.out hb); replace H14 := Aside0.mk (bbe H14.out hb); replace H15 := Aside0.mk (bbe H15.out hb); replace V10 := Aside0.mk (Kd.Rbe V10.out hb); replace V13 := Aside0.mk (Kd.Rbe V13.out hb); replace V14 := Aside0.mk (Kd.Rbe V14.out hb); replace HB := Aside0.mk (bst HB.out hb); clear hb))
      refine qs 5 (fun w' => w'.heap[g13]? = some (.cells #[.slice A13 L.length c13, .int .i64 b1, .int .i64 b2, .int .i64 b3, .int .i64 b4, .bool b5] 30 (0, 0)) ∧ w'.heap[ga]? = some (.cells #[.slice A l.length c, .int .i64 cap, .int .i64 cnt, .int .i64 cr, .int .i64 fa, .bool dn] 24 (0, 0))) (ds := []) ⟨H13.out, HA.out⟩ (fun hHeld => ?_)
      replace HA := Aside0.mk (bbe HA.out (bd1 (Below.refl _ _)))
      replace HG := Aside0.mk (bbe HG.out (bd1 (Below.refl _ _)))
      replace H10 := Aside0.mk (bbe H10.out (bd1 (Below.refl _ _)))
      replace H11 := Aside0.mk (bbe H11.out (bd1 (Below.refl _ _)))
      replace H13 := Aside0.mk (bbe H13.out (bd1 (Below.refl _ _)))
      replace H14 := Aside0.mk (bbe H14.out (bd1 (Below.refl _ _)))
      replace H15 := Aside0.mk (bbe H15.out (bd1 (Below.refl _ _)))
      replace V10 := Aside0.mk (Kd.Rbe V10.out (bd1 (Below.refl _ _)))
      replace V13 := Aside0.mk (Kd.Rbe V13.out (bd1 (Below.refl _ _)))
      replace V14 := Aside0.mk (Kd.Rbe V14.out (bd1 (Below.refl _ _)))
      replace HB := Aside0.mk (bst HB.out (bd1 (Below.refl _ _)))
      refine qt 0 69 ?_ (hy := Or.inl ⟨by rfl, fun w' hS => exec_load_row 30 (.tmp 13) rfl g13 rfl 30 #[.slice A13 L.length c13, .int .i64 b1, .int .i64 b2, .int .i64 b3, .int .i64 b4, .bool b5] hS.1 Tryz.underlying30 rfl infoFs⟩)
      refine qt 1 70 ?_ (hy := Or.inl ⟨by rfl, fun w' hS => exec_load_row 24 (.tmp 4) rfl ga rfl 24 #[.slice A l.length c, .int .i64 cap, .int .i64 cnt, .int .i64 cr, .int .i64 fa, .bool dn] hS.2 Tryz.underlying24 rfl infoLFs⟩)
      refine qo 2 71 (fun K hK => ?_)
      (refine slot_ 71 ?_; refine goes_ (N := some 71) Tryz.func6 (by kernel_rfl) rfl #[.agg #[.slice A l.length c, .int .i64 cap, .int .i64 cnt, .int .i64 cr, .int .i64 fa, .bool dn]] (by rfl) rfl rfl qA ?_; refine (laws_toFs.calls k2 A c l cap cnt cr fa dn _ _ _ _ _ _ _ (Kd.Cbe HR.out HB.out) HC.out H2.out).mono ?_; rintro e w' ⟨v, rfl, hv, hb⟩; obtain ⟨AL, cL, rfl⟩ := Kd.R_slice hv; replace HA := Aside0.mk (bbe HA.out hb); replace HG := Aside0.mk (bbe HG.out hb); replace H10 := Aside0.mk (bbe H10.out hb); replace H11 := Aside0.mk (bbe H11.out hb); replace H13 := Aside0.mk (bbe H13.out hb); replace H14 := Aside0.mk (bbe H14.out hb); replace H15 := Aside0.mk (bbe H15.out hb); replace V10 := Aside0.mk (Kd.Rbe V10.out hb); replace V13 := Aside0.mk (Kd.Rbe V13.out hb); replace V14 := Aside0.mk (Kd.Rbe V14.out hb); replace HB := Aside0.mk (bst HB.out hb); have VL := Aside0.mk hv; clear hv; clear hb; refine ⟨_, rfl, ?_⟩; refine hK.out _ _ ⟨H13.out, HA.out⟩ (fun hHeld => ?_); clear hK K; refine norm_ (a' := ?_) ?_ ?_; rotate_left; (show Act.put _ (some 71) _ = _; simp only [Act.put, List.setIfInBounds_toArray, List.set_cons_zero, List.set_cons_succ, i64_w, i32_w]; rfl))
      refine qo 3 72 (fun K hK => ?_)
      (refine slot_ 72 ?_; refine goes_ (N := some 72) Tryz.func9 (by kernel_rfl) rfl #[.agg #[.slice A13 L.length c13, .int .i64 b1, .int .i64 b2, .int .i64 b3, .int .i64 b4, .bool b5], .agg #[.slice AL L.length cL, .int .i64 b1, .int .i64 b2, .int .i64 b3, .int .i64 b4, .bool b5]] (by rfl) rfl rfl qA ?_; refine (laws_eqFs.calls k7 A13 c13 L b1 b2 b3 b4 b5 AL cL L b1 b2 b3 b4 b5 true _ (Kd.R_reads' V13.out).2.2 (Kd.R_reads' V13.out).2.1 (Kd.R_reads' VL.out).2.2 (Kd.R_reads' VL.out).2.1 H7.out).mono ?_; rintro e w' ⟨rfl, hb⟩; replace HA := Aside0.mk (bbe HA.out hb); replace HG := Aside0.mk (bbe HG.out hb); replace H10 := Aside0.mk (bbe H10.out hb); replace H11 := Aside0.mk (bbe H11.out hb); replace H13 := Aside0.mk (bbe H13.out hb); replace H14 := Aside0.mk (bbe H14.out hb); replace H15 := Aside0.mk (bbe H15.out hb); replace V10 := Aside0.mk (Kd.Rbe V10.out hb); replace V13 := Aside0.mk (Kd.Rbe V13.out hb); replace V14 := Aside0.mk (Kd.Rbe V14.out hb); replace HB := Aside0.mk (bst HB.out hb); clear hb; refine ⟨_, rfl, ?_⟩; refine hK.out _ _ ⟨H13.out, HA.out⟩ (fun hHeld => ?_); clear hK K; refine norm_ (a' := ?_) ?_ ?_; rotate_left; (show Act.put _ (some 72) _ = _; simp only [Act.put, List.setIfInBounds_toArray, List.set_cons_zero, List.set_cons_succ, i64_w, i32_w]; rfl))
      refine qp 4 73 ?_
      refine done_ (by kernel_rfl) ?_
      clear VL
      go_upto_region 18 with (first | ((with_reducible refine gds (N := 74) rfl ?_); refine wpList_load_row rfl 30 (.tmp 13) rfl g13 ?hp 30 #[.slice A13 L.length c13, .int .i64 b1, .int .i64 b2, .int .i64 b3, .int .i64 b4, .bool b5] (0, 0) _ ?hg Tryz.underlying30 ?ha ?hi ?_; (case hp => rfl); (case hg => exact H13.out); (case ha => rfl); (case hi => exact infoFs)) | (go_at_call 11; (with_reducible refine (laws_markFs.calls k9 (fun k => s13 ≤ k ∧ k < e13) _ L b1 b2 b3 b4 b5 1 m1 L2 w _ HB.out V13.out H9.out).mono ?_); rintro e w' ⟨rfl, hR, hb, hk⟩; replace HA := Aside0.mk (blk_kept HA.out hk (fun hs => by have := NN.out; omega)); replace HG := Aside0.mk (blk_kept HG.out hk (fun hs => by have := NN.out; omega)); replace H10 := Aside0.mk (blk_kept H10.out hk (fun hs => by have := NN.out; omega)); replace H11 := Aside0.mk (blk_kept H11.out hk (fun hs => by have := NN.out; omega)); replace H14 := Aside0.mk (blk_kept H14.out hk (fun hs => by have := NN.out; omega)); replace H15 := Aside0.mk (blk_kept H15.out hk (fun hs => by have := NN.out; omega)); replace V10 := Aside0.mk (Kd.R_kept V10.out hk (fun k (h1 : k < s13) (h2 : s13 ≤ k ∧ k < e13) => by omega)); replace V14 := Aside0.mk (Kd.R_kept V14.out hk (fun k (h1 : s14 ≤ k) (h2 : s13 ≤ k ∧ k < e13) => by have := NN.out; omega)); replace HB := Aside0.mk hb; have hzc := qz6 H14.out; have hzd := qz6 H10.out; clear hR hb hk H13 V13) | (go_at_call 9; (with_reducible refine (laws_eqFs.calls k6 A14 c14 Z z1 z2 z3 z4 z5 A10 c10 Z z1 z2 z3 z4 z5 true _ (Kd.R_reads' V14.out).2.2 (Kd.R_reads' V14.out).2.1 (Kd.R_reads' V10.out).2.2 (Kd.R_reads' V10.out).2.1 H6.out).mono ?_); rintro e w' ⟨rfl, hb⟩; replace HA := Aside0.mk (bbe HA.out hb); replace HG := Aside0.mk (bbe HG.out hb); replace H10 := Aside0.mk (bbe H10.out hb); replace H11 := Aside0.mk (bbe H11.out hb); replace H14 := Aside0.mk (bbe H14.out hb); replace H15 := Aside0.mk (bbe H15.out hb); replace V10 := Aside0.mk (Kd.Rbe V10.out hb); replace V14 := Aside0.mk (Kd.Rbe V14.out hb); replace HB := Aside0.mk (bst HB.out hb); (try clear hza hzb); have hza := qz2 H15.out; have hzb := qz2 H11.out; clear hb) | (go_at_call 10; (with_reducible refine (laws_eqLog.calls y1 y2 y1 y2 true _ H8.out).mono ?_); rintro e w' ⟨rfl, hb⟩; replace HA := Aside0.mk (bbe HA.out hb); replace HG := Aside0.mk (bbe HG.out hb); replace H10 := Aside0.mk (bbe H10.out hb); replace H11 := Aside0.mk (bbe H11.out hb); replace H14 := Aside0.mk (bbe H14.out hb); replace H15 := Aside0.mk (bbe H15.out hb); replace V10 := Aside0.mk (Kd.Rbe V10.out hb); replace V14 := Aside0.mk (Kd.Rbe V14.out hb); replace HB := Aside0.mk (bst HB.out hb); clear hb))
      replace V14 := Aside0.mk (Kd.Rmo (Kd.Rty (Kd.Rty V14.out H14.out (by decide)) H15.out (by decide)) (fun k (hk : (s14 ≤ k ∧ k ≠ g14) ∧ k ≠ g15) => (⟨hk.1.1, hk.1.2, hk.2⟩ : s14 ≤ k ∧ k ≠ g14 ∧ k ≠ g15)))
      go_upto_region 26 with (first | ((with_reducible refine gds (N := 96) rfl ?_); refine wpList_load_row rfl 30 (.tmp 14) rfl g14 ?hp 30 #[.slice A14 Z.length c14, .int .i64 z1, .int .i64 z2, .int .i64 z3, .int .i64 z4, .bool z5] (0, 0) _ ?hg Tryz.underlying30 ?ha ?hi ?_; (case hp => rfl); (case hg => exact H14.out); (case ha => rfl); (case hi => exact infoFs)) | (go_at_call 11; (with_reducible refine (laws_markFs.calls k10 (fun k => s14 ≤ k ∧ k ≠ g14 ∧ k ≠ g15) _ Z z1 z2 z3 z4 z5 1 m2 Z2 w _ HB.out V14.out H10h.out).mono ?_); rintro e w' ⟨rfl, hR, hb, hk⟩; have hs2 := Nat.le_trans NN.out.1 (Nat.le_of_lt (blt H14.out)); replace HA := Aside0.mk (blk_kept HA.out hk (fun (hs : s14 ≤ _ ∧ _ ≠ g14 ∧ _ ≠ g15) => by have := NN.out; omega)); replace HG := Aside0.mk (blk_kept HG.out hk (fun (hs : s14 ≤ _ ∧ _ ≠ g14 ∧ _ ≠ g15) => by have := NN.out; omega)); replace H10 := Aside0.mk (blk_kept H10.out hk (fun (hs : s14 ≤ _ ∧ _ ≠ g14 ∧ _ ≠ g15) => by have := NN.out; omega)); replace H11 := Aside0.mk (blk_kept H11.out hk (fun (hs : s14 ≤ _ ∧ _ ≠ g14 ∧ _ ≠ g15) => by have := NN.out; omega)); have h14' := blk_kept H14.out hk (fun hs => hs.2.1 rfl); replace H15 := Aside0.mk (blk_kept H15.out hk (fun hs => hs.2.2 rfl)); replace V10 := Aside0.mk (Kd.R_kept V10.out hk (fun k (h1 : k < s13) (h2 : s14 ≤ k ∧ k ≠ g14 ∧ k ≠ g15) => by have := NN.out; omega)); replace HB := Aside0.mk hb; obtain ⟨A', c', he⟩ := Kd.R_slice hR; injection he with e1 e2 e3; rw [e2] at h14' hR; replace H14 := Aside0.mk h14'; replace V14 := Aside0.mk (show Kd.R FileK 61 w' w.heap.size (fun k => s14 ≤ k) (.slice A14 Z2.length c14) Z2 from Kd.Rmo hR (fun k hk => hk.elim (fun h => h.1) (fun h => Nat.le_trans hs2 h))); clear hR hb hk hs2 e1 e2 e3 h14') | ((with_reducible refine gds (N := 99) rfl ?_); refine wpList_load_row rfl 30 (.tmp 14) rfl g14 ?hp 30 #[.slice A14 Z2.length c14, .int .i64 z1, .int .i64 z2, .int .i64 z3, .int .i64 z4, .bool z5] (0, 0) _ ?hg Tryz.underlying30 ?ha ?hi ?_; (case hp => rfl); (case hg => exact H14.out); (case ha => rfl); (case hi => exact infoFs)) | (go_at_call 12; (with_reducible refine (laws_heldFs.calls k11 A14 c14 Z2 z1 z2 z3 z4 z5 1 m2 _ (Kd.R_reads' V14.out).2.2 (Kd.R_reads' V14.out).2.1 H11h.out).mono ?_); rintro e w' ⟨rfl, hb⟩; replace HA := Aside0.mk (bbe HA.out hb); replace HG := Aside0.mk (bbe HG.out hb); replace H10 := Aside0.mk (bbe H10.out hb); replace H11 := Aside0.mk (bbe H11.out hb); replace H14 := Aside0.mk (bbe H14.out hb); replace H15 := Aside0.mk (bbe H15.out hb); replace V10 := Aside0.mk (Kd.Rbe V10.out hb); replace V14 := Aside0.mk (Kd.Rbe V14.out hb); replace HB := Aside0.mk (bst HB.out hb); clear hb))
      clear NN HE G13 N13 N1
      go_cut [20, 21, 22] from 23 (fun s20 s21 s22 W => ∃ (g20 g21 : Nat) (A20 : Option Addr) (c20 : Nat), s20 = .pointer (some ⟨g20, 0, none⟩) ∧ s21 = .pointer (some ⟨g21, 0, none⟩) ∧ s22 = .int .i64 y3 ∧ Below w.heap.size w W ∧ W.heap[g10]? = some (.cells #[.slice A10 Z.length c10, .int .i64 z1, .int .i64 z2, .int .i64 z3, .int .i64 z4, .bool z5] 30 (0, 0)) ∧ W.heap[g11]? = some (.cells #[.int .i64 y1, .int .i64 y2] 31 (0, 0)) ∧ W.heap[g14]? = some (.cells #[.slice A14 Z2.length c14, .int .i64 z1, .int .i64 z2, .int .i64 z3, .int .i64 z4, .bool z5] 30 (0, 0)) ∧ W.heap[g20]? = some (.cells #[.slice A20 Z.length c20, .int .i64 z1, .int .i64 z2, .int .i64 z3, .int .i64 z4, .bool z5] 30 (0, 0)) ∧ W.heap[g21]? = some (.cells #[.int .i64 y1, .int .i64 y2] 31 (0, 0)) ∧ Kd.R FileK 61 W w.heap.size (fun k => k < s13) (.slice A10 Z.length c10) Z ∧ Kd.R FileK 61 W w.heap.size (fun k => s14 ≤ k) (.slice A14 Z2.length c14) Z2 ∧ Kd.R FileK 61 W w.heap.size (fun _ => True) (.slice A20 Z.length c20) Z)
      case first => as_aux_lemma =>
        refine qs 16 (fun w' => w'.heap[ga]? = some (.cells #[.slice A l.length c, .int .i64 cap, .int .i64 cnt, .int .i64 cr, .int .i64 fa, .bool dn] 24 (0, 0)) ∧ w'.heap[gl]? = some (.cells #[.int .i64 last, .int .i64 size] 26 (0, 0))) (ds := []) ⟨HA.out, HG.out⟩ (fun hHeld => ?_)
        replace HA := Aside0.mk (bbe HA.out (bd1 (Below.refl _ _)))
        replace HG := Aside0.mk (bbe HG.out (bd1 (Below.refl _ _)))
        replace H10 := Aside0.mk (bbe H10.out (bd1 (Below.refl _ _)))
        replace H11 := Aside0.mk (bbe H11.out (bd1 (Below.refl _ _)))
        replace H14 := Aside0.mk (bbe H14.out (bd1 (Below.refl _ _)))
        replace H15 := Aside0.mk (bbe H15.out (bd1 (Below.refl _ _)))
        replace V10 := Aside0.mk (Kd.Rbe V10.out (bd1 (Below.refl _ _)))
        replace V14 := Aside0.mk (Kd.Rbe V14.out (bd1 (Below.refl _ _)))
        replace HB := Aside0.mk (bst HB.out (bd1 (Below.refl _ _)))
        refine qt 0 108 ?_ (hy := Or.inl ⟨by rfl, fun w' hS => exec_load_row 24 (.tmp 4) rfl ga rfl 24 #[.slice A l.length c, .int .i64 cap, .int .i64 cnt, .int .i64 cr, .int .i64 fa, .bool dn] hS.1 Tryz.underlying24 rfl infoLFs⟩)
        refine qt 2 110 ?_ (hy := Or.inl ⟨by rfl, fun w' hS => exec_load_row 26 (.tmp 5) rfl gl rfl 26 #[.int .i64 last, .int .i64 size] hS.2 Tryz.underlying26 rfl infoLLog⟩)
        refine qp 4 112 ?_
        refine qp 5 113 ?_
        refine q3 1 11 12 109 20 21 (fun K hK => ?_) (fun K hK => ?_) (fun K hK => ?_); rotate_left 3
        all_goals first
          | (refine slot_ 109 ?_; refine goes_ (N := some 109) Tryz.func6 (by kernel_rfl) rfl #[.agg #[.slice A l.length c, .int .i64 cap, .int .i64 cnt, .int .i64 cr, .int .i64 fa, .bool dn]] (by rfl) rfl rfl qA ?_; refine (laws_toFs.calls k2 A c l cap cnt cr fa dn _ _ _ _ _ _ _ (Kd.Cbe HR.out HB.out) HC.out H2.out).mono ?_; rintro e w' ⟨v, rfl, hv, hb⟩; obtain ⟨AL, cL, rfl⟩ := Kd.R_slice hv; have hlo := HB.out.size; (try replace HA := Aside0.mk (bbe HA.out hb)); (try replace HG := Aside0.mk (bbe HG.out hb)); (try replace H10 := Aside0.mk (bbe H10.out hb)); (try replace H11 := Aside0.mk (bbe H11.out hb)); (try replace H14 := Aside0.mk (bbe H14.out hb)); (try replace H15 := Aside0.mk (bbe H15.out hb)); (try replace H20 := Aside0.mk (bbe H20.out hb)); (try replace H21 := Aside0.mk (bbe H21.out hb)); (try replace VL := Aside0.mk (Kd.Rbe VL.out hb)); (try replace V10 := Aside0.mk (Kd.Rbe V10.out hb)); (try replace V14 := Aside0.mk (Kd.Rbe V14.out hb)); (try replace V20 := Aside0.mk (Kd.Rbe V20.out hb)); replace HB := Aside0.mk (bst HB.out hb); have VL := Aside0.mk (Kd.Rlo hv hlo); clear hv hlo; clear hb; refine ⟨_, rfl, ?_⟩; refine hK.out _ _ ⟨HA.out, HG.out⟩ (fun hHeld => ?_); clear hK K; refine norm_ (a' := ?_) ?_ ?_; rotate_left; (show Act.put _ (some 109) _ = _; simp only [Act.put, List.setIfInBounds_toArray, List.set_cons_zero, List.set_cons_succ, i64_w, i32_w]; rfl))
          | (refine slot_ 20 ?_; refine bxs ?hg (N := 20) ?hd (cs := #[.slice none 0 0, .int .i64 0, .int .i64 0, .int .i64 0, .int .i64 0, .bool false]) (t := 30) ?hr ?_; (case hd => rfl); (case hg => rfl); (case hr => first | (go_simp; done) | (go_simp; rfl)); intro g20 hg w' hbox hb; have G20 := Aside0.mk (Nat.le_trans HB.out.size (Nat.le_of_eq hg.symm)); have N20 := Aside0.mk (show g10 < g20 ∧ g14 < g20 from ⟨hg ▸ blt H10.out, hg ▸ blt H14.out⟩); (try replace HA := Aside0.mk (bbe HA.out hb)); (try replace HG := Aside0.mk (bbe HG.out hb)); (try replace H10 := Aside0.mk (bbe H10.out hb)); (try replace H11 := Aside0.mk (bbe H11.out hb)); (try replace H14 := Aside0.mk (bbe H14.out hb)); (try replace H15 := Aside0.mk (bbe H15.out hb)); (try replace H20 := Aside0.mk (bbe H20.out hb)); (try replace H21 := Aside0.mk (bbe H21.out hb)); (try replace VL := Aside0.mk (Kd.Rbe VL.out hb)); (try replace V10 := Aside0.mk (Kd.Rbe V10.out hb)); (try replace V14 := Aside0.mk (Kd.Rbe V14.out hb)); (try replace V20 := Aside0.mk (Kd.Rbe V20.out hb)); replace HB := Aside0.mk (bst HB.out hb); have H20 := Aside0.mk hbox; clear hb hbox hg; refine hK.out _ _ ⟨HA.out, HG.out⟩ (fun hHeld => ?_); clear hK K; refine norm_ (a' := ?_) ?_ ?_; rotate_left; (show Act.put _ (some 20) _ = _; simp only [Act.put, List.setIfInBounds_toArray, List.set_cons_zero, List.set_cons_succ, i64_w, i32_w]; rfl))
          | (refine slot_ 21 ?_; refine bxs ?hg (N := 21) ?hd (cs := #[.int .i64 0, .int .i64 0]) (t := 31) ?hr ?_; (case hd => rfl); (case hg => rfl); (case hr => first | (go_simp; done) | (go_simp; rfl)); intro g21 hg w' hbox hb; have G21 := Aside0.mk (Nat.le_trans HB.out.size (Nat.le_of_eq hg.symm)); have N21 := Aside0.mk (show g11 < g21 ∧ g15 < g21 from ⟨hg ▸ blt H11.out, hg ▸ blt H15.out⟩); (try replace HA := Aside0.mk (bbe HA.out hb)); (try replace HG := Aside0.mk (bbe HG.out hb)); (try replace H10 := Aside0.mk (bbe H10.out hb)); (try replace H11 := Aside0.mk (bbe H11.out hb)); (try replace H14 := Aside0.mk (bbe H14.out hb)); (try replace H15 := Aside0.mk (bbe H15.out hb)); (try replace H20 := Aside0.mk (bbe H20.out hb)); (try replace H21 := Aside0.mk (bbe H21.out hb)); (try replace VL := Aside0.mk (Kd.Rbe VL.out hb)); (try replace V10 := Aside0.mk (Kd.Rbe V10.out hb)); (try replace V14 := Aside0.mk (Kd.Rbe V14.out hb)); (try replace V20 := Aside0.mk (Kd.Rbe V20.out hb)); replace HB := Aside0.mk (bst HB.out hb); have H21 := Aside0.mk hbox; clear hb hbox hg; refine hK.out _ _ ⟨HA.out, HG.out⟩ (fun hHeld => ?_); clear hK K; refine norm_ (a' := ?_) ?_ ?_; rotate_left; (show Act.put _ (some 21) _ = _; simp only [Act.put, List.setIfInBounds_toArray, List.set_cons_zero, List.set_cons_succ, i64_w, i32_w]; rfl))
        refine q3 3 11 12 111 20 21 (fun K hK => ?_) (fun K hK => ?_) (fun K hK => ?_); rotate_left 3
        refine q2 1 12 109 21 (fun K hK => ?_) (fun K hK => ?_); rotate_left 2
        refine q2 1 11 109 20 (fun K hK => ?_) (fun K hK => ?_); rotate_left 2
        all_goals first
          | (refine slot_ 111 ?_; refine goes_ (N := some 111) Tryz.func7 (by kernel_rfl) rfl #[.agg #[.int .i64 last, .int .i64 size]] (by rfl) rfl rfl qA ?_; refine (laws_toLog.calls last size p q _ H3.out).mono ?_; rintro e w' ⟨rfl, hb⟩; (try replace HA := Aside0.mk (bbe HA.out hb)); (try replace HG := Aside0.mk (bbe HG.out hb)); (try replace H10 := Aside0.mk (bbe H10.out hb)); (try replace H11 := Aside0.mk (bbe H11.out hb)); (try replace H14 := Aside0.mk (bbe H14.out hb)); (try replace H15 := Aside0.mk (bbe H15.out hb)); (try replace H20 := Aside0.mk (bbe H20.out hb)); (try replace H21 := Aside0.mk (bbe H21.out hb)); (try replace VL := Aside0.mk (Kd.Rbe VL.out hb)); (try replace V10 := Aside0.mk (Kd.Rbe V10.out hb)); (try replace V14 := Aside0.mk (Kd.Rbe V14.out hb)); (try replace V20 := Aside0.mk (Kd.Rbe V20.out hb)); replace HB := Aside0.mk (bst HB.out hb); clear hb; refine ⟨_, rfl, ?_⟩; refine hK.out _ _ ⟨HA.out, HG.out⟩ (fun hHeld => ?_); clear hK K; refine norm_ (a' := ?_) ?_ ?_; rotate_left; (show Act.put _ (some 111) _ = _; simp only [Act.put, List.setIfInBounds_toArray, List.set_cons_zero, List.set_cons_succ, i64_w, i32_w]; rfl))
          | (refine slot_ 20 ?_; refine bxs ?hg (N := 20) ?hd (cs := #[.slice none 0 0, .int .i64 0, .int .i64 0, .int .i64 0, .int .i64 0, .bool false]) (t := 30) ?hr ?_; (case hd => rfl); (case hg => rfl); (case hr => first | (go_simp; done) | (go_simp; rfl)); intro g20 hg w' hbox hb; have G20 := Aside0.mk (Nat.le_trans HB.out.size (Nat.le_of_eq hg.symm)); have N20 := Aside0.mk (show g10 < g20 ∧ g14 < g20 from ⟨hg ▸ blt H10.out, hg ▸ blt H14.out⟩); (try replace HA := Aside0.mk (bbe HA.out hb)); (try replace HG := Aside0.mk (bbe HG.out hb)); (try replace H10 := Aside0.mk (bbe H10.out hb)); (try replace H11 := Aside0.mk (bbe H11.out hb)); (try replace H14 := Aside0.mk (bbe H14.out hb)); (try replace H15 := Aside0.mk (bbe H15.out hb)); (try replace H20 := Aside0.mk (bbe H20.out hb)); (try replace H21 := Aside0.mk (bbe H21.out hb)); (try replace VL := Aside0.mk (Kd.Rbe VL.out hb)); (try replace V10 := Aside0.mk (Kd.Rbe V10.out hb)); (try replace V14 := Aside0.mk (Kd.Rbe V14.out hb)); (try replace V20 := Aside0.mk (Kd.Rbe V20.out hb)); replace HB := Aside0.mk (bst HB.out hb); have H20 := Aside0.mk hbox; clear hb hbox hg; refine hK.out _ _ ⟨HA.out, HG.out⟩ (fun hHeld => ?_); clear hK K; refine norm_ (a' := ?_) ?_ ?_; rotate_left; (show Act.put _ (some 20) _ = _; simp only [Act.put, List.setIfInBounds_toArray, List.set_cons_zero, List.set_cons_succ, i64_w, i32_w]; rfl))
          | (refine slot_ 21 ?_; refine bxs ?hg (N := 21) ?hd (cs := #[.int .i64 0, .int .i64 0]) (t := 31) ?hr ?_; (case hd => rfl); (case hg => rfl); (case hr => first | (go_simp; done) | (go_simp; rfl)); intro g21 hg w' hbox hb; have G21 := Aside0.mk (Nat.le_trans HB.out.size (Nat.le_of_eq hg.symm)); have N21 := Aside0.mk (show g11 < g21 ∧ g15 < g21 from ⟨hg ▸ blt H11.out, hg ▸ blt H15.out⟩); (try replace HA := Aside0.mk (bbe HA.out hb)); (try replace HG := Aside0.mk (bbe HG.out hb)); (try replace H10 := Aside0.mk (bbe H10.out hb)); (try replace H11 := Aside0.mk (bbe H11.out hb)); (try replace H14 := Aside0.mk (bbe H14.out hb)); (try replace H15 := Aside0.mk (bbe H15.out hb)); (try replace H20 := Aside0.mk (bbe H20.out hb)); (try replace H21 := Aside0.mk (bbe H21.out hb)); (try replace VL := Aside0.mk (Kd.Rbe VL.out hb)); (try replace V10 := Aside0.mk (Kd.Rbe V10.out hb)); (try replace V14 := Aside0.mk (Kd.Rbe V14.out hb)); (try replace V20 := Aside0.mk (Kd.Rbe V20.out hb)); replace HB := Aside0.mk (bst HB.out hb); have H21 := Aside0.mk hbox; clear hb hbox hg; refine hK.out _ _ ⟨HA.out, HG.out⟩ (fun hHeld => ?_); clear hK K; refine norm_ (a' := ?_) ?_ ?_; rotate_left; (show Act.put _ (some 21) _ = _; simp only [Act.put, List.setIfInBounds_toArray, List.set_cons_zero, List.set_cons_succ, i64_w, i32_w]; rfl))
          | (refine slot_ 109 ?_; refine goes_ (N := some 109) Tryz.func6 (by kernel_rfl) rfl #[.agg #[.slice A l.length c, .int .i64 cap, .int .i64 cnt, .int .i64 cr, .int .i64 fa, .bool dn]] (by rfl) rfl rfl qA ?_; refine (laws_toFs.calls k2 A c l cap cnt cr fa dn _ _ _ _ _ _ _ (Kd.Cbe HR.out HB.out) HC.out H2.out).mono ?_; rintro e w' ⟨v, rfl, hv, hb⟩; obtain ⟨AL, cL, rfl⟩ := Kd.R_slice hv; have hlo := HB.out.size; (try replace HA := Aside0.mk (bbe HA.out hb)); (try replace HG := Aside0.mk (bbe HG.out hb)); (try replace H10 := Aside0.mk (bbe H10.out hb)); (try replace H11 := Aside0.mk (bbe H11.out hb)); (try replace H14 := Aside0.mk (bbe H14.out hb)); (try replace H15 := Aside0.mk (bbe H15.out hb)); (try replace H20 := Aside0.mk (bbe H20.out hb)); (try replace H21 := Aside0.mk (bbe H21.out hb)); (try replace VL := Aside0.mk (Kd.Rbe VL.out hb)); (try replace V10 := Aside0.mk (Kd.Rbe V10.out hb)); (try replace V14 := Aside0.mk (Kd.Rbe V14.out hb)); (try replace V20 := Aside0.mk (Kd.Rbe V20.out hb)); replace HB := Aside0.mk (bst HB.out hb); have VL := Aside0.mk (Kd.Rlo hv hlo); clear hv hlo; clear hb; refine ⟨_, rfl, ?_⟩; refine hK.out _ _ ⟨HA.out, HG.out⟩ (fun hHeld => ?_); clear hK K; refine norm_ (a' := ?_) ?_ ?_; rotate_left; (show Act.put _ (some 109) _ = _; simp only [Act.put, List.setIfInBounds_toArray, List.set_cons_zero, List.set_cons_succ, i64_w, i32_w]; rfl))
        refine q3 6 11 12 114 20 21 (fun K hK => ?_) (fun K hK => ?_) (fun K hK => ?_); rotate_left 3
        refine q2 3 12 111 21 (fun K hK => ?_) (fun K hK => ?_); rotate_left 2
        refine q2 3 11 111 20 (fun K hK => ?_) (fun K hK => ?_); rotate_left 2
        refine q2 3 12 111 21 (fun K hK => ?_) (fun K hK => ?_); rotate_left 2
        refine qo 1 109 (fun K hK => ?_); rotate_left 1
        refine q2 3 11 111 20 (fun K hK => ?_) (fun K hK => ?_); rotate_left 2
        refine qo 1 109 (fun K hK => ?_); rotate_left 1
        all_goals first
          | (refine slot_ 114 ?_; refine goes_ (N := some 114) Tryz.func8 (by kernel_rfl) rfl #[.agg #[.slice AL L.length cL, .int .i64 b1, .int .i64 b2, .int .i64 b3, .int .i64 b4, .bool b5], .agg #[.int .i64 p, .int .i64 q], .string entry, .int .i64 most] (by rfl) rfl rfl qA ?_; refine (impl_AppendEntry.calls k5 AL cL L b1 b2 b3 b4 b5 p q entry most _ _ _ _ _ _ _ _ _ _ (HGK.out.below HB.out) (Kd.R_reads' VL.out).2.2 (Kd.R_reads' VL.out).2.1 H5.out).mono ?_; rintro e w' ⟨v, rfl, hv, hb⟩; obtain ⟨A20, c20, rfl⟩ := Kd.R_slice hv; have hlo := HB.out.size; (try replace HA := Aside0.mk (bbe HA.out hb)); (try replace HG := Aside0.mk (bbe HG.out hb)); (try replace H10 := Aside0.mk (bbe H10.out hb)); (try replace H11 := Aside0.mk (bbe H11.out hb)); (try replace H14 := Aside0.mk (bbe H14.out hb)); (try replace H15 := Aside0.mk (bbe H15.out hb)); (try replace H20 := Aside0.mk (bbe H20.out hb)); (try replace H21 := Aside0.mk (bbe H21.out hb)); (try replace VL := Aside0.mk (Kd.Rbe VL.out hb)); (try replace V10 := Aside0.mk (Kd.Rbe V10.out hb)); (try replace V14 := Aside0.mk (Kd.Rbe V14.out hb)); (try replace V20 := Aside0.mk (Kd.Rbe V20.out hb)); replace HB := Aside0.mk (bst HB.out hb); have V20 := Aside0.mk (Kd.Rlo hv hlo); clear hv hlo; clear hb; refine ⟨_, rfl, ?_⟩; refine hK.out _ _ ⟨HA.out, HG.out⟩ (fun hHeld => ?_); clear hK K; refine norm_ (a' := ?_) ?_ ?_; rotate_left; (show Act.put _ (some 114) _ = _; simp only [Act.put, List.setIfInBounds_toArray, List.set_cons_zero, List.set_cons_succ, i64_w, i32_w]; rfl))
          | (refine slot_ 20 ?_; refine bxs ?hg (N := 20) ?hd (cs := #[.slice none 0 0, .int .i64 0, .int .i64 0, .int .i64 0, .int .i64 0, .bool false]) (t := 30) ?hr ?_; (case hd => rfl); (case hg => rfl); (case hr => first | (go_simp; done) | (go_simp; rfl)); intro g20 hg w' hbox hb; have G20 := Aside0.mk (Nat.le_trans HB.out.size (Nat.le_of_eq hg.symm)); have N20 := Aside0.mk (show g10 < g20 ∧ g14 < g20 from ⟨hg ▸ blt H10.out, hg ▸ blt H14.out⟩); (try replace HA := Aside0.mk (bbe HA.out hb)); (try replace HG := Aside0.mk (bbe HG.out hb)); (try replace H10 := Aside0.mk (bbe H10.out hb)); (try replace H11 := Aside0.mk (bbe H11.out hb)); (try replace H14 := Aside0.mk (bbe H14.out hb)); (try replace H15 := Aside0.mk (bbe H15.out hb)); (try replace H20 := Aside0.mk (bbe H20.out hb)); (try replace H21 := Aside0.mk (bbe H21.out hb)); (try replace VL := Aside0.mk (Kd.Rbe VL.out hb)); (try replace V10 := Aside0.mk (Kd.Rbe V10.out hb)); (try replace V14 := Aside0.mk (Kd.Rbe V14.out hb)); (try replace V20 := Aside0.mk (Kd.Rbe V20.out hb)); replace HB := Aside0.mk (bst HB.out hb); have H20 := Aside0.mk hbox; clear hb hbox hg; refine hK.out _ _ ⟨HA.out, HG.out⟩ (fun hHeld => ?_); clear hK K; refine norm_ (a' := ?_) ?_ ?_; rotate_left; (show Act.put _ (some 20) _ = _; simp only [Act.put, List.setIfInBounds_toArray, List.set_cons_zero, List.set_cons_succ, i64_w, i32_w]; rfl))
          | (refine slot_ 21 ?_; refine bxs ?hg (N := 21) ?hd (cs := #[.int .i64 0, .int .i64 0]) (t := 31) ?hr ?_; (case hd => rfl); (case hg => rfl); (case hr => first | (go_simp; done) | (go_simp; rfl)); intro g21 hg w' hbox hb; have G21 := Aside0.mk (Nat.le_trans HB.out.size (Nat.le_of_eq hg.symm)); have N21 := Aside0.mk (show g11 < g21 ∧ g15 < g21 from ⟨hg ▸ blt H11.out, hg ▸ blt H15.out⟩); (try replace HA := Aside0.mk (bbe HA.out hb)); (try replace HG := Aside0.mk (bbe HG.out hb)); (try replace H10 := Aside0.mk (bbe H10.out hb)); (try replace H11 := Aside0.mk (bbe H11.out hb)); (try replace H14 := Aside0.mk (bbe H14.out hb)); (try replace H15 := Aside0.mk (bbe H15.out hb)); (try replace H20 := Aside0.mk (bbe H20.out hb)); (try replace H21 := Aside0.mk (bbe H21.out hb)); (try replace VL := Aside0.mk (Kd.Rbe VL.out hb)); (try replace V10 := Aside0.mk (Kd.Rbe V10.out hb)); (try replace V14 := Aside0.mk (Kd.Rbe V14.out hb)); (try replace V20 := Aside0.mk (Kd.Rbe V20.out hb)); replace HB := Aside0.mk (bst HB.out hb); have H21 := Aside0.mk hbox; clear hb hbox hg; refine hK.out _ _ ⟨HA.out, HG.out⟩ (fun hHeld => ?_); clear hK K; refine norm_ (a' := ?_) ?_ ?_; rotate_left; (show Act.put _ (some 21) _ = _; simp only [Act.put, List.setIfInBounds_toArray, List.set_cons_zero, List.set_cons_succ, i64_w, i32_w]; rfl))
          | (refine slot_ 111 ?_; refine goes_ (N := some 111) Tryz.func7 (by kernel_rfl) rfl #[.agg #[.int .i64 last, .int .i64 size]] (by rfl) rfl rfl qA ?_; refine (laws_toLog.calls last size p q _ H3.out).mono ?_; rintro e w' ⟨rfl, hb⟩; (try replace HA := Aside0.mk (bbe HA.out hb)); (try replace HG := Aside0.mk (bbe HG.out hb)); (try replace H10 := Aside0.mk (bbe H10.out hb)); (try replace H11 := Aside0.mk (bbe H11.out hb)); (try replace H14 := Aside0.mk (bbe H14.out hb)); (try replace H15 := Aside0.mk (bbe H15.out hb)); (try replace H20 := Aside0.mk (bbe H20.out hb)); (try replace H21 := Aside0.mk (bbe H21.out hb)); (try replace VL := Aside0.mk (Kd.Rbe VL.out hb)); (try replace V10 := Aside0.mk (Kd.Rbe V10.out hb)); (try replace V14 := Aside0.mk (Kd.Rbe V14.out hb)); (try replace V20 := Aside0.mk (Kd.Rbe V20.out hb)); replace HB := Aside0.mk (bst HB.out hb); clear hb; refine ⟨_, rfl, ?_⟩; refine hK.out _ _ ⟨HA.out, HG.out⟩ (fun hHeld => ?_); clear hK K; refine norm_ (a' := ?_) ?_ ?_; rotate_left; (show Act.put _ (some 111) _ = _; simp only [Act.put, List.setIfInBounds_toArray, List.set_cons_zero, List.set_cons_succ, i64_w, i32_w]; rfl))
          | (refine slot_ 109 ?_; refine goes_ (N := some 109) Tryz.func6 (by kernel_rfl) rfl #[.agg #[.slice A l.length c, .int .i64 cap, .int .i64 cnt, .int .i64 cr, .int .i64 fa, .bool dn]] (by rfl) rfl rfl qA ?_; refine (laws_toFs.calls k2 A c l cap cnt cr fa dn _ _ _ _ _ _ _ (Kd.Cbe HR.out HB.out) HC.out H2.out).mono ?_; rintro e w' ⟨v, rfl, hv, hb⟩; obtain ⟨AL, cL, rfl⟩ := Kd.R_slice hv; have hlo := HB.out.size; (try replace HA := Aside0.mk (bbe HA.out hb)); (try replace HG := Aside0.mk (bbe HG.out hb)); (try replace H10 := Aside0.mk (bbe H10.out hb)); (try replace H11 := Aside0.mk (bbe H11.out hb)); (try replace H14 := Aside0.mk (bbe H14.out hb)); (try replace H15 := Aside0.mk (bbe H15.out hb)); (try replace H20 := Aside0.mk (bbe H20.out hb)); (try replace H21 := Aside0.mk (bbe H21.out hb)); (try replace VL := Aside0.mk (Kd.Rbe VL.out hb)); (try replace V10 := Aside0.mk (Kd.Rbe V10.out hb)); (try replace V14 := Aside0.mk (Kd.Rbe V14.out hb)); (try replace V20 := Aside0.mk (Kd.Rbe V20.out hb)); replace HB := Aside0.mk (bst HB.out hb); have VL := Aside0.mk (Kd.Rlo hv hlo); clear hv hlo; clear hb; refine ⟨_, rfl, ?_⟩; refine hK.out _ _ ⟨HA.out, HG.out⟩ (fun hHeld => ?_); clear hK K; refine norm_ (a' := ?_) ?_ ?_; rotate_left; (show Act.put _ (some 109) _ = _; simp only [Act.put, List.setIfInBounds_toArray, List.set_cons_zero, List.set_cons_succ, i64_w, i32_w]; rfl))
        refine qp 7 107 ?_; refine qp 8 115 ?_; refine qp 9 116 ?_; refine qp 10 117 ?_; refine q2 11 12 20 21 (fun K hK => ?_) (fun K hK => ?_); rotate_left 2
        refine q2 6 12 114 21 (fun K hK => ?_) (fun K hK => ?_); rotate_left 2
        refine q2 6 11 114 20 (fun K hK => ?_) (fun K hK => ?_); rotate_left 2
        refine q2 6 12 114 21 (fun K hK => ?_) (fun K hK => ?_); rotate_left 2
        refine qo 3 111 (fun K hK => ?_); rotate_left 1
        refine q2 6 11 114 20 (fun K hK => ?_) (fun K hK => ?_); rotate_left 2
        refine qo 3 111 (fun K hK => ?_); rotate_left 1
        refine q2 6 12 114 21 (fun K hK => ?_) (fun K hK => ?_); rotate_left 2
        refine qo 3 111 (fun K hK => ?_); rotate_left 1
        refine qo 3 111 (fun K hK => ?_); rotate_left 1
        refine q2 6 11 114 20 (fun K hK => ?_) (fun K hK => ?_); rotate_left 2
        refine qo 3 111 (fun K hK => ?_); rotate_left 1
        refine qo 3 111 (fun K hK => ?_); rotate_left 1
        all_goals first
          | (refine slot_ 20 ?_; refine bxs ?hg (N := 20) ?hd (cs := #[.slice none 0 0, .int .i64 0, .int .i64 0, .int .i64 0, .int .i64 0, .bool false]) (t := 30) ?hr ?_; (case hd => rfl); (case hg => rfl); (case hr => first | (go_simp; done) | (go_simp; rfl)); intro g20 hg w' hbox hb; have G20 := Aside0.mk (Nat.le_trans HB.out.size (Nat.le_of_eq hg.symm)); have N20 := Aside0.mk (show g10 < g20 ∧ g14 < g20 from ⟨hg ▸ blt H10.out, hg ▸ blt H14.out⟩); (try replace HA := Aside0.mk (bbe HA.out hb)); (try replace HG := Aside0.mk (bbe HG.out hb)); (try replace H10 := Aside0.mk (bbe H10.out hb)); (try replace H11 := Aside0.mk (bbe H11.out hb)); (try replace H14 := Aside0.mk (bbe H14.out hb)); (try replace H15 := Aside0.mk (bbe H15.out hb)); (try replace H20 := Aside0.mk (bbe H20.out hb)); (try replace H21 := Aside0.mk (bbe H21.out hb)); (try replace VL := Aside0.mk (Kd.Rbe VL.out hb)); (try replace V10 := Aside0.mk (Kd.Rbe V10.out hb)); (try replace V14 := Aside0.mk (Kd.Rbe V14.out hb)); (try replace V20 := Aside0.mk (Kd.Rbe V20.out hb)); replace HB := Aside0.mk (bst HB.out hb); have H20 := Aside0.mk hbox; clear hb hbox hg; refine hK.out _ _ ⟨HA.out, HG.out⟩ (fun hHeld => ?_); clear hK K; refine norm_ (a' := ?_) ?_ ?_; rotate_left; (show Act.put _ (some 20) _ = _; simp only [Act.put, List.setIfInBounds_toArray, List.set_cons_zero, List.set_cons_succ, i64_w, i32_w]; rfl))
          | (refine slot_ 21 ?_; refine bxs ?hg (N := 21) ?hd (cs := #[.int .i64 0, .int .i64 0]) (t := 31) ?hr ?_; (case hd => rfl); (case hg => rfl); (case hr => first | (go_simp; done) | (go_simp; rfl)); intro g21 hg w' hbox hb; have G21 := Aside0.mk (Nat.le_trans HB.out.size (Nat.le_of_eq hg.symm)); have N21 := Aside0.mk (show g11 < g21 ∧ g15 < g21 from ⟨hg ▸ blt H11.out, hg ▸ blt H15.out⟩); (try replace HA := Aside0.mk (bbe HA.out hb)); (try replace HG := Aside0.mk (bbe HG.out hb)); (try replace H10 := Aside0.mk (bbe H10.out hb)); (try replace H11 := Aside0.mk (bbe H11.out hb)); (try replace H14 := Aside0.mk (bbe H14.out hb)); (try replace H15 := Aside0.mk (bbe H15.out hb)); (try replace H20 := Aside0.mk (bbe H20.out hb)); (try replace H21 := Aside0.mk (bbe H21.out hb)); (try replace VL := Aside0.mk (Kd.Rbe VL.out hb)); (try replace V10 := Aside0.mk (Kd.Rbe V10.out hb)); (try replace V14 := Aside0.mk (Kd.Rbe V14.out hb)); (try replace V20 := Aside0.mk (Kd.Rbe V20.out hb)); replace HB := Aside0.mk (bst HB.out hb); have H21 := Aside0.mk hbox; clear hb hbox hg; refine hK.out _ _ ⟨HA.out, HG.out⟩ (fun hHeld => ?_); clear hK K; refine norm_ (a' := ?_) ?_ ?_; rotate_left; (show Act.put _ (some 21) _ = _; simp only [Act.put, List.setIfInBounds_toArray, List.set_cons_zero, List.set_cons_succ, i64_w, i32_w]; rfl))
          | (refine slot_ 114 ?_; refine goes_ (N := some 114) Tryz.func8 (by kernel_rfl) rfl #[.agg #[.slice AL L.length cL, .int .i64 b1, .int .i64 b2, .int .i64 b3, .int .i64 b4, .bool b5], .agg #[.int .i64 p, .int .i64 q], .string entry, .int .i64 most] (by rfl) rfl rfl qA ?_; refine (impl_AppendEntry.calls k5 AL cL L b1 b2 b3 b4 b5 p q entry most _ _ _ _ _ _ _ _ _ _ (HGK.out.below HB.out) (Kd.R_reads' VL.out).2.2 (Kd.R_reads' VL.out).2.1 H5.out).mono ?_; rintro e w' ⟨v, rfl, hv, hb⟩; obtain ⟨A20, c20, rfl⟩ := Kd.R_slice hv; have hlo := HB.out.size; (try replace HA := Aside0.mk (bbe HA.out hb)); (try replace HG := Aside0.mk (bbe HG.out hb)); (try replace H10 := Aside0.mk (bbe H10.out hb)); (try replace H11 := Aside0.mk (bbe H11.out hb)); (try replace H14 := Aside0.mk (bbe H14.out hb)); (try replace H15 := Aside0.mk (bbe H15.out hb)); (try replace H20 := Aside0.mk (bbe H20.out hb)); (try replace H21 := Aside0.mk (bbe H21.out hb)); (try replace VL := Aside0.mk (Kd.Rbe VL.out hb)); (try replace V10 := Aside0.mk (Kd.Rbe V10.out hb)); (try replace V14 := Aside0.mk (Kd.Rbe V14.out hb)); (try replace V20 := Aside0.mk (Kd.Rbe V20.out hb)); replace HB := Aside0.mk (bst HB.out hb); have V20 := Aside0.mk (Kd.Rlo hv hlo); clear hv hlo; clear hb; refine ⟨_, rfl, ?_⟩; refine hK.out _ _ ⟨HA.out, HG.out⟩ (fun hHeld => ?_); clear hK K; refine norm_ (a' := ?_) ?_ ?_; rotate_left; (show Act.put _ (some 114) _ = _; simp only [Act.put, List.setIfInBounds_toArray, List.set_cons_zero, List.set_cons_succ, i64_w, i32_w]; rfl))
          | (refine slot_ 111 ?_; refine goes_ (N := some 111) Tryz.func7 (by kernel_rfl) rfl #[.agg #[.int .i64 last, .int .i64 size]] (by rfl) rfl rfl qA ?_; refine (laws_toLog.calls last size p q _ H3.out).mono ?_; rintro e w' ⟨rfl, hb⟩; (try replace HA := Aside0.mk (bbe HA.out hb)); (try replace HG := Aside0.mk (bbe HG.out hb)); (try replace H10 := Aside0.mk (bbe H10.out hb)); (try replace H11 := Aside0.mk (bbe H11.out hb)); (try replace H14 := Aside0.mk (bbe H14.out hb)); (try replace H15 := Aside0.mk (bbe H15.out hb)); (try replace H20 := Aside0.mk (bbe H20.out hb)); (try replace H21 := Aside0.mk (bbe H21.out hb)); (try replace VL := Aside0.mk (Kd.Rbe VL.out hb)); (try replace V10 := Aside0.mk (Kd.Rbe V10.out hb)); (try replace V14 := Aside0.mk (Kd.Rbe V14.out hb)); (try replace V20 := Aside0.mk (Kd.Rbe V20.out hb)); replace HB := Aside0.mk (bst HB.out hb); clear hb; refine ⟨_, rfl, ?_⟩; refine hK.out _ _ ⟨HA.out, HG.out⟩ (fun hHeld => ?_); clear hK K; refine norm_ (a' := ?_) ?_ ?_; rotate_left; (show Act.put _ (some 111) _ = _; simp only [Act.put, List.setIfInBounds_toArray, List.set_cons_zero, List.set_cons_succ, i64_w, i32_w]; rfl))
        refine qo 12 21 (fun K hK => ?_); rotate_left 1
        refine qo 11 20 (fun K hK => ?_); rotate_left 1
        refine qp 7 107 ?_; refine qp 8 115 ?_; refine qp 9 116 ?_; refine qp 10 117 ?_; refine qo 12 21 (fun K hK => ?_); rotate_left 1
        refine qo 6 114 (fun K hK => ?_); rotate_left 1
        refine qp 7 107 ?_; refine qp 8 115 ?_; refine qp 9 116 ?_; refine qp 10 117 ?_; refine qo 11 20 (fun K hK => ?_); rotate_left 1
        refine qo 6 114 (fun K hK => ?_); rotate_left 1
        refine qp 7 107 ?_; refine qp 8 115 ?_; refine qp 9 116 ?_; refine qp 10 117 ?_; refine qo 12 21 (fun K hK => ?_); rotate_left 1
        refine qo 6 114 (fun K hK => ?_); rotate_left 1
        refine qo 6 114 (fun K hK => ?_); rotate_left 1
        refine qp 7 107 ?_; refine qp 8 115 ?_; refine qp 9 116 ?_; refine qp 10 117 ?_; refine qo 11 20 (fun K hK => ?_); rotate_left 1
        refine qo 6 114 (fun K hK => ?_); rotate_left 1
        refine qo 6 114 (fun K hK => ?_); rotate_left 1
        refine qp 7 107 ?_; refine qp 8 115 ?_; refine qp 9 116 ?_; refine qp 10 117 ?_; refine qo 12 21 (fun K hK => ?_); rotate_left 1
        refine qo 6 114 (fun K hK => ?_); rotate_left 1
        refine qo 6 114 (fun K hK => ?_); rotate_left 1
        refine qo 6 114 (fun K hK => ?_); rotate_left 1
        refine qp 7 107 ?_; refine qp 8 115 ?_; refine qp 9 116 ?_; refine qp 10 117 ?_; refine qo 11 20 (fun K hK => ?_); rotate_left 1
        refine qo 6 114 (fun K hK => ?_); rotate_left 1
        refine qo 6 114 (fun K hK => ?_); rotate_left 1
        refine qo 6 114 (fun K hK => ?_); rotate_left 1
        all_goals first
          | (refine slot_ 21 ?_; refine bxs ?hg (N := 21) ?hd (cs := #[.int .i64 0, .int .i64 0]) (t := 31) ?hr ?_; (case hd => rfl); (case hg => rfl); (case hr => first | (go_simp; done) | (go_simp; rfl)); intro g21 hg w' hbox hb; have G21 := Aside0.mk (Nat.le_trans HB.out.size (Nat.le_of_eq hg.symm)); have N21 := Aside0.mk (show g11 < g21 ∧ g15 < g21 from ⟨hg ▸ blt H11.out, hg ▸ blt H15.out⟩); (try replace HA := Aside0.mk (bbe HA.out hb)); (try replace HG := Aside0.mk (bbe HG.out hb)); (try replace H10 := Aside0.mk (bbe H10.out hb)); (try replace H11 := Aside0.mk (bbe H11.out hb)); (try replace H14 := Aside0.mk (bbe H14.out hb)); (try replace H15 := Aside0.mk (bbe H15.out hb)); (try replace H20 := Aside0.mk (bbe H20.out hb)); (try replace H21 := Aside0.mk (bbe H21.out hb)); (try replace VL := Aside0.mk (Kd.Rbe VL.out hb)); (try replace V10 := Aside0.mk (Kd.Rbe V10.out hb)); (try replace V14 := Aside0.mk (Kd.Rbe V14.out hb)); (try replace V20 := Aside0.mk (Kd.Rbe V20.out hb)); replace HB := Aside0.mk (bst HB.out hb); have H21 := Aside0.mk hbox; clear hb hbox hg; refine hK.out _ _ ⟨HA.out, HG.out⟩ (fun hHeld => ?_); clear hK K; refine norm_ (a' := ?_) ?_ ?_; rotate_left; (show Act.put _ (some 21) _ = _; simp only [Act.put, List.setIfInBounds_toArray, List.set_cons_zero, List.set_cons_succ, i64_w, i32_w]; rfl))
          | (refine slot_ 20 ?_; refine bxs ?hg (N := 20) ?hd (cs := #[.slice none 0 0, .int .i64 0, .int .i64 0, .int .i64 0, .int .i64 0, .bool false]) (t := 30) ?hr ?_; (case hd => rfl); (case hg => rfl); (case hr => first | (go_simp; done) | (go_simp; rfl)); intro g20 hg w' hbox hb; have G20 := Aside0.mk (Nat.le_trans HB.out.size (Nat.le_of_eq hg.symm)); have N20 := Aside0.mk (show g10 < g20 ∧ g14 < g20 from ⟨hg ▸ blt H10.out, hg ▸ blt H14.out⟩); (try replace HA := Aside0.mk (bbe HA.out hb)); (try replace HG := Aside0.mk (bbe HG.out hb)); (try replace H10 := Aside0.mk (bbe H10.out hb)); (try replace H11 := Aside0.mk (bbe H11.out hb)); (try replace H14 := Aside0.mk (bbe H14.out hb)); (try replace H15 := Aside0.mk (bbe H15.out hb)); (try replace H20 := Aside0.mk (bbe H20.out hb)); (try replace H21 := Aside0.mk (bbe H21.out hb)); (try replace VL := Aside0.mk (Kd.Rbe VL.out hb)); (try replace V10 := Aside0.mk (Kd.Rbe V10.out hb)); (try replace V14 := Aside0.mk (Kd.Rbe V14.out hb)); (try replace V20 := Aside0.mk (Kd.Rbe V20.out hb)); replace HB := Aside0.mk (bst HB.out hb); have H20 := Aside0.mk hbox; clear hb hbox hg; refine hK.out _ _ ⟨HA.out, HG.out⟩ (fun hHeld => ?_); clear hK K; refine norm_ (a' := ?_) ?_ ?_; rotate_left; (show Act.put _ (some 20) _ = _; simp only [Act.put, List.setIfInBounds_toArray, List.set_cons_zero, List.set_cons_succ, i64_w, i32_w]; rfl))
          | (refine slot_ 114 ?_; refine goes_ (N := some 114) Tryz.func8 (by kernel_rfl) rfl #[.agg #[.slice AL L.length cL, .int .i64 b1, .int .i64 b2, .int .i64 b3, .int .i64 b4, .bool b5], .agg #[.int .i64 p, .int .i64 q], .string entry, .int .i64 most] (by rfl) rfl rfl qA ?_; refine (impl_AppendEntry.calls k5 AL cL L b1 b2 b3 b4 b5 p q entry most _ _ _ _ _ _ _ _ _ _ (HGK.out.below HB.out) (Kd.R_reads' VL.out).2.2 (Kd.R_reads' VL.out).2.1 H5.out).mono ?_; rintro e w' ⟨v, rfl, hv, hb⟩; obtain ⟨A20, c20, rfl⟩ := Kd.R_slice hv; have hlo := HB.out.size; (try replace HA := Aside0.mk (bbe HA.out hb)); (try replace HG := Aside0.mk (bbe HG.out hb)); (try replace H10 := Aside0.mk (bbe H10.out hb)); (try replace H11 := Aside0.mk (bbe H11.out hb)); (try replace H14 := Aside0.mk (bbe H14.out hb)); (try replace H15 := Aside0.mk (bbe H15.out hb)); (try replace H20 := Aside0.mk (bbe H20.out hb)); (try replace H21 := Aside0.mk (bbe H21.out hb)); (try replace VL := Aside0.mk (Kd.Rbe VL.out hb)); (try replace V10 := Aside0.mk (Kd.Rbe V10.out hb)); (try replace V14 := Aside0.mk (Kd.Rbe V14.out hb)); (try replace V20 := Aside0.mk (Kd.Rbe V20.out hb)); replace HB := Aside0.mk (bst HB.out hb); have V20 := Aside0.mk (Kd.Rlo hv hlo); clear hv hlo; clear hb; refine ⟨_, rfl, ?_⟩; refine hK.out _ _ ⟨HA.out, HG.out⟩ (fun hHeld => ?_); clear hK K; refine norm_ (a' := ?_) ?_ ?_; rotate_left; (show Act.put _ (some 114) _ = _; simp only [Act.put, List.setIfInBounds_toArray, List.set_cons_zero, List.set_cons_succ, i64_w, i32_w]; rfl))
        rotate_left 1
        rotate_left 1
        rotate_left 1
        refine qp 7 107 ?_; refine qp 8 115 ?_; refine qp 9 116 ?_; refine qp 10 117 ?_; rotate_left 1
        rotate_left 1
        refine qp 7 107 ?_; refine qp 8 115 ?_; refine qp 9 116 ?_; refine qp 10 117 ?_; rotate_left 1
        rotate_left 1
        refine qp 7 107 ?_; refine qp 8 115 ?_; refine qp 9 116 ?_; refine qp 10 117 ?_; rotate_left 1
        refine qp 7 107 ?_; refine qp 8 115 ?_; refine qp 9 116 ?_; refine qp 10 117 ?_; rotate_left 1
        rotate_left 1
        refine qp 7 107 ?_; refine qp 8 115 ?_; refine qp 9 116 ?_; refine qp 10 117 ?_; rotate_left 1
        refine qp 7 107 ?_; refine qp 8 115 ?_; refine qp 9 116 ?_; refine qp 10 117 ?_; rotate_left 1
        rotate_left 1
        refine qp 7 107 ?_; refine qp 8 115 ?_; refine qp 9 116 ?_; refine qp 10 117 ?_; rotate_left 1
        refine qp 7 107 ?_; refine qp 8 115 ?_; refine qp 9 116 ?_; refine qp 10 117 ?_; rotate_left 1
        refine qp 7 107 ?_; refine qp 8 115 ?_; refine qp 9 116 ?_; refine qp 10 117 ?_; rotate_left 1
        rotate_left 1
        refine qp 7 107 ?_; refine qp 8 115 ?_; refine qp 9 116 ?_; refine qp 10 117 ?_; rotate_left 1
        refine qp 7 107 ?_; refine qp 8 115 ?_; refine qp 9 116 ?_; refine qp 10 117 ?_; rotate_left 1
        refine qp 7 107 ?_; refine qp 8 115 ?_; refine qp 9 116 ?_; refine qp 10 117 ?_; rotate_left 1
        all_goals (refine qo' 13 (fun K hK => ?_); refine skip_ (by rfl) rfl (exec_store_row 30 (.tmp 20) (.tmp 115) rfl g20 #[.slice A20 Z.length c20, .int .i64 z1, .int .i64 z2, .int .i64 z3, .int .i64 z4, .bool z5] rfl rfl 30 #[.slice none 0 0, .int .i64 0, .int .i64 0, .int .i64 0, .int .i64 0, .bool false] H20.out infoFs rfl (by simp [Value.oneCell'])) ?_; replace HA := Aside0.mk (blk_setRow HA.out (ne_type HA.out H20.out (by decide)) #[.slice A20 Z.length c20, .int .i64 z1, .int .i64 z2, .int .i64 z3, .int .i64 z4, .bool z5]); replace HG := Aside0.mk (blk_setRow HG.out (ne_type HG.out H20.out (by decide)) #[.slice A20 Z.length c20, .int .i64 z1, .int .i64 z2, .int .i64 z3, .int .i64 z4, .bool z5]); replace H10 := Aside0.mk (blk_setRow H10.out (Nat.ne_of_lt N20.out.1) #[.slice A20 Z.length c20, .int .i64 z1, .int .i64 z2, .int .i64 z3, .int .i64 z4, .bool z5]); replace H11 := Aside0.mk (blk_setRow H11.out (ne_type H11.out H20.out (by decide)) #[.slice A20 Z.length c20, .int .i64 z1, .int .i64 z2, .int .i64 z3, .int .i64 z4, .bool z5]); replace H14 := Aside0.mk (blk_setRow H14.out (Nat.ne_of_lt N20.out.2) #[.slice A20 Z.length c20, .int .i64 z1, .int .i64 z2, .int .i64 z3, .int .i64 z4, .bool z5]); replace H15 := Aside0.mk (blk_setRow H15.out (ne_type H15.out H20.out (by decide)) #[.slice A20 Z.length c20, .int .i64 z1, .int .i64 z2, .int .i64 z3, .int .i64 z4, .bool z5]); replace H21 := Aside0.mk (blk_setRow H21.out (ne_type H21.out H20.out (by decide)) #[.slice A20 Z.length c20, .int .i64 z1, .int .i64 z2, .int .i64 z3, .int .i64 z4, .bool z5]); replace V10 := Aside0.mk (Kd.R_set V10.out H20.out (by decide) #[.slice A20 Z.length c20, .int .i64 z1, .int .i64 z2, .int .i64 z3, .int .i64 z4, .bool z5]); replace V14 := Aside0.mk (Kd.R_set V14.out H20.out (by decide) #[.slice A20 Z.length c20, .int .i64 z1, .int .i64 z2, .int .i64 z3, .int .i64 z4, .bool z5]); replace V20 := Aside0.mk (Kd.R_set V20.out H20.out (by decide) #[.slice A20 Z.length c20, .int .i64 z1, .int .i64 z2, .int .i64 z3, .int .i64 z4, .bool z5]); replace HB := Aside0.mk (below_setRowF HB.out G20.out #[.slice A20 Z.length c20, .int .i64 z1, .int .i64 z2, .int .i64 z3, .int .i64 z4, .bool z5]); replace H20 := Aside0.mk (heap_setRow_sameF (cs' := #[.slice A20 Z.length c20, .int .i64 z1, .int .i64 z2, .int .i64 z3, .int .i64 z4, .bool z5]) H20.out); refine hK.out _ _ ⟨HA.out, HG.out⟩ (fun hHeld => ?_); clear hK K)
        all_goals (refine qo' 14 (fun K hK => ?_); refine skip_ (by rfl) rfl (exec_store_row 31 (.tmp 21) (.tmp 116) rfl g21 #[.int .i64 y1, .int .i64 y2] rfl rfl 31 #[.int .i64 0, .int .i64 0] H21.out infoLog rfl (by simp [Value.oneCell'])) ?_; replace HA := Aside0.mk (blk_setRow HA.out (ne_type HA.out H21.out (by decide)) #[.int .i64 y1, .int .i64 y2]); replace HG := Aside0.mk (blk_setRow HG.out (ne_type HG.out H21.out (by decide)) #[.int .i64 y1, .int .i64 y2]); replace H10 := Aside0.mk (blk_setRow H10.out (ne_type H10.out H21.out (by decide)) #[.int .i64 y1, .int .i64 y2]); replace H11 := Aside0.mk (blk_setRow H11.out (Nat.ne_of_lt N21.out.1) #[.int .i64 y1, .int .i64 y2]); replace H14 := Aside0.mk (blk_setRow H14.out (ne_type H14.out H21.out (by decide)) #[.int .i64 y1, .int .i64 y2]); replace H15 := Aside0.mk (blk_setRow H15.out (Nat.ne_of_lt N21.out.2) #[.int .i64 y1, .int .i64 y2]); replace H20 := Aside0.mk (blk_setRow H20.out (ne_type H20.out H21.out (by decide)) #[.int .i64 y1, .int .i64 y2]); replace V10 := Aside0.mk (Kd.R_set V10.out H21.out (by decide) #[.int .i64 y1, .int .i64 y2]); replace V14 := Aside0.mk (Kd.R_set V14.out H21.out (by decide) #[.int .i64 y1, .int .i64 y2]); replace V20 := Aside0.mk (Kd.R_set V20.out H21.out (by decide) #[.int .i64 y1, .int .i64 y2]); replace HB := Aside0.mk (below_setRowF HB.out G21.out #[.int .i64 y1, .int .i64 y2]); replace H21 := Aside0.mk (heap_setRow_sameF (cs' := #[.int .i64 y1, .int .i64 y2]) H21.out); refine hK.out _ _ ⟨HA.out, HG.out⟩ (fun hHeld => ?_); clear hK K)
        all_goals (refine qp 15 22 ?_; refine done_ (by kernel_rfl) ?_; go_wp2_with fail; go_meet; (case rel => exact ⟨g20, g21, A20, c20, rfl, rfl, rfl, HB.out, H10.out, H11.out, H14.out, H20.out, H21.out, V10.out, V14.out, V20.out⟩))
      case rest =>
        clear HA HG H10 H11 H14 H15 V10 V14 HB
        obtain ⟨g20, g21, A20, c20, rfl, rfl, rfl, hB, h10, h11, h14, h20, h21, hv1, hv2, hv3⟩ := hcut
        have HB := Aside0.mk hB
        have H10 := Aside0.mk h10
        have H11 := Aside0.mk h11
        have H14 := Aside0.mk h14
        have H20 := Aside0.mk h20
        have H21 := Aside0.mk h21
        have V10 := Aside0.mk hv1
        have V14 := Aside0.mk hv2
        have V20 := Aside0.mk hv3
        clear hB h10 h11 h14 h20 h21 hv1 hv2 hv3
        go_wp2_with (first | ((with_reducible refine gds (N := 118) rfl ?_); refine wpList_load_row rfl 30 (.tmp 20) rfl g20 ?hp 30 #[.slice A20 Z.length c20, .int .i64 z1, .int .i64 z2, .int .i64 z3, .int .i64 z4, .bool z5] (0, 0) _ ?hg Tryz.underlying30 ?ha ?hi ?_; (case hp => rfl); (case hg => exact H20.out); (case ha => rfl); (case hi => exact infoFs)) | ((with_reducible refine gds (N := 119) rfl ?_); refine wpList_load_row rfl 30 (.tmp 10) rfl g10 ?hp 30 #[.slice A10 Z.length c10, .int .i64 z1, .int .i64 z2, .int .i64 z3, .int .i64 z4, .bool z5] (0, 0) _ ?hg Tryz.underlying30 ?ha ?hi ?_; (case hp => rfl); (case hg => exact H10.out); (case ha => rfl); (case hi => exact infoFs)) | (go_at_call 9; (with_reducible refine (laws_eqFs.calls k6 A20 c20 Z z1 z2 z3 z4 z5 A10 c10 Z z1 z2 z3 z4 z5 true _ (Kd.R_reads' V20.out).2.2 (Kd.R_reads' V20.out).2.1 (Kd.R_reads' V10.out).2.2 (Kd.R_reads' V10.out).2.1 H6.out).mono ?_); rintro e w' ⟨rfl, hb⟩; replace H10 := Aside0.mk (bbe H10.out hb); replace H11 := Aside0.mk (bbe H11.out hb); replace H14 := Aside0.mk (bbe H14.out hb); replace H20 := Aside0.mk (bbe H20.out hb); replace H21 := Aside0.mk (bbe H21.out hb); replace V10 := Aside0.mk (Kd.Rbe V10.out hb); replace V14 := Aside0.mk (Kd.Rbe V14.out hb); replace V20 := Aside0.mk (Kd.Rbe V20.out hb); replace HB := Aside0.mk (bst HB.out hb); (try clear hza hzb); have hza := qz2 H21.out; have hzb := qz2 H11.out; clear hb) | (go_at_call 10; (with_reducible refine (laws_eqLog.calls y1 y2 y1 y2 true _ H8.out).mono ?_); rintro e w' ⟨rfl, hb⟩; replace H10 := Aside0.mk (bbe H10.out hb); replace H11 := Aside0.mk (bbe H11.out hb); replace H14 := Aside0.mk (bbe H14.out hb); replace H20 := Aside0.mk (bbe H20.out hb); replace H21 := Aside0.mk (bbe H21.out hb); replace V10 := Aside0.mk (Kd.Rbe V10.out hb); replace V14 := Aside0.mk (Kd.Rbe V14.out hb); replace V20 := Aside0.mk (Kd.Rbe V20.out hb); replace HB := Aside0.mk (bst HB.out hb); clear hb) | ((with_reducible refine gds (N := 133) rfl ?_); refine wpList_load_row rfl 30 (.tmp 14) rfl g14 ?hp 30 #[.slice A14 Z2.length c14, .int .i64 z1, .int .i64 z2, .int .i64 z3, .int .i64 z4, .bool z5] (0, 0) _ ?hg Tryz.underlying30 ?ha ?hi ?_; (case hp => rfl); (case hg => exact H14.out); (case ha => rfl); (case hi => exact infoFs)) | (go_at_call 12; (with_reducible refine (laws_heldFs.calls k11 A14 c14 Z2 z1 z2 z3 z4 z5 1 m2 _ (Kd.R_reads' V14.out).2.2 (Kd.R_reads' V14.out).2.1 H11h.out).mono ?_); rintro e w' ⟨rfl, hb⟩; replace H10 := Aside0.mk (bbe H10.out hb); replace H11 := Aside0.mk (bbe H11.out hb); replace H14 := Aside0.mk (bbe H14.out hb); replace H20 := Aside0.mk (bbe H20.out hb); replace H21 := Aside0.mk (bbe H21.out hb); replace V10 := Aside0.mk (Kd.Rbe V10.out hb); replace V14 := Aside0.mk (Kd.Rbe V14.out hb); replace V20 := Aside0.mk (Kd.Rbe V20.out hb); replace HB := Aside0.mk (bst HB.out hb); clear hb))
        go_ret
        exact ⟨rfl, HB.out⟩
set_option maxHeartbeats 16000000 in
set_option maxRecDepth 100000 in
theorem lawAp_long (A : Option Addr) (c : Nat) (l : List LFileT) (cap cnt cr fa : Int) (dn : Bool) (last size : Int) (entry : ByteArray) (most : Int) (w : World) (hG : GOK w) (hr : Kd.C LFileK w A l.length l) (hc : l.length ≤ c) (hes : 1048576 < entry.size) :
    Calls Tryz.prog 3 #[.agg #[.slice A l.length c, .int .i64 cap, .int .i64 cnt, .int .i64 cr, .int .i64 fa, .bool dn], .agg #[.int .i64 last, .int .i64 size], .string entry, .int .i64 most] w fun e w' => e = .returned (.bool true) ∧ Below w.heap.size w w' := by
  have k0 : decide (1048576 < (entry.size : Int)) = true := decide_eq_true (by omega)
  clear hG hr hc hes
  go_enter Tryz.func3, Tryz.ntmps3
  go_wp2_with (first | ((with_reducible refine gds (N := 4) rfl ?_); refine qbx 4 #[.slice A l.length c, .int .i64 cap, .int .i64 cnt, .int .i64 cr, .int .i64 fa, .bool dn] 24 ?_; intro ga hg w' hbox hb; have HB := Aside0.mk hb; clear hb hbox hg) | ((with_reducible refine gds (N := 5) rfl ?_); refine qbx 5 #[.int .i64 last, .int .i64 size] 26 ?_; intro gl hg w' hbox hb; replace HB := Aside0.mk (bst HB.out hb); clear hb hbox hg))
  go_ret
  exact ⟨rfl, HB.out⟩
set_option maxHeartbeats 16000000 in
set_option maxRecDepth 100000 in
theorem lawAp_big (A : Option Addr) (c : Nat) (l : List LFileT) (cap cnt cr fa : Int) (dn : Bool) (last size : Int) (entry : ByteArray) (most : Int) (w : World) (hG : GOK w) (hr : Kd.C LFileK w A l.length l) (hc : l.length ≤ c) (k1 : Nat) (left : Int) (hes : ¬ 1048576 < entry.size) (h1 : laws_szFs.f k1 l cap cnt cr fa dn 1048576 = some left) (hl : left < 0) :
    Calls Tryz.prog 3 #[.agg #[.slice A l.length c, .int .i64 cap, .int .i64 cnt, .int .i64 cr, .int .i64 fa, .bool dn], .agg #[.int .i64 last, .int .i64 size], .string entry, .int .i64 most] w fun e w' => e = .returned (.bool true) ∧ Below w.heap.size w w' := by
  have k0 : decide (1048576 < (entry.size : Int)) = false := decide_eq_false (by omega)
  have k1_ : decide (left < 0) = true := decide_eq_true hl
  have HR := Aside0.mk hr
  have HC := Aside0.mk hc
  have H1 := Aside0.mk h1
  clear hG hr hc hes h1 hl
  go_enter Tryz.func3, Tryz.ntmps3
  go_wp2_with (first | ((with_reducible refine gds (N := 4) rfl ?_); refine qbx 4 #[.slice A l.length c, .int .i64 cap, .int .i64 cnt, .int .i64 cr, .int .i64 fa, .bool dn] 24 ?_; intro ga hg w' hbox hb; have HB := Aside0.mk hb; have HA := Aside0.mk hbox; clear hb hbox hg) | ((with_reducible refine gds (N := 5) rfl ?_); refine qbx 5 #[.int .i64 last, .int .i64 size] 26 ?_; intro gl hg w' hbox hb; replace HA := Aside0.mk (bbe HA.out hb); replace HB := Aside0.mk (bst HB.out hb); clear hb hbox hg) | ((with_reducible refine gds (N := 26) rfl ?_); refine wpList_load_row rfl 24 (.tmp 4) rfl ga ?hp 24 #[.slice A l.length c, .int .i64 cap, .int .i64 cnt, .int .i64 cr, .int .i64 fa, .bool dn] (0, 0) _ ?hg Tryz.underlying24 ?ha ?hi ?_; (case hp => rfl); (case hg => exact HA.out); (case ha => rfl); (case hi => exact infoLFs)) | (go_at_call 4; (with_reducible refine (laws_szFs.calls k1 A c l cap cnt cr fa dn 1048576 left _ (Kd.Cbe HR.out HB.out) HC.out H1.out).mono ?_); rintro e w' ⟨rfl, hb⟩; replace HA := Aside0.mk (bbe HA.out hb); replace HB := Aside0.mk (bst HB.out hb); clear hb))
  go_ret
  exact ⟨rfl, HB.out⟩
/-- What makes the law true. -/
def ApOk (l : List LFileT) (cap cnt cr fa : Int) (dn : Bool) (last size : Int) (entry : ByteArray) (most : Int) : Prop :=
  1048576 < entry.size ∨ ∃ (k1 : Nat) (left : Int), laws_szFs.f k1 l cap cnt cr fa dn 1048576 = some left ∧ (left < 0 ∨
    ∃ (k2 k4 k5 k6 k7 k9 k10 k11 : Nat) (L : List FileT) (b1 b2 b3 b4 : Int) (b5 : Bool) (p q : Int) (Z : List FileT) (z1 z2 z3 z4 : Int) (z5 : Bool) (y1 y2 y3 m1 m2 : Int) (L2 Z2 : List FileT), laws_toFs.f k2 l cap cnt cr fa dn = some (L, b1, b2, b3, b4, b5) ∧ laws_toLog.f last size = some (p, q) ∧
      spec_AppendEntry.f k4 L b1 b2 b3 b4 b5 p q entry most = some (Z, z1, z2, z3, z4, z5, y1, y2, y3) ∧ impl_AppendEntry.f k5 L b1 b2 b3 b4 b5 p q entry most = some (Z, z1, z2, z3, z4, z5, y1, y2, y3) ∧
      laws_eqFs.f k6 Z z1 z2 z3 z4 z5 Z z1 z2 z3 z4 z5 = some true ∧ laws_eqFs.f k7 L b1 b2 b3 b4 b5 L b1 b2 b3 b4 b5 = some true ∧ laws_eqLog.f y1 y2 y1 y2 = some true ∧
      laws_markFs.f k9 L b1 b2 b3 b4 b5 1 = some (m1, L2) ∧ ¬ m1 < 0 ∧ laws_markFs.f k10 Z z1 z2 z3 z4 z5 1 = some (m2, Z2) ∧ ¬ m2 < 0 ∧ laws_heldFs.f k11 Z2 z1 z2 z3 z4 z5 1 = some m2)
theorem lawAp_ok (A : Option Addr) (c : Nat) (l : List LFileT) (cap cnt cr fa : Int) (dn : Bool) (last size : Int) (entry : ByteArray) (most : Int) (w : World) (hG : GOK w) (hr : Kd.C LFileK w A l.length l) (hc : l.length ≤ c) (h : ApOk l cap cnt cr fa dn last size entry most) :
    Calls Tryz.prog 3 #[.agg #[.slice A l.length c, .int .i64 cap, .int .i64 cnt, .int .i64 cr, .int .i64 fa, .bool dn], .agg #[.int .i64 last, .int .i64 size], .string entry, .int .i64 most] w fun e w' => e = .returned (.bool true) ∧ Below w.heap.size w w' := by
  by_cases hes : 1048576 < entry.size
  · exact lawAp_long A c l cap cnt cr fa dn last size entry most w hG hr hc hes
  · rcases h with h | ⟨k1, left, h1, h⟩
    · exact absurd h hes
    · by_cases hl : left < 0
      · exact lawAp_big A c l cap cnt cr fa dn last size entry most w hG hr hc k1 left hes h1 hl
      · rcases h with h | ⟨k2, k4, k5, k6, k7, k9, k10, k11, L, b1, b2, b3, b4, b5, p, q, Z, z1, z2, z3, z4, z5, y1, y2, y3, m1, m2, L2, Z2, h2, h3, h4, h5, h6, h7, h8, h9, hm1, h10, hm2, h11⟩
        · exact absurd h hl
        · exact lawAp_true A c l cap cnt cr fa dn last size entry most w hG hr hc k1 k2 k4 k5 k6 k7 k9 k10 k11 left L b1 b2 b3 b4 b5 p q Z z1 z2 z3 z4 z5 y1 y2 y3 m1 m2 L2 Z2 hes h1 hl h2 h3 h4 h5 h6 h7 h8 h9 hm1 h10 hm2 h11
end Go.Proofs.YtfknmohedlfmfaaGreatDoor.L
end
section
namespace Go.Proofs.YtfknmohedlfmfaaGreatDoor.L
open Go.RowKit Go.Proofs.YtfknmohedlfmfaaGreatDoorW.PrintWords Go.Proofs.YtfknmohedlfmfaaGreatDoorW.PrintLast Go.Proofs.YtfknmohedlfmfaaGreatDoorW.PrintMore
attribute [local go_sem] max2_int min2_int max_two min_two max_three min_three max_four min_four
set_option linter.unusedVariables false
set_option linter.unusedSimpArgs false
noncomputable def laws_FnExactAppendEntry.f (k : Nat) (l0_0 : List (S55)) (a0_1 : Int) (a0_2 : Int) (a0_3 : Int) (a0_4 : Int) (a0_5 : Bool) (a1_0 : Int) (a1_1 : Int) (a2 : ByteArray) (a3 : Int) : Option (Bool) := @ite _ (ApOk l0_0 a0_1 a0_2 a0_3 a0_4 a0_5 a1_0 a1_1 a2 a3) (Classical.propDecidable _) (some true) none
theorem laws_FnExactAppendEntry.mono : ∀ a0 a1 a2 a3 a4 a5 a6 a7 a8 a9 k, LeO (laws_FnExactAppendEntry.f k a0 a1 a2 a3 a4 a5 a6 a7 a8 a9) (laws_FnExactAppendEntry.f (k + 1) a0 a1 a2 a3 a4 a5 a6 a7 a8 a9) := fun _ _ _ _ _ _ _ _ _ _ _ => LeO.refl _
theorem laws_FnExactAppendEntry.calls (k : Nat) (A0_0 : Option Addr) (c0_0 : Nat) (l0_0 : List (S55)) (a0_1 : Int) (a0_2 : Int) (a0_3 : Int) (a0_4 : Int) (a0_5 : Bool) (a1_0 : Int) (a1_1 : Int) (a2 : ByteArray) (a3 : Int) (r : Bool) (hT : r = true) (w : World) (hG : GOK w) (hr0_0 : Kd.C k55 w A0_0 l0_0.length l0_0) (hc0_0 : l0_0.length ≤ c0_0) (h : laws_FnExactAppendEntry.f k l0_0 a0_1 a0_2 a0_3 a0_4 a0_5 a1_0 a1_1 a2 a3 = some r) :
    Calls Tryz.prog 3 #[.agg #[.slice A0_0 l0_0.length c0_0, .int .i64 a0_1, .int .i64 a0_2, .int .i64 a0_3, .int .i64 a0_4, .bool a0_5], .agg #[.int .i64 a1_0, .int .i64 a1_1], .string a2, .int .i64 a3] w fun e w' => e = .returned (.bool r) ∧ Below w.heap.size w w' := by
  subst hT
  unfold laws_FnExactAppendEntry.f at h
  by_cases hok : ApOk l0_0 a0_1 a0_2 a0_3 a0_4 a0_5 a1_0 a1_1 a2 a3
  · exact lawAp_ok A0_0 c0_0 l0_0 a0_1 a0_2 a0_3 a0_4 a0_5 a1_0 a1_1 a2 a3 w hG hr0_0 hc0_0 hok
  · rw [if_neg hok] at h
    cases h
end Go.Proofs.YtfknmohedlfmfaaGreatDoor.L
end
section
set_option linter.unusedVariables false
set_option linter.unusedSimpArgs false
namespace Go.Proofs.YtfknmohedlfmfaaGreatDoor
open Go.RowKit Go.ChangeShapes Go.WideShapes Go.Proofs.YtfknmohedlfmfaaGreatDoorW.PrintWords
/-- Whatever reads as a datum of type t is a value of the kind d that is 'good'. -/
def Opens {α : Type} (P : Program) (t : TypeId) (d : Kd α) (good : α → Prop) : Prop :=
  ∀ (H : Type) (enc : TypeId × Value → H) (W : World) (fuel : Nat) (cs : List Value) (x : DataW H × List MemPlace),
    DataW.trod enc P W 0 (fun _ => true) true fuel t cs = some x → ∃ a, d.K W a cs ∧ good a
theorem opens_int {P : Program} {t : TypeId} {k : IntKind} (ht : P.underlying t = some (.int k)) : Opens P t (Kd.int k) (fun n => (Lit.int k n).wf = true) :=
  fun H enc W fuel cs x h => by
    obtain ⟨n, rfl, _, hw⟩ := DataW.trod_int ht h
    exact ⟨n, rfl, hw⟩
theorem opens_bool {P : Program} {t : TypeId} (ht : P.underlying t = some .bool) : Opens P t Kd.bool (fun _ => True) :=
  fun H enc W fuel cs x h => by
    obtain ⟨n, rfl, _⟩ := DataW.trod_bool ht h
    exact ⟨n, rfl, trivial⟩
theorem opens_string {P : Program} {t : TypeId} (ht : P.underlying t = some .string) : Opens P t Kd.string (fun s => s.size ≤ maxLen) :=
  fun H enc W fuel cs x h => by
    obtain ⟨n, rfl, _, hw⟩ := DataW.trod_string ht h
    exact ⟨n, rfl, hw⟩
theorem cells_of_some {W : World} {a : Addr} {n : Nat} {cs : List Value} (h : W.cells? 0 a n = some cs) : cs.length = n ∧ ∀ i u, cs[i]? = some u → W.cell? (a.add i) = some u := by
  unfold World.cells? at h
  rw [if_pos (Nat.zero_le _)] at h
  have hl := mapM_some_length h
  rw [List.length_range] at hl
  refine ⟨hl, fun i u hu => ?_⟩
  have hi : i < n := by
    rcases Nat.lt_or_ge i n with h' | h'
    · exact h'
    · rw [List.getElem?_eq_none (by omega)] at hu; cases hu
  have := mapM_some_get h i i (by simp [hi])
  rw [this]; exact hu
theorem opens_slice {α : Type} {P : Program} {t e : TypeId} {d : Kd α} {good : α → Prop} [Inhabited α] (ht : P.underlying t = some (.slice e)) (hc : P.cellsOf e = d.sz) (he : Opens P e d good) :
    Opens P t (Kd.slice e d) (fun l => ∀ a ∈ l, good a) :=
  fun H enc W fuel cs x h => by
    rcases Go.Deep.open_slice ht h with ⟨rfl, _⟩ | ⟨a, len, cap, m, n, D, Pl, rfl, _, hlc, hm, hmm, _, hel⟩
    · exact ⟨[], ⟨none, 0, rfl, Nat.le_refl _, rfl, by simp, fun h => absurd h (by simp)⟩, fun a ha => by cases ha⟩
    · have hmc : m = cap := by simpa using hmm
      subst hmc
      have hx : ∀ i, i < len → ∃ y : α, (∃ cs', W.cells? 0 (a.add (i * P.cellsOf e)) (P.cellsOf e) = some cs' ∧ d.K W y cs') ∧ good y := fun i hi => by
        obtain ⟨cs', h1, h2⟩ := hel i (by omega)
        obtain ⟨y, hy, hg⟩ := he H enc W n cs' _ h2
        exact ⟨y, ⟨cs', h1, hy⟩, hg⟩
      obtain ⟨f, hf⟩ := Go.Deep.choose_lt hx
      have hlen : ((List.range len).map f).length = len := by simp
      refine ⟨(List.range len).map f, ⟨some a, m, by rw [hlen], by rw [hlen]; exact hlc, ?_⟩, fun y hy => ?_⟩
      · refine ⟨rfl, by rw [hlen]; unfold maxLen at hm; omega, fun _ => ⟨a, rfl, fun j p hp => ?_⟩⟩
        have hj : j < len := by
          rcases Nat.lt_or_ge j len with h' | h'
          · exact h'
          · rw [List.getElem?_eq_none (by omega)] at hp; cases hp
        have hpe : f j = p := by simpa [hj] using hp
        obtain ⟨⟨cs', h1, h2⟩, _⟩ := hf j hj
        obtain ⟨hl', hcell⟩ := cells_of_some h1
        refine ⟨cs', by rw [hl', hc], hpe ▸ h2, fun i u hu => ?_⟩
        have := hcell i u hu
        rw [Go.Deep.add_add, hc] at this
        exact this
      · obtain ⟨j, hj, rfl⟩ := List.mem_map.1 hy
        exact (hf j (List.mem_range.1 hj)).2
/-- Two cuts of a list, one behind the other. -/
theorem take_drop_add {α : Type} (cs : List α) (m n : Nat) : (cs.drop m).take n ++ cs.drop (m + n) = cs.drop m := by
  rw [← List.drop_drop]; exact List.take_append_drop n (cs.drop m)
/-- The fields from number i on, of a struct, one kind a field. -/
def OpensF {α : Type} (P : Program) (fs : Array Field) (i off : Nat) (d : Kd α) (good : α → Prop) : Prop :=
  ∀ (H : Type) (enc : TypeId × Value → H) (W : World) (n : Nat) (cs : List Value) (xs : List (DataW H × List MemPlace)), off ≤ cs.length → cs.length - off = d.sz → xs.length = fs.size →
    (∀ (j : Nat) (f : Field), fs[j]? = some f → DataW.trod enc P W 0 (fun _ => true) true n f.type ((cs.drop f.offset).take (P.cellsOf f.type)) = xs[j]?) → ∃ a, d.K W a (cs.drop off) ∧ good a
theorem opensF_last {α : Type} {P : Program} {fs : Array Field} {i off : Nat} {d : Kd α} {good : α → Prop} (f : Field) (hf : fs[i]? = some f) (ho : f.offset = off) (hc : P.cellsOf f.type = d.sz) (h : Opens P f.type d good) :
    OpensF P fs i off d good := fun H enc W n cs xs hle hl hx hg => by
  have hi : i < fs.size := by
    rcases Nat.lt_or_ge i fs.size with h' | h'
    · exact h'
    · rw [Array.getElem?_eq_none h'] at hf; cases hf
  have h1 := hg i f hf
  have hxi : xs[i]? = some (xs[i]'(by omega)) := List.getElem?_eq_getElem (by omega)
  rw [hxi, ho, hc, List.take_of_length_le (by simp; omega)] at h1
  exact h H enc W n _ _ h1
theorem opensF_cons {α β : Type} {P : Program} {fs : Array Field} {i off : Nat} {d : Kd α} {good : α → Prop} {d' : Kd β} {good' : β → Prop} (f : Field) (hf : fs[i]? = some f) (ho : f.offset = off) (hc : P.cellsOf f.type = d.sz)
    (h : Opens P f.type d good) (h' : OpensF P fs (i + 1) (off + d.sz) d' good') : OpensF P fs i off (Kd.pair d d') (fun x => good x.1 ∧ good' x.2) := fun H enc W n cs xs hle hl hx hg => by
  have hi : i < fs.size := by
    rcases Nat.lt_or_ge i fs.size with h' | h'
    · exact h'
    · rw [Array.getElem?_eq_none h'] at hf; cases hf
  have h1 := hg i f hf
  have hxi : xs[i]? = some (xs[i]'(by omega)) := List.getElem?_eq_getElem (by omega)
  rw [hxi, ho, hc] at h1
  obtain ⟨a, ha, hga⟩ := h H enc W n _ _ h1
  have hs : cs.length - off = d.sz + d'.sz := hl
  obtain ⟨b, hb, hgb⟩ := h' H enc W n cs xs (by omega) (by omega) hx hg
  exact ⟨(a, b), ⟨(cs.drop off).take d.sz, cs.drop (off + d.sz), (take_drop_add cs off d.sz).symm, ha, hb⟩, hga, hgb⟩
theorem opens_struct {α : Type} {P : Program} {t : TypeId} {fs : Array Field} {d : Kd α} {good : α → Prop} (ht : P.underlying t = some (.struct fs)) (hc : P.cellsOf t = d.sz) (h : OpensF P fs 0 0 d good) : Opens P t d good :=
  fun H enc W fuel cs x hx => by
    obtain ⟨xs, n, _, _, hl, hxl, hg⟩ := DataW.trod_struct ht hx
    have := h H enc W n cs xs (Nat.zero_le _) (by omega) hxl hg
    simpa using this
theorem len_le {α : Type} {d : Kd α} {W : World} {A : Option Addr} {l : List α} (h : d.C W A l.length l) : l.length ≤ maxLen := by
  have := h.2.1
  unfold maxLen
  omega
end Go.Proofs.YtfknmohedlfmfaaGreatDoor
end
section
set_option linter.unusedVariables false
namespace Go.Proofs.YtfknmohedlfmfaaGreatDoor
open Go Go.RowKit
theorem p10_type : (Tryz.prog.globals[0]?).map (·.type) = some 139 := by kernel_rfl
theorem p10_cells : Tryz.prog.cellsOf 104 = 1 := by kernel_rfl
theorem p10_cells20 : Tryz.prog.cellsOf 139 = 20 := by kernel_rfl
theorem laid_tail {P : Program} {x : String × DataW Unit} {r : List (String × DataW Unit)} {w : World} (h : laidMet P (x :: r) w) : laidMet P r w := by
  obtain ⟨ps, hv, hn, hc⟩ := h
  obtain ⟨g, t, cs, fuel, p, q, h1, h2, h3, h4, h5, rfl⟩ := hv
  exact ⟨q, h5, (List.nodup_append.1 hn).2.1, fun b off hb => hc b off (List.mem_append_right _ hb)⟩
theorem gok_of_laid {W : World} (h : laidMetH Tryz.prog [("math/bits.deBruijn32tab", Rows.laid_math_bits_deBruijn32tab), ("math/bits.deBruijn64tab", Rows.laid_math_bits_deBruijn64tab), ("internal/strconv.uint64pow10", Rows.laid_internal_strconv_uint64pow10)] W) : GOK W := by
  rw [MakeChecks.laidMetH_plain _ _ _ (by kernel_rfl)] at h
  exact Lib.tabIs_of_head (k := .u64) (zs := Lib.pow10Tab) (rest := []) p10_named p10_type Tryz.underlying139 Tryz.underlying104 p10_cells p10_cells20 (laid_tail (laid_tail h))
end Go.Proofs.YtfknmohedlfmfaaGreatDoor
end
section
set_option linter.unusedVariables false
set_option linter.unusedSimpArgs false
namespace Go.Proofs.YtfknmohedlfmfaaGreatDoor.fnExactAppendEntry
open Go.ChangeShapes Go.WideShapes Go.ChangeAt Go.RowKit Go.Proofs.YtfknmohedlfmfaaGreatDoor Go.Proofs.YtfknmohedlfmfaaGreatDoor.L Go.Proofs.YtfknmohedlfmfaaGreatDoorW.PrintWords
open Go.ChangeMaps (open_string shut_string)
def good55 (x : S55) : Prop := x.f0.size ≤ maxLen ∧ x.f1.size ≤ maxLen ∧ (Lit.int .i64 x.f2).wf = true
instance : Inhabited S55 := ⟨z55⟩
theorem open55 : Opens Tryz.prog 55 k55 good55 := fun H enc W fuel cs x h => by
  obtain ⟨a, ha, hg⟩ := (opens_struct Tryz.underlying55 (by kernel_rfl) (opensF_cons _ rfl rfl (by kernel_rfl) (opens_string Tryz.underlying9) (opensF_cons _ rfl rfl (by kernel_rfl) (opens_string Tryz.underlying9) (opensF_last _ rfl rfl (by kernel_rfl) (opens_int Tryz.underlying3))))) H enc W fuel cs x h
  exact ⟨⟨a.1, a.2.1, a.2.2⟩, ha, hg⟩
/-- THE ONE PURE STATEMENT of the law: no memory, no Go. -/
def Pure0 : Prop := ∀ (l0_0 : List (S55)) (a0_1 : Int) (a0_2 : Int) (a0_3 : Int) (a0_4 : Int) (a0_5 : Bool) (a1_0 : Int) (a1_1 : Int) (a2 : ByteArray) (a3 : Int), l0_0.length ≤ maxLen → (∀ y ∈ l0_0, good55 y) → (Lit.int .i64 a0_1).wf = true → (Lit.int .i64 a0_2).wf = true → (Lit.int .i64 a0_3).wf = true → (Lit.int .i64 a0_4).wf = true → (Lit.int .i64 a1_0).wf = true → (Lit.int .i64 a1_1).wf = true → a2.size ≤ maxLen → (Lit.int .i64 a3).wf = true → ∃ k, laws_FnExactAppendEntry.f k l0_0 a0_1 a0_2 a0_3 a0_4 a0_5 a1_0 a1_1 a2 a3 = some true
theorem own : ownKnob Tryz.prog.godebug = none := by kernel_rfl
theorem laidOut : laidOutB Tryz.prog = true := by kernel_rfl
/-- The door's own heap meets the condition. -/
theorem door_met (os : Os) (args : Array Value) : laidMetH Tryz.prog Rows.fnExactAppendEntryRow.laid ((World.doorLaid Tryz.prog 24 os).forCall (fun _ _ => 0) ⟨#[], args, []⟩).memory :=
  laidMetH_of_parts3 (fuel := 8) (laidMet_of_run' 8 (by kernel_rfl) (by kernel_rfl)) (by kernel_rfl) (by kernel_rfl)
set_option maxRecDepth 100000 in
theorem lifted (Q : Pure0) (os : Os) (started : os.Started) (H : Type) (enc : TypeId × Value → H) :
    ReturnsInHanded {} Tryz.checked os 3 .any (fun w args => (Rows.fnExactAppendEntrySpec.pre enc Tryz.prog Tryz.f3 [] false w args ∧ laidMetH Tryz.prog Rows.fnExactAppendEntryRow.laid w) ∧ sizedMet enc Tryz.prog Tryz.f3 (OpenSpec.ofChange Rows.fnExactAppendEntrySpec) false w args) (Rows.fnExactAppendEntrySpec.post enc Tryz.prog Tryz.f3 false true false false) := by
  refine returnsInHanded_of_change_and (C := Tryz.checked) (X := fun w _ => laidMetH Tryz.prog Rows.fnExactAppendEntryRow.laid w) (fun _ _ _ hh h => h.of_heap hh) own started (by kernel_rfl) Tryz.func3
    (ChangeSpec.witness_shaped (enc := enc) (C := Tryz.checked) (os := os) (X := fun w _ => laidMetH Tryz.prog Rows.fnExactAppendEntryRow.laid w) false (World.doorLaid Tryz.prog 24 os) #[.agg #[.slice none 0 0, .int .i64 0, .int .i64 0, .int .i64 0, .int .i64 0, .bool false], .agg #[.int .i64 0, .int .i64 0], .string ByteArray.empty, .int .i64 0] 8 rfl (World.shaped_of_RefB (by kernel_rfl) (by kernel_rfl)) (by kernel_rfl) (by kernel_rfl) (by kernel_rfl) (door_met os _)) ?_
  intro W base args ds gs before hval0 hW _ _ hL _
  have hval : ∀ (j : Nat) t v, Tryz.f3.params[j]? = some t → args[j]? = some v → Value.okWide Tryz.prog W .any base t v := hval0
  have hW' := hW
  obtain ⟨p, q, hA0, hV, rfl, hfz, hnd⟩ := hW
  have hA : DataW.TrodAll enc Tryz.prog W 0 (fun _ => true) true Tryz.f3.params.toList args.toList ds p := hA0
  rw [Tryz.params3] at hA hval
  obtain ⟨v0, vs0, d0, ds0, p0, q0, hargs, rfl, rfl, h0, r0⟩ := trodAll_cons hA
  obtain ⟨v1, vs1, d1, ds1, p1, q1, rfl, rfl, rfl, h1, r1⟩ := trodAll_cons r0
  obtain ⟨v2, vs2, d2, ds2, p2, q2, rfl, rfl, rfl, h2, r2⟩ := trodAll_cons r1
  obtain ⟨v3, vs3, d3, ds3, p3, q3, rfl, rfl, rfl, h3, r3⟩ := trodAll_cons r2
  obtain ⟨rfl, rfl, rfl⟩ := trodAll_nil r3
  obtain rfl : args = #[v0, v1, v2, v3] := by cases args; simp_all
  obtain ⟨rfl, rfl⟩ := trodVars_none hV
  have hG := gok_of_laid hL
  have k0 := h0
  have lt0 : ∀ x ∈ p0, x.block < W.heap.size := by obtain ⟨m, hm⟩ := k0; exact DataW.trod_lt m _ _ _ hm
  obtain ⟨cs0, rfl, hsz0⟩ := okWide_struct Tryz.underlying24 (hval 0 24 v0 rfl rfl)
  obtain ⟨fuel0, hf0⟩ := h0
  obtain ⟨x0, hK0, hg0⟩ := (opens_struct Tryz.underlying24 (by kernel_rfl) (opensF_cons _ rfl rfl (by kernel_rfl) (opens_slice Tryz.underlying22 (by kernel_rfl) open55) (opensF_cons _ rfl rfl (by kernel_rfl) (opens_int Tryz.underlying3) (opensF_cons _ rfl rfl (by kernel_rfl) (opens_int Tryz.underlying3) (opensF_cons _ rfl rfl (by kernel_rfl) (opens_int Tryz.underlying3) (opensF_cons _ rfl rfl (by kernel_rfl) (opens_int Tryz.underlying3) (opensF_last _ rfl rfl (by kernel_rfl) (opens_bool Tryz.underlying4)))))))) H enc W fuel0 cs0.toList _ (by simpa [Value.cells] using hf0)
  obtain ⟨e5_, f5_, hcs0, ⟨A0_0, c0_0, rfl, hc0_0, hr0_0⟩, ⟨e4_, f4_, rfl, rfl, ⟨e3_, f3_, rfl, rfl, ⟨e2_, f2_, rfl, rfl, ⟨e1_, f1_, rfl, rfl, rfl⟩⟩⟩⟩⟩ := hK0
  obtain rfl : cs0 = #[.slice A0_0 x0.1.length c0_0, .int .i64 x0.2.1, .int .i64 x0.2.2.1, .int .i64 x0.2.2.2.1, .int .i64 x0.2.2.2.2.1, .bool x0.2.2.2.2.2] := by
    have h_ := congrArg List.toArray hcs0
    simpa using h_
  clear hcs0 hsz0
  have k1 := h1
  have lt1 : ∀ x ∈ p1, x.block < W.heap.size := by obtain ⟨m, hm⟩ := k1; exact DataW.trod_lt m _ _ _ hm
  obtain ⟨cs1, rfl, hsz1⟩ := okWide_struct Tryz.underlying26 (hval 1 26 v1 rfl rfl)
  obtain ⟨fuel1, hf1⟩ := h1
  obtain ⟨x1, hK1, hg1⟩ := (opens_struct Tryz.underlying26 (by kernel_rfl) (opensF_cons _ rfl rfl (by kernel_rfl) (opens_int Tryz.underlying3) (opensF_last _ rfl rfl (by kernel_rfl) (opens_int Tryz.underlying3)))) H enc W fuel1 cs1.toList _ (by simpa [Value.cells] using hf1)
  obtain ⟨e1_, f1_, hcs1, rfl, rfl⟩ := hK1
  obtain rfl : cs1 = #[.int .i64 x1.1, .int .i64 x1.2] := by
    have h_ := congrArg List.toArray hcs1
    simpa using h_
  clear hcs1 hsz1
  obtain ⟨a2, rfl, rfl, rfl, w2⟩ := open_string Tryz.underlying9 (hval 2 9 v2 rfl rfl) h2
  obtain ⟨a3, rfl, rfl, rfl, w3⟩ := open_int Tryz.underlying3 (hval 3 3 v3 rfl rfl) h3
  clear hA0 hval0
  obtain ⟨k, hk⟩ := Q (x0.1) (x0.2.1) (x0.2.2.1) (x0.2.2.2.1) (x0.2.2.2.2.1) (x0.2.2.2.2.2) (x1.1) (x1.2) a2 a3 (len_le hr0_0) hg0.1 hg0.2.1 hg0.2.2.1 hg0.2.2.2.1 hg0.2.2.2.2.1 hg1.1 hg1.2 w2 w3
  refine (laws_FnExactAppendEntry.calls k A0_0 c0_0 (x0.1) (x0.2.1) (x0.2.2.1) (x0.2.2.2.1) (x0.2.2.2.2.1) (x0.2.2.2.2.2) (x1.1) (x1.2) a2 a3 true rfl W hG hr0_0 hc0_0 hk).mono fun e W' he => ?_
  obtain ⟨rfl, bel0⟩ := he
  have bel : Below W.heap.size W W' := bel0
  exact ⟨_, rfl, _, _, _, [], _, [], hW', trodAll_mk1 (shut_bool Tryz.underlying4 _), (trodAll_cons_mk (Below.trod laidOut (by kernel_rfl) (of_decide_eq_true (by kernel_rfl)) k0 bel lt0) (trodAll_cons_mk (Below.trod laidOut (by kernel_rfl) (of_decide_eq_true (by kernel_rfl)) k1 bel lt1) (trodAll_cons_mk (shut_string Tryz.underlying9 w2) (trodAll_cons_mk (shut_int Tryz.underlying3 w3) trodAll_mk0)))), rfl, bel.frame _, fun h => by cases h⟩
theorem over (Q : Pure0) : Rows.fnExactAppendEntryRow.holds Tryz.pinned (OpenSpec.ofChange Rows.fnExactAppendEntrySpec) :=
  OpenClaim.holds_of_wide 3 Tryz.f3 rfl rfl rfl rfl rfl rfl rfl ⟨rfl, rfl, rfl, rfl, rfl⟩ rfl rfl rfl rfl rfl (by kernel_rfl) Tryz.func3 (by kernel_rfl)
    (of_decide_eq_true (by kernel_rfl)) (by unfold Func.isWrapper; first | (rw [if_pos (by decide +kernel)]; kernel_rfl) | (rw [if_neg (by decide +kernel)]; exact ⟨rfl, rfl⟩))
    (fun os started H enc _ => lifted Q os started H enc)
/-- The tied card. -/
theorem card (Q : Pure0) : Rows.FnExactAppendEntryCardSaid :=
  Claim7.holds_tied_plain_at .later [] [.data, .data, .data] true (true, "26b4c4ce99f6994047db3c0d79449c8533052d2c2f65bc3fd5147472e328aa62") false (over Q) (fun _ h => by cases h) (by kernel_rfl) (fun _ h => by cases h) fnExactAppendEntry_row_tie rfl ⟨rfl, rfl⟩ (by kernel_rfl) rfl
    (fun f fn hf hfn => by
      obtain rfl : f = 3 := Option.some.inj ((show Tryz.prog.funcNamed "loop.example/s02884/laws.FnExactAppendEntry" = some 3 by kernel_rfl).symm.trans hf) |>.symm
      obtain rfl : fn = Tryz.f3 := (Option.some.inj (Tryz.func3.symm.trans hfn)).symm
      refine ⟨by kernel_rfl, fun j t ht => ?_⟩
      rw [Tryz.params3] at ht
      have ha : (#[24, 26, 9, 3] : Array TypeId).all (fun t => !Tryz.prog.wantsStandIn t) = true := by kernel_rfl
      have h1 := (Array.all_eq_true_iff_forall_mem.1 ha) t (Array.mem_of_getElem? ht)
      have h2 : Tryz.prog.wantsStandIn t = false := by simpa using h1
      exact h2)
    (by kernel_rfl)
end Go.Proofs.YtfknmohedlfmfaaGreatDoor.fnExactAppendEntry
end
section
set_option linter.unusedVariables false
namespace Go.Proofs.YtfknmohedlfmfaaGreatDoor.Pure
open Go Go.RowKit Go.Proofs.YtfknmohedlfmfaaGreatDoor Go.Proofs.YtfknmohedlfmfaaGreatDoorW.PrintWords
theorem w64 (x : Int) (h : -9223372036854775808 ≤ x ∧ x ≤ 9223372036854775807) : wrap64 x = x := by unfold wrap64; omega
theorem wsucc (i : Nat) (h : i < 9223372036854775807) : wrap64 ((i : Int) + 1) = ((i + 1 : Nat) : Int) := by unfold wrap64; omega
end Go.Proofs.YtfknmohedlfmfaaGreatDoor.Pure
end
section
set_option linter.unusedVariables false
set_option linter.unusedSimpArgs false
namespace Go.Proofs.YtfknmohedlfmfaaGreatDoor.Pure
open Go.RowKit Go.Proofs.YtfknmohedlfmfaaGreatDoor Go.Proofs.YtfknmohedlfmfaaGreatDoor.L Go.Proofs.YtfknmohedlfmfaaGreatDoorW.PrintWords Go.Proofs.YtfknmohedlfmfaaGreatDoorW.PrintLast
theorem between_eq (x lo hi : Int) : spec_l1Between.f x lo hi = some (decide (lo ≤ x ∧ x ≤ hi)) := by
  unfold spec_l1Between.f
  by_cases h : lo ≤ x
  · rw [if_pos h]; simp [h]
  · rw [if_neg h]; simp [h]
/-- A file's name. -/
def nameOk (s : ByteArray) : Bool := decide (1 ≤ s.size) && decide (s.size ≤ 30) && allFrom fileByte s s.size 0
theorem impl_name (s : ByteArray) (h : s.size ≤ 9223372036854775807) : impl_isFileName.f s = some (nameOk s) := by
  unfold impl_isFileName.f nameOk
  rw [if_pos h]
theorem spec_name_l0 (d : Nat) : ∀ (s : ByteArray) (i : Nat), i + d = s.size → s.size ≤ 1000 → Ev (fun k => spec_l6FileName.l0 k s i) (allFrom fileByte s d i) := by
  induction d with
  | zero =>
    intro s i hi hs
    exact Ev.step (f := fun _ => some true) (fun k => by rw [spec_l6FileName.l0, if_neg (by omega)]) (Ev.now _)
  | succ d ih =>
    intro s i hi hs
    have hr := bt_range s i
    obtain ⟨b, hb⟩ : ∃ b, bt s i = b := ⟨_, rfl⟩
    simp only [allFrom]
    rw [hb] at hr ⊢
    have hw : wrap64 b = b := w64 b (by omega)
    have hnext := ih s (i + 1) (by omega) hs
    have e : ∀ k, spec_l6FileName.l0 (k + 1) s i = if fileByte b then spec_l6FileName.l0 k s ((i + 1 : Nat) : Int) else some false := fun k => by
      rw [spec_l6FileName.l0, if_pos (by omega), if_pos (by omega), hb, hw, between_eq, wsucc i (by omega)]
      unfold spec_l4Letter.f fileByte
      by_cases h1 : 97 ≤ b <;> by_cases h2 : b ≤ 122 <;> by_cases h3 : 48 ≤ b <;> by_cases h4 : b ≤ 57 <;> by_cases h5 : b = 45 <;> simp [h1, h2, h3, h4, h5]
    refine Ev.step e ?_
    cases hf : fileByte b
    · exact Ev.now _
    · simpa using hnext
theorem spec_name (s : ByteArray) : Ev (fun k => spec_l6FileName.f k s) (nameOk s) := by
  unfold spec_l6FileName.f nameOk
  simp only [between_eq, Option.bind_some]
  by_cases h1 : 1 ≤ s.size
  · by_cases h2 : s.size ≤ 30
    · have hc : decide ((1 : Int) ≤ (s.size : Int) ∧ (s.size : Int) ≤ 30) = true := decide_eq_true (by omega)
      simp only [hc, if_true, decide_eq_true h1, decide_eq_true h2, Bool.true_and]
      exact spec_name_l0 s.size s 0 (by omega) (by omega)
    · have hc : decide ((1 : Int) ≤ (s.size : Int) ∧ (s.size : Int) ≤ 30) = false := decide_eq_false (by omega)
      simp only [hc, decide_eq_false h2, Bool.and_false, Bool.false_and, if_neg (show ¬ (false = true) by decide)]
      exact Ev.now _
  · have hc : decide ((1 : Int) ≤ (s.size : Int) ∧ (s.size : Int) ≤ 30) = false := decide_eq_false (by omega)
    simp only [hc, decide_eq_false h1, Bool.false_and, if_neg (show ¬ (false = true) by decide)]
    exact Ev.now _
abbrev File := S61
theorem rdF (l : List File) (i : Nat) (h : i < l.length) : rd_T61 l (i : Int) = l[i] := by simp [rd_T61, h]
/-- The files' bytes. -/
def sumF (l : List File) : Nat := (l.map fun f => f.f1.size).sum
/-- File number i: its name, how much of it is synced, its place in the order. -/
def fileOk (l : List File) (i : Nat) : Bool :=
  match l[i]? with
  | none => true
  | some f => nameOk f.f0 && decide (0 ≤ f.f2 ∧ f.f2 ≤ (f.f1.size : Int)) && (decide (i = 0) || Op.bytesLess ((l.getD (i - 1) f).f0.toList) (f.f0.toList))
def filesFrom (l : List File) : Nat → Nat → Bool
  | 0, _ => true
  | d + 1, i => fileOk l i && filesFrom l d (i + 1)
def cntOk (n : Int) : Bool := decide (0 ≤ n ∧ n ≤ 1000000000000000)
/-- The document's FsValid. -/
def fsOk (l : List File) (cap count crash fail : Int) : Bool :=
  decide (l.length ≤ 300) && decide (0 ≤ cap ∧ cap ≤ 1000000000) && decide ((sumF l : Int) ≤ cap) && filesFrom l l.length 0 && (cntOk count && cntOk crash && cntOk fail)
theorem sumF_drop (l : List File) (i : Nat) (h : i < l.length) : sumF (l.drop i) = l[i].f1.size + sumF (l.drop (i + 1)) := by
  rw [show l.drop i = l[i] :: l.drop (i + 1) from List.drop_eq_getElem_cons h]
  rfl
theorem fileOk_at (l : List File) (i : Nat) (h : i < l.length) : fileOk l i = (nameOk l[i].f0 && decide (0 ≤ l[i].f2 ∧ l[i].f2 ≤ (l[i].f1.size : Int)) && (decide (i = 0) || Op.bytesLess ((l.getD (i - 1) l[i]).f0.toList) (l[i].f0.toList))) := by
  unfold fileOk
  rw [List.getElem?_eq_getElem h]
theorem spec_bytes_l0 (d : Nat) : ∀ (l : List File) (i : Nat) (c : Int), i + d = l.length → l.length ≤ 9223372036854775807 → 0 ≤ c → c + sumF (l.drop i) ≤ 9223372036854775807 →
    Ev (fun k => spec_l6Bytes.l0 k c l l.length i) (c + sumF (l.drop i)) := by
  induction d with
  | zero =>
    intro l i c hi hl h0 hc
    have hd : l.drop i = [] := List.drop_eq_nil_of_le (by omega)
    rw [hd]
    refine Ev.step (f := fun _ => some c) (fun k => by rw [spec_l6Bytes.l0, if_neg (by omega)]) ?_
    simpa [sumF] using Ev.now c
  | succ d ih =>
    intro l i c hi hl h0 hc
    have hil : i < l.length := by omega
    rw [sumF_drop l i hil] at hc ⊢
    refine Ev.step (fun k => by rw [spec_l6Bytes.l0, if_pos (by omega), if_pos (by omega), if_pos (by omega), rdF l i hil, wsucc i (by omega), w64 _ (by omega)]) ?_
    have := ih l (i + 1) (c + l[i].f1.size) (by omega) hl (by omega) (by omega)
    rw [show c + ((l[i].f1.size + sumF (l.drop (i + 1)) : Nat) : Int) = c + (l[i].f1.size : Int) + (sumF (l.drop (i + 1)) : Int) from by omega]
    exact this
theorem spec_bytes (l : List File) (a b c d : Int) (u : Bool) (hl : l.length ≤ 9223372036854775807) (hs : (sumF l : Int) ≤ 9223372036854775807) : Ev (fun k => spec_l6Bytes.f k l a b c d u) (sumF l : Int) := by
  have := spec_bytes_l0 l.length l 0 0 (by omega) hl (by omega) (by rw [List.drop_zero]; omega)
  rw [List.drop_zero, Int.zero_add] at this
  exact this
theorem spec_l0_step (l : List File) (cap count crash fail : Int) (u : Bool) (i : Nat) (k : Nat) (h : i < l.length) (hl : l.length ≤ 300) :
    spec_FsValid.l0 (k + 1) l l.length i l cap count crash fail u =
      (spec_l6FileName.f k l[i].f0).bind fun t => if t = true then (if decide (0 ≤ l[i].f2 ∧ l[i].f2 ≤ (l[i].f1.size : Int)) then (if (decide (i = 0) || Op.bytesLess ((l.getD (i - 1) l[i]).f0.toList) (l[i].f0.toList)) = true then spec_FsValid.l0 k l l.length ((i + 1 : Nat) : Int) l cap count crash fail u else some false) else some false) else some false := by
  rw [spec_FsValid.l0, if_pos (by omega), if_pos (by omega), if_pos (by omega), rdF l i h, wsucc i (by omega)]
  congr 1
  funext t
  cases t
  · simp
  · simp only [if_true, between_eq, Option.bind_some]
    by_cases h2 : 0 ≤ l[i].f2 ∧ l[i].f2 ≤ (l[i].f1.size : Int)
    · simp only [decide_eq_true h2, if_true]
      by_cases h0 : i = 0
      · subst h0; simp
      · have hw : wrap64 ((i : Int) - 1) = ((i - 1 : Nat) : Int) := by unfold wrap64; omega
        have hg : l.getD (i - 1) l[i] = l[i - 1]'(by omega) := by simp [List.getD, show i - 1 < l.length from by omega]
        rw [if_pos (by omega), hw, if_pos (by omega), if_pos (by omega), rdF l (i - 1) (by omega), hg]
        simp [h0]
    · simp only [decide_eq_false h2, if_neg (show ¬ (false = true) by decide)]
theorem spec_l0 (d : Nat) : ∀ (l : List File) (cap count crash fail : Int) (u : Bool) (i : Nat), i + d = l.length → l.length ≤ 300 →
    Ev (fun k => spec_FsValid.l0 k l l.length i l cap count crash fail u) (filesFrom l d i && (cntOk count && cntOk crash && cntOk fail)) := by
  induction d with
  | zero =>
    intro l cap count crash fail u i hi hl
    refine Ev.step (f := fun _ => some (cntOk count && cntOk crash && cntOk fail)) (fun k => ?_) (Ev.now _)
    rw [spec_FsValid.l0, if_neg (by omega)]
    simp only [between_eq, Option.bind_some]
    unfold cntOk
    by_cases h1 : 0 ≤ count ∧ count ≤ 1000000000000000 <;> by_cases h2 : 0 ≤ crash ∧ crash ≤ 1000000000000000 <;> simp [h1, h2]
  | succ d ih =>
    intro l cap count crash fail u i hi hl
    have hil : i < l.length := by omega
    refine Ev.step (fun k => spec_l0_step l cap count crash fail u i k hil hl) ?_
    refine (spec_name _).bind ?_
    simp only [filesFrom, fileOk_at l i hil]
    cases hn : nameOk l[i].f0
    · exact Ev.now _
    · simp only [if_true, Bool.true_and]
      by_cases h2 : 0 ≤ l[i].f2 ∧ l[i].f2 ≤ (l[i].f1.size : Int)
      · simp only [decide_eq_true h2, if_true, Bool.true_and]
        cases hb : (decide (i = 0) || Op.bytesLess ((l.getD (i - 1) l[i]).f0.toList) (l[i].f0.toList))
        · exact Ev.now _
        · simp only [if_true, Bool.true_and]
          exact ih l cap count crash fail u (i + 1) (by omega) hl
      · simp only [decide_eq_false h2, Bool.false_and, if_neg (show ¬ (false = true) by decide)]
        exact Ev.now _
theorem spec_fsOk (l : List File) (cap count crash fail : Int) (u : Bool) (hl : l.length ≤ 9223372036854775807) (hs : (sumF l : Int) ≤ 9223372036854775807) :
    Ev (fun k => spec_FsValid.f k l cap count crash fail u) (fsOk l cap count crash fail) := by
  have hbad : Ev (fun k => spec_FsValid.j0 k true l cap count crash fail u) false := Ev.step (f := fun _ => some false) (fun k => by rw [spec_FsValid.j0, if_pos rfl]) (Ev.now _)
  unfold spec_FsValid.f fsOk
  by_cases h1 : l.length ≤ 300
  · simp only [if_neg (show ¬ (l.length : Int) > 300 by omega), between_eq, Option.bind_some, decide_eq_true h1, Bool.true_and]
    by_cases h2 : 0 ≤ cap ∧ cap ≤ 1000000000
    · simp only [decide_eq_true h2, if_true, Bool.true_and]
      refine (spec_bytes l cap count crash fail u hl hs).bind ?_
      by_cases h3 : (sumF l : Int) ≤ cap
      · simp only [decide_eq_true h3, decide_eq_false (show ¬ (sumF l : Int) > cap by omega), Bool.true_and]
        refine Ev.step (fun k => by rw [spec_FsValid.j0, if_neg (by decide)]) ?_
        exact spec_l0 l.length l cap count crash fail u 0 (by omega) h1
      · simp only [decide_eq_false h3, decide_eq_true (show (sumF l : Int) > cap by omega), Bool.false_and]
        exact hbad
    · simp only [decide_eq_false h2, Bool.false_and, if_neg (show ¬ (false = true) by decide)]
      exact hbad
  · simp only [if_pos (show (l.length : Int) > 300 by omega), decide_eq_false h1, Bool.false_and]
    exact hbad
theorem impl_l1 (l : List File) (c : Int) (cap count crash fail : Int) (u : Bool) :
    Ev (fun k => impl_FsValid.l1 k c [count, crash, fail] 3 0 l cap count crash fail u) ((cntOk count && cntOk crash && cntOk fail) && decide (c ≤ cap)) := by
  have e : ∀ (k : Nat) (i : Nat) (x : Int), i < 3 → [count, crash, fail].getD i 0 = x → impl_FsValid.l1 (k + 1) c [count, crash, fail] 3 i l cap count crash fail u = if cntOk x then impl_FsValid.l1 k c [count, crash, fail] 3 ((i + 1 : Nat) : Int) l cap count crash fail u else some false := fun k i x hi hx => by
    have hr : rd [count, crash, fail] (i : Int) = x := by unfold rd; rw [Int.toNat_natCast]; exact hx
    rw [impl_FsValid.l1, if_pos (by omega), if_pos (by omega), if_pos (by simp; omega), hr, wsucc i (by omega)]
    unfold cntOk
    by_cases h1 : x < 0
    · rw [if_pos h1, if_neg (by simp; omega)]
    · rw [if_neg h1]
      by_cases h2 : x > 1000000000000000
      · rw [if_pos h2, if_neg (by simp; omega)]
      · rw [if_neg h2, if_pos (by simp; omega)]
  refine Ev.step (fun k => e k 0 count (by omega) rfl) ?_
  cases h1 : cntOk count
  · exact Ev.now _
  · simp only [if_true, Bool.true_and]
    refine Ev.step (fun k => e k 1 crash (by omega) rfl) ?_
    cases h2 : cntOk crash
    · exact Ev.now _
    · simp only [if_true, Bool.true_and]
      refine Ev.step (fun k => e k 2 fail (by omega) rfl) ?_
      cases h3 : cntOk fail
      · exact Ev.now _
      · simp only [if_true, Bool.true_and]
        exact Ev.step (f := fun _ => some (decide (c ≤ cap))) (fun k => by rw [impl_FsValid.l1, if_neg (by omega)]) (Ev.now _)
theorem impl_l0_step (l : List File) (c : Int) (cap count crash fail : Int) (u : Bool) (i : Nat) (k : Nat) (h : i < l.length) (hl : l.length ≤ 300) (h0 : 0 ≤ c) (hc : c + sumF (l.drop i) ≤ 9223372036854775807) (hnm : ∀ f ∈ l, f.f0.size ≤ 9223372036854775807) :
    impl_FsValid.l0 (k + 1) c l l.length i l cap count crash fail u =
      if fileOk l i then impl_FsValid.l0 k (c + l[i].f1.size) l l.length ((i + 1 : Nat) : Int) l cap count crash fail u else some false := by
  have hsz := sumF_drop l i h
  rw [impl_FsValid.l0, if_pos (by omega), if_pos (by omega), if_pos (by omega), rdF l i h, wsucc i (by omega), fileOk_at l i h]
  · rw [impl_name _ (hnm _ (List.getElem_mem h)), Option.bind_some, w64 (c + (l[i].f1.size : Int)) (by omega)]
    cases hn : nameOk l[i].f0
    · simp
    · simp only [if_true, Bool.true_and]
      by_cases h1 : l[i].f2 < 0
      · rw [if_pos h1, decide_eq_false (by omega)]; simp
      · rw [if_neg h1]
        by_cases h2 : l[i].f2 > (l[i].f1.size : Int)
        · rw [if_pos h2, decide_eq_false (by omega)]; simp
        · rw [if_neg h2, decide_eq_true (by omega)]
          by_cases hz : i = 0
          · subst hz; simp
          · have hw : wrap64 ((i : Int) - 1) = ((i - 1 : Nat) : Int) := by unfold wrap64; omega
            have hg : l.getD (i - 1) l[i] = l[i - 1]'(by omega) := by simp [List.getD, show i - 1 < l.length from by omega]
            rw [if_pos (by omega), hw, if_pos (by omega), if_pos (by omega), rdF l (i - 1) (by omega), hg]
            simp [hz]
theorem impl_l0 (d : Nat) : ∀ (l : List File) (c : Int) (cap count crash fail : Int) (u : Bool) (i : Nat), i + d = l.length → l.length ≤ 300 → 0 ≤ c → c + sumF (l.drop i) ≤ 9223372036854775807 → (∀ f ∈ l, f.f0.size ≤ 9223372036854775807) →
    Ev (fun k => impl_FsValid.l0 k c l l.length i l cap count crash fail u) (filesFrom l d i && ((cntOk count && cntOk crash && cntOk fail) && decide (c + sumF (l.drop i) ≤ cap))) := by
  induction d with
  | zero =>
    intro l c cap count crash fail u i hi hl h0 hc hnm
    have hd : l.drop i = [] := List.drop_eq_nil_of_le (by omega)
    rw [hd]
    refine Ev.step (f := fun k => impl_FsValid.l1 k c [count, crash, fail] 3 0 l cap count crash fail u) (fun k => ?_) ?_
    · rw [impl_FsValid.l0, if_neg (by omega)]; rfl
    · simpa [sumF, filesFrom] using impl_l1 l c cap count crash fail u
  | succ d ih =>
    intro l c cap count crash fail u i hi hl h0 hc hnm
    have hil : i < l.length := by omega
    have hsz := sumF_drop l i hil
    refine Ev.step (fun k => impl_l0_step l c cap count crash fail u i k hil hl h0 hc hnm) ?_
    simp only [filesFrom]
    cases hf : fileOk l i
    · exact Ev.now _
    · simp only [if_true, Bool.true_and]
      have := ih l (c + l[i].f1.size) cap count crash fail u (i + 1) (by omega) hl (by omega) (by omega) hnm
      rw [show c + (sumF (l.drop i) : Int) = c + (l[i].f1.size : Int) + (sumF (l.drop (i + 1)) : Int) from by omega]
      exact this
theorem impl_fsOk (l : List File) (cap count crash fail : Int) (u : Bool) (hl : l.length ≤ 9223372036854775807) (hs : (sumF l : Int) ≤ 9223372036854775807) (hnm : ∀ f ∈ l, f.f0.size ≤ 9223372036854775807) :
    Ev (fun k => impl_FsValid.f k l cap count crash fail u) (fsOk l cap count crash fail) := by
  have hbad : Ev (fun k => impl_FsValid.j0 k true l cap count crash fail u) false := Ev.step (f := fun _ => some false) (fun k => by rw [impl_FsValid.j0, if_pos rfl]) (Ev.now _)
  unfold impl_FsValid.f fsOk
  by_cases h1 : l.length ≤ 300
  · simp only [if_neg (show ¬ (l.length : Int) > 300 by omega), decide_eq_true h1, Bool.true_and]
    by_cases h2 : cap < 0
    · simp only [if_pos h2, decide_eq_false (show ¬ (0 ≤ cap ∧ cap ≤ 1000000000) by omega), Bool.false_and]
      exact hbad
    · simp only [if_neg h2]
      by_cases h3 : cap > 1000000000
      · simp only [decide_eq_true h3, decide_eq_false (show ¬ (0 ≤ cap ∧ cap ≤ 1000000000) by omega), Bool.false_and]
        exact hbad
      · simp only [decide_eq_false h3, decide_eq_true (show 0 ≤ cap ∧ cap ≤ 1000000000 by omega), Bool.true_and]
        refine Ev.step (fun k => by rw [impl_FsValid.j0, if_neg (by decide)]) ?_
        have := impl_l0 l.length l 0 cap count crash fail u 0 (by omega) h1 (by omega) (by rw [List.drop_zero]; omega) hnm
        rw [List.drop_zero, Int.zero_add] at this
        have e : (decide ((sumF l : Int) ≤ cap) && filesFrom l l.length 0 && (cntOk count && cntOk crash && cntOk fail)) = (filesFrom l l.length 0 && ((cntOk count && cntOk crash && cntOk fail) && decide ((sumF l : Int) ≤ cap))) := by
          cases decide ((sumF l : Int) ≤ cap) <;> cases filesFrom l l.length 0 <;> simp
        rw [e]
        exact this
  · simp only [if_pos (show (l.length : Int) > 300 by omega), decide_eq_false h1, Bool.false_and]
    exact hbad
end Go.Proofs.YtfknmohedlfmfaaGreatDoor.Pure
end
section
set_option linter.unusedVariables false
set_option linter.unusedSimpArgs false
namespace Go.Proofs.YtfknmohedlfmfaaGreatDoor.Pure
open Go.RowKit Go.Proofs.YtfknmohedlfmfaaGreatDoor Go.Proofs.YtfknmohedlfmfaaGreatDoor.L Go.Proofs.YtfknmohedlfmfaaGreatDoorW.PrintWords Go.Proofs.YtfknmohedlfmfaaGreatDoorW.PrintLast
abbrev LFile := S55
def cvF (f : LFile) : File := ⟨f.f0, f.f1, f.f2⟩
theorem rdLF (l : List LFile) (i : Nat) (h : i < l.length) : rd_T55 l (i : Int) = l[i] := by simp [rd_T55, h]
theorem toF_l0 (e : Nat) : ∀ (l : List LFile) (o : List File) (i : Nat), i + e = l.length → o.length = l.length → l.length ≤ 7036874417766 → (∀ j, j < i → o[j]? = (l.map cvF)[j]?) →
    Ev (fun k => laws_toFileS.l0 k l o i) (l.map cvF) := by
  induction e with
  | zero =>
    intro l o i hi ho hl hx
    have : o = l.map cvF := by
      apply List.ext_getElem?
      intro j
      by_cases hj : j < i
      · exact hx j hj
      · rw [List.getElem?_eq_none (by omega), List.getElem?_eq_none (by rw [List.length_map]; omega)]
    subst this
    exact Ev.step (f := fun _ => some (l.map cvF)) (fun k => by rw [laws_toFileS.l0, if_neg (by omega)]) (Ev.now _)
  | succ e ih =>
    intro l o i hi ho hl hx
    have hil : i < l.length := by omega
    refine Ev.step (f := fun k => laws_toFileS.l0 k l (o.set i (cvF l[i])) ((i + 1 : Nat) : Int)) (fun k => ?_) (ih l (o.set i (cvF l[i])) (i + 1) (by omega) (by rw [List.length_set]; exact ho) hl (fun j hj => ?_))
    · rw [laws_toFileS.l0, if_pos (by omega), if_pos (by omega), rdLF l i hil]
      unfold laws_toFile.f
      rw [Option.bind_some, if_pos (by omega), wsucc i (by omega)]
      rfl
    · rw [List.getElem?_set]
      by_cases h : i = j
      · subst h; simp [hil, ho]
      · rw [if_neg h]; exact hx j (by omega)
theorem toF_ev (l : List LFile) (h : l.length ≤ 7036874417766) : Ev (fun k => laws_toFileS.f k l) (l.map cvF) := by
  refine Ev.congr (fun k => ?_) (toF_l0 l.length l (List.replicate l.length z61) 0 (by omega) List.length_replicate h (fun j hj => by omega))
  unfold laws_toFileS.f
  rw [if_pos (by omega), if_pos (by omega)]
  simp
theorem toFs_ev (l : List LFile) (a b c d : Int) (u : Bool) (h : l.length ≤ 7036874417766) : Ev (fun k => laws_toFs.f k l a b c d u) (l.map cvF, a, b, c, d, u) := by
  unfold laws_toFs.f
  exact (toF_ev l h).bind (Ev.now _)
theorem eqF_l0 (e : Nat) : ∀ (l : List File) (i : Nat), i + e = l.length → l.length ≤ 9223372036854775807 → Ev (fun k => laws_eqFileS.l0 k l l i) true := by
  induction e with
  | zero =>
    intro l i hi hl
    exact Ev.step (f := fun _ => some true) (fun k => by rw [laws_eqFileS.l0, if_neg (by omega)]) (Ev.now _)
  | succ e ih =>
    intro l i hi hl
    exact Ev.step (fun k => by
      rw [laws_eqFileS.l0, if_pos (by omega), if_pos (by omega), if_pos (by omega), wsucc i (by omega)]
      unfold laws_eqFile.f
      rw [if_pos rfl, if_pos rfl, if_pos rfl, Option.bind_some, if_pos rfl]) (ih l (i + 1) (by omega) hl)
theorem eqF_ev (l : List File) (hl : l.length ≤ 9223372036854775807) : Ev (fun k => laws_eqFileS.f k l l) true := by
  refine Ev.congr (fun k => ?_) (eqF_l0 l.length l 0 (by omega) hl)
  unfold laws_eqFileS.f
  rw [if_pos rfl]
  rfl
theorem eqFs_ev (l : List File) (a b c d : Int) (u : Bool) (hl : l.length ≤ 9223372036854775807) : Ev (fun k => laws_eqFs.f k l a b c d u l a b c d u) true := by
  unfold laws_eqFs.f
  refine (eqF_ev l hl).bind ?_
  simp only [if_true, bne_self_eq_false, if_neg (show ¬ (false = true) by decide)]
  exact Ev.now _
/-- What a list of files weighs: its places, the bytes of the names and the data. -/
def wF (l : List LFile) : Nat := (l.map fun f => f.f0.size + f.f1.size).sum
theorem wF_drop (l : List LFile) (i : Nat) (h : i < l.length) : wF (l.drop i) = l[i].f0.size + l[i].f1.size + wF (l.drop (i + 1)) := by
  rw [show l.drop i = l[i] :: l.drop (i + 1) from List.drop_eq_getElem_cons h]
  rfl
theorem szF_l0 (e : Nat) : ∀ (l : List LFile) (i : Nat) (a : Int), i + e = l.length → l.length ≤ 9223372036854775807 → (∀ y ∈ l, y.f0.size ≤ 9223372036854775807 ∧ y.f1.size ≤ 9223372036854775807) → 0 ≤ a → a ≤ 9223372036854775807 →
    Ev (fun k => laws_szFileS.l0 k l a i) (if (wF (l.drop i) : Int) ≤ a then a - wF (l.drop i) else -1) := by
  induction e with
  | zero =>
    intro l i a hi hl hs h0 h1
    have hd : l.drop i = [] := List.drop_eq_nil_of_le (by omega)
    rw [hd]
    refine Ev.step (f := fun _ => some a) (fun k => by rw [laws_szFileS.l0, if_neg (by omega)]) ?_
    simp [wF, h0]
    exact Ev.now _
  | succ e ih =>
    intro l i a hi hl hs h0 h1
    have hil : i < l.length := by omega
    have hy := hs _ (List.getElem_mem hil)
    have hsum := wF_drop l i hil
    by_cases hc : a - (l[i].f0.size : Int) < 0
    · refine Ev.step (f := fun _ => some (-1)) (fun k => ?_) ?_
      · rw [laws_szFileS.l0, if_pos (by omega), if_pos (by omega), rdLF l i hil]
        unfold laws_szFile.f
        rw [w64 (a - (l[i].f0.size : Int)) (by omega), if_pos hc]; rfl
      · rw [if_neg (by omega)]; exact Ev.now _
    · by_cases hc2 : a - (l[i].f0.size : Int) - (l[i].f1.size : Int) < 0
      · refine Ev.step (f := fun _ => some (-1)) (fun k => ?_) ?_
        · rw [laws_szFileS.l0, if_pos (by omega), if_pos (by omega), rdLF l i hil]
          unfold laws_szFile.f
          rw [w64 (a - (l[i].f0.size : Int)) (by omega), if_neg hc, w64 (a - (l[i].f0.size : Int) - (l[i].f1.size : Int)) (by omega), if_pos hc2]; rfl
        · rw [if_neg (by omega)]; exact Ev.now _
      · refine Ev.step (fun k => ?_) ?_ (f := fun k => laws_szFileS.l0 k l (a - (l[i].f0.size : Int) - (l[i].f1.size : Int)) ((i + 1 : Nat) : Int))
        · rw [laws_szFileS.l0, if_pos (by omega), if_pos (by omega), rdLF l i hil]
          unfold laws_szFile.f
          rw [w64 (a - (l[i].f0.size : Int)) (by omega), if_neg hc, w64 (a - (l[i].f0.size : Int) - (l[i].f1.size : Int)) (by omega), if_neg hc2, Option.bind_some, if_neg (by omega), wsucc i (by omega)]
        · have := ih l (i + 1) (a - (l[i].f0.size : Int) - (l[i].f1.size : Int)) (by omega) hl hs (by omega) (by omega)
          have e1 : ((wF (l.drop (i + 1)) : Int) ≤ a - (l[i].f0.size : Int) - (l[i].f1.size : Int)) ↔ ((wF (l.drop i) : Int) ≤ a) := by rw [hsum]; omega
          have e2 : a - (l[i].f0.size : Int) - (l[i].f1.size : Int) - (wF (l.drop (i + 1)) : Int) = a - (wF (l.drop i) : Int) := by rw [hsum]; omega
          rw [e2] at this
          simpa only [e1] using this
def wtF (l : List LFile) : Nat := l.length + wF l
theorem szF_ev (l : List LFile) (a : Int) (hl : l.length ≤ 9223372036854775807) (hs : ∀ y ∈ l, y.f0.size ≤ 9223372036854775807 ∧ y.f1.size ≤ 9223372036854775807) (h0 : 0 ≤ a) (h1 : a ≤ 1048576) :
    Ev (fun k => laws_szFileS.f k l a) (if (wtF l : Int) ≤ a then a - wtF l else -1) := by
  unfold laws_szFileS.f
  simp only [w64 (a - (l.length : Int)) (by omega)]
  by_cases hc : a - (l.length : Int) < 0
  · simp only [if_pos hc]
    rw [if_neg (by unfold wtF; omega)]
    exact Ev.now _
  · simp only [if_neg hc]
    have h := szF_l0 l.length l 0 (a - (l.length : Int)) (by omega) hl hs (by omega) (by omega)
    simp only [List.drop_zero] at h
    have e1 : ((wF l : Int) ≤ a - (l.length : Int)) ↔ ((wtF l : Int) ≤ a) := by unfold wtF; omega
    have e2 : a - (l.length : Int) - (wF l : Int) = a - (wtF l : Int) := by unfold wtF; omega
    rw [e2] at h
    simp only [e1] at h
    exact h
theorem szFs_ev (l : List LFile) (a b c d : Int) (u : Bool) (m : Int) (hl : l.length ≤ 9223372036854775807) (hs : ∀ y ∈ l, y.f0.size ≤ 9223372036854775807 ∧ y.f1.size ≤ 9223372036854775807) (h0 : 0 ≤ m) (h1 : m ≤ 1048576) :
    Ev (fun k => laws_szFs.f k l a b c d u m) (if (wtF l : Int) ≤ m then m - wtF l else -1) := by
  unfold laws_szFs.f
  refine (szF_ev l m hl hs h0 h1).bind ?_
  by_cases hc : (wtF l : Int) ≤ m
  · simp only [if_pos hc, if_neg (show ¬ (m - (wtF l : Int) < 0) by omega)]; exact Ev.now _
  · simp only [if_neg hc, if_pos (show (-1 : Int) < 0 by decide)]; exact Ev.now _
end Go.Proofs.YtfknmohedlfmfaaGreatDoor.Pure
end
section
set_option linter.unusedVariables false
set_option linter.unusedSimpArgs false
namespace Go.Proofs.YtfknmohedlfmfaaGreatDoor.Pure
open Go Go.RowKit Go.Proofs.YtfknmohedlfmfaaGreatDoor Go.Proofs.YtfknmohedlfmfaaGreatDoor.L Go.Proofs.YtfknmohedlfmfaaGreatDoorW.PrintWords Go.Proofs.YtfknmohedlfmfaaGreatDoorW.PrintMore Go.Proofs.YtfknmohedlfmfaaGreatDoorW.PrintLast
theorem nums_size (l : List Int) : (strOfNums l).size = l.length := by simp [strOfNums, ByteArray.size]
theorem markText_l0 (d : Nat) : ∀ (n : Nat) (acc : ByteArray), n < 10 ^ d → d ≤ 18 → acc.size + d ≤ 100 → ∃ r, Ev (fun k => laws_markText.l0 k (n : Int) acc) r := by
  induction d with
  | zero =>
    intro n acc hn _ ha
    have : n = 0 := by omega
    subst this
    refine ⟨(⟨#[109]⟩ : ByteArray) ++ acc, Ev.step (f := fun _ => some ((⟨#[109]⟩ : ByteArray) ++ acc)) (fun k => ?_) (Ev.now _)⟩
    rw [laws_markText.l0, if_neg (by omega), if_pos (by omega)]
  | succ d ih =>
    intro n acc hn hd ha
    by_cases hz : n = 0
    · subst hz
      refine ⟨(⟨#[109]⟩ : ByteArray) ++ acc, Ev.step (f := fun _ => some ((⟨#[109]⟩ : ByteArray) ++ acc)) (fun k => ?_) (Ev.now _)⟩
      rw [laws_markText.l0, if_neg (by omega), if_pos (by omega)]
    · have hlt : n < 9223372036854775808 := by
        have : (10 : Nat) ^ (d + 1) ≤ 10 ^ 18 := Nat.pow_le_pow_right (by decide) (by omega)
        omega
      have e2 : Int.tdiv (n : Int) 10 = ((n / 10 : Nat) : Int) := (Int.ofNat_tdiv n 10).symm
      have e4 : wrap64 ((n / 10 : Nat) : Int) = ((n / 10 : Nat) : Int) := by unfold wrap64; omega
      obtain ⟨s, hs⟩ : ∃ s, strOfNums [(wrap64 (48 + (Int.tmod (n : Int) 10))) % 256] = s := ⟨_, rfl⟩
      have hsz : s.size = 1 := by rw [← hs, nums_size]; rfl
      obtain ⟨r, hr⟩ := ih (n / 10) (s ++ acc) (by rw [Nat.pow_succ] at hn; omega) (by omega) (by rw [ByteArray.size_append]; omega)
      refine ⟨r, Ev.step (f := fun k => laws_markText.l0 k ((n / 10 : Nat) : Int) (s ++ acc)) (fun k => ?_) hr⟩
      rw [laws_markText.l0, if_pos (by omega), e2, e4]
      simp only [Option.bind_some, hs]
      rw [if_pos (by omega)]
theorem markText_ex (n : Nat) (hn : n < 1000000000000000000) : ∃ r, Ev (fun k => laws_markText.f k (n : Int)) r := by
  unfold laws_markText.f
  by_cases h : (n : Int) ≤ 0
  · simp only [if_pos h]; exact ⟨_, Ev.now _⟩
  · simp only [if_neg h]
    exact markText_l0 18 n _ hn (by omega) (by show (0 : Nat) + 18 ≤ 100; omega)
/-- What the marks are: one function of the number. -/
theorem marks : ∃ mk : Nat → ByteArray, ∀ n : Nat, n < 1000000000000000000 → Ev (fun k => laws_markText.f k (n : Int)) (mk n) :=
  ⟨fun n => if h : n < 1000000000000000000 then (markText_ex n h).choose else ByteArray.empty, fun n hn => by
    have := (markText_ex n hn).choose_spec
    simpa only [dif_pos hn] using this⟩
end Go.Proofs.YtfknmohedlfmfaaGreatDoor.Pure
end
section
set_option linter.unusedVariables false
set_option linter.unusedSimpArgs false
namespace Go.Proofs.YtfknmohedlfmfaaGreatDoor.Pure
open Go Go.RowKit Go.Proofs.YtfknmohedlfmfaaGreatDoor Go.Proofs.YtfknmohedlfmfaaGreatDoor.L Go.Proofs.YtfknmohedlfmfaaGreatDoorW.PrintWords Go.Proofs.YtfknmohedlfmfaaGreatDoorW.PrintMore Go.Proofs.YtfknmohedlfmfaaGreatDoorW.PrintLast
theorem rdF_set (x : List File) (i : Nat) (v : File) (h : i < x.length) : rd_T61 (x.set i v) (i : Int) = v := by
  rw [rdF _ i (by rw [List.length_set]; exact h), List.getElem_set_self]
/-- So many marked files from a on. -/
def markFL (mk : Nat → ByteArray) (a n : Nat) : List File := (List.range n).map fun j => ⟨mk (a + 3 * j), mk (a + 3 * j + 1), ((a + 3 * j + 2 : Nat) : Int)⟩
theorem markFL_length (mk : Nat → ByteArray) (a n : Nat) : (markFL mk a n).length = n := by simp [markFL]
theorem markFL_at (mk : Nat → ByteArray) (a n i : Nat) (h : i < n) : (markFL mk a n)[i]? = some ⟨mk (a + 3 * i), mk (a + 3 * i + 1), ((a + 3 * i + 2 : Nat) : Int)⟩ := by simp [markFL, h]
theorem markF_l0 (mk : Nat → ByteArray) (hmk : ∀ n : Nat, n < 1000000000000000000 → Ev (fun k => laws_markText.f k (n : Int)) (mk n)) (a : Nat) (d : Nat) : ∀ (x : List File) (i : Nat), i + d = x.length → a + 3 * x.length < 1000000000000000 →
    (∀ j, j < i → x[j]? = some ⟨mk (a + 3 * j), mk (a + 3 * j + 1), ((a + 3 * j + 2 : Nat) : Int)⟩) → Ev (fun k => laws_markFileS.l0 k x ((a + 3 * i : Nat) : Int) (i : Int)) (((a + 3 * x.length : Nat) : Int), markFL mk a x.length) := by
  induction d with
  | zero =>
    intro x i hi hb hx
    have e : x = markFL mk a x.length := by
      apply List.ext_getElem?
      intro j
      by_cases hj : j < x.length
      · rw [hx j (by omega), markFL_at mk a _ j hj]
      · rw [List.getElem?_eq_none (by omega), List.getElem?_eq_none (by rw [markFL_length]; omega)]
    rw [← e]
    refine Ev.step (f := fun _ => some (((a + 3 * x.length : Nat) : Int), x)) (fun k => ?_) (Ev.now _)
    rw [laws_markFileS.l0, if_neg (by omega)]
    obtain rfl : i = x.length := by omega
    rfl
  | succ d ih =>
    intro x i hi hb hx
    have hil : i < x.length := by omega
    have w1 : wrap64 (((a + 3 * i : Nat) : Int) + 1) = ((a + 3 * i + 1 : Nat) : Int) := by unfold wrap64; omega
    have w2 : wrap64 (((a + 3 * i + 1 : Nat) : Int) + 1) = ((a + 3 * i + 2 : Nat) : Int) := by unfold wrap64; omega
    have w3 : wrap64 (((a + 3 * i + 2 : Nat) : Int) + 1) = ((a + 3 * (i + 1) : Nat) : Int) := by unfold wrap64; omega
    refine Ev.step (f := fun k => (laws_markText.f k ((a + 3 * i : Nat) : Int)).bind fun t => (laws_markText.f k ((a + 3 * i + 1 : Nat) : Int)).bind fun u => laws_markFileS.l0 k (x.set i ⟨t, u, ((a + 3 * i + 2 : Nat) : Int)⟩) ((a + 3 * (i + 1) : Nat) : Int) ((i + 1 : Nat) : Int)) (fun k => ?_) ?_
    · rw [laws_markFileS.l0, if_pos (by omega)]
      simp only [if_pos (show (0 : Int) ≤ (i : Int) by omega), w1, w2, w3, wsucc i (by omega), Int.toNat_natCast, Option.bind_some, rdF_set x i _ hil, List.set_set]
      try (congr 1; funext t; congr 1; funext u; rw [rdF_set _ i _ hil])
    · refine (hmk (a + 3 * i) (by omega)).bind ?_
      refine (hmk (a + 3 * i + 1) (by omega)).bind ?_
      have hl : (x.set i (⟨mk (a + 3 * i), mk (a + 3 * i + 1), ((a + 3 * i + 2 : Nat) : Int)⟩ : File)).length = x.length := List.length_set
      have := ih (x.set i ⟨mk (a + 3 * i), mk (a + 3 * i + 1), ((a + 3 * i + 2 : Nat) : Int)⟩) (i + 1) (by omega) (by omega) (fun j hj => by
        by_cases h : j = i
        · subst h; rw [List.getElem?_set_self hil]
        · rw [List.getElem?_set_ne (by omega)]; exact hx j (by omega))
      rw [hl] at this
      exact this
theorem markFs_ev (mk : Nat → ByteArray) (hmk : ∀ n : Nat, n < 1000000000000000000 → Ev (fun k => laws_markText.f k (n : Int)) (mk n)) (x : List File) (b c d e : Int) (u : Bool) (h : x.length < 10000000) :
    Ev (fun k => laws_markFs.f k x b c d e u 1) (((1 + 3 * x.length : Nat) : Int), markFL mk 1 x.length) := by
  unfold laws_markFs.f laws_markFileS.f
  exact (markF_l0 mk hmk 1 x.length x 0 (by omega) (by omega) (fun j hj => by omega)).bind (f := fun _ t => some (t.1, t.2)) (Ev.now _)
theorem heldF_l0 (mk : Nat → ByteArray) (hmk : ∀ n : Nat, n < 1000000000000000000 → Ev (fun k => laws_markText.f k (n : Int)) (mk n)) (a n : Nat) (hb : a + 3 * n < 1000000000000000) (d : Nat) : ∀ (i : Nat), i + d = n →
    Ev (fun k => laws_heldFileS.l0 k (markFL mk a n) ((a + 3 * i : Nat) : Int) (i : Int)) ((a + 3 * n : Nat) : Int) := by
  induction d with
  | zero =>
    intro i hi
    refine Ev.step (f := fun _ => some ((a + 3 * n : Nat) : Int)) (fun k => ?_) (Ev.now _)
    rw [laws_heldFileS.l0, if_neg (by rw [markFL_length]; omega)]
    obtain rfl : i = n := by omega
    rfl
  | succ d ih =>
    intro i hi
    have hil : i < (markFL mk a n).length := by rw [markFL_length]; omega
    have hat : (markFL mk a n)[i] = ⟨mk (a + 3 * i), mk (a + 3 * i + 1), ((a + 3 * i + 2 : Nat) : Int)⟩ := by
      have := markFL_at mk a n i (by omega)
      rw [List.getElem?_eq_getElem hil] at this
      exact Option.some.inj this
    have w1 : wrap64 (((a + 3 * i : Nat) : Int) + 1) = ((a + 3 * i + 1 : Nat) : Int) := by unfold wrap64; omega
    have w2 : wrap64 (((a + 3 * i + 1 : Nat) : Int) + 1) = ((a + 3 * i + 2 : Nat) : Int) := by unfold wrap64; omega
    have w3 : wrap64 (((a + 3 * i + 2 : Nat) : Int) + 1) = ((a + 3 * (i + 1) : Nat) : Int) := by unfold wrap64; omega
    refine Ev.step (f := fun k => (laws_markText.f k ((a + 3 * i : Nat) : Int)).bind fun t => if (mk (a + 3 * i)).toList = t.toList then ((laws_markText.f k ((a + 3 * i + 1 : Nat) : Int)).bind fun u => if (mk (a + 3 * i + 1)).toList = u.toList then laws_heldFileS.l0 k (markFL mk a n) ((a + 3 * (i + 1) : Nat) : Int) ((i + 1 : Nat) : Int) else some (-1)) else some (-1)) (fun k => ?_) ?_
    · rw [laws_heldFileS.l0, if_pos (by omega), if_pos (by omega), rdF _ i hil, hat]
      simp only [w1, w2, w3, wsucc i (by omega), if_true]
    · refine (hmk (a + 3 * i) (by omega)).bind ?_
      simp only [if_true]
      refine (hmk (a + 3 * i + 1) (by omega)).bind ?_
      simp only [if_true]
      exact ih (i + 1) (by omega)
theorem heldFs_ev (mk : Nat → ByteArray) (hmk : ∀ n : Nat, n < 1000000000000000000 → Ev (fun k => laws_markText.f k (n : Int)) (mk n)) (n : Nat) (b c d e : Int) (u : Bool) (h : n < 10000000) :
    Ev (fun k => laws_heldFs.f k (markFL mk 1 n) b c d e u 1) ((1 + 3 * n : Nat) : Int) := by
  unfold laws_heldFs.f laws_heldFileS.f
  refine (heldF_l0 mk hmk 1 n (by omega) n 0 (by omega)).bind (f := fun _ t => if t < 0 then some (-1) else some t) ?_
  simp only [if_neg (show ¬ ((1 + 3 * n : Nat) : Int) < 0 by omega)]
  exact Ev.now _
end Go.Proofs.YtfknmohedlfmfaaGreatDoor.Pure
end
section
set_option linter.unusedVariables false
set_option linter.unusedSimpArgs false
namespace Go.Proofs.YtfknmohedlfmfaaGreatDoor.Pure
open Go.RowKit Go.Proofs.YtfknmohedlfmfaaGreatDoor Go.Proofs.YtfknmohedlfmfaaGreatDoor.L Go.Proofs.YtfknmohedlfmfaaGreatDoorW.PrintWords Go.Proofs.YtfknmohedlfmfaaGreatDoorW.PrintLast
theorem xor_par (r b : Nat) : (r ^^^ b) % 2 = (r + b) % 2 := by
  have h := Nat.xor_mod_two_pow (a := r) (b := b) (n := 1)
  have h' : (r ^^^ b) % 2 = (r % 2) ^^^ (b % 2) := by simpa using h
  rw [h', Nat.add_mod]
  rcases Nat.mod_two_eq_zero_or_one r with h1 | h1 <;> rcases Nat.mod_two_eq_zero_or_one b with h2 | h2 <;> rw [h1, h2] <;> rfl
theorem xor_half (r b : Nat) : (r ^^^ b) / 2 = r / 2 ^^^ b / 2 := by
  have := Nat.xor_div_two_pow (a := r) (b := b) (n := 1)
  simpa using this
/-- The reference's inner loop from step j on: what is left of the eight steps. -/
theorem crc_l1 (d : Nat) : ∀ (j k : Nat) (s : ByteArray) (i : Int) (r b : Nat), j + d = 8 → b < 2 ^ d → r < 4294967296 →
    spec_Crc32.l1 (k + d + 1) s r i b j = spec_Crc32.l0 k s (crcLs d (r ^^^ b) : Nat) (wrap64 (i + 1)) := by
  induction d with
  | zero =>
    intro j k s i r b hj hb hr
    have hb0 : b = 0 := by omega
    have hj8 : ¬ ((j : Int) < 8) := by omega
    subst hb0
    simp only [spec_Crc32.l1, Nat.add_zero]
    rw [if_neg hj8]
    simp [crcLs]
  | succ d ih =>
    intro j k s i r b hj hb hr
    have hj8 : (j : Int) < 8 := by omega
    have hb8 : b < 256 := by
      have h1 : (2 : Nat) ^ (d + 1) ≤ 2 ^ 8 := Nat.pow_le_pow_right (by decide) (by omega)
      omega
    have hb2 : b / 2 < 2 ^ d := by rw [Nat.pow_succ] at hb; omega
    have e1 : (Int.tmod (wrap64 ((r : Int) + (b : Int))) 2) = (((r + b) % 2 : Nat) : Int) := by
      have : wrap64 ((r : Int) + (b : Int)) = ((r + b : Nat) : Int) := by unfold wrap64; omega
      rw [this]
      exact (Int.ofNat_tmod (r + b) 2).symm
    have e2 : wrap64 (Int.tdiv (r : Int) 2) = ((r / 2 : Nat) : Int) := by
      have : Int.tdiv (r : Int) 2 = ((r / 2 : Nat) : Int) := (Int.ofNat_tdiv r 2).symm
      rw [this]; unfold wrap64; omega
    have e3 : wrap64 (Int.tdiv (b : Int) 2) = ((b / 2 : Nat) : Int) := by
      have : Int.tdiv (b : Int) 2 = ((b / 2 : Nat) : Int) := (Int.ofNat_tdiv b 2).symm
      rw [this]; unfold wrap64; omega
    have e4 : wrap64 ((j : Int) + 1) = ((j + 1 : Nat) : Int) := by unfold wrap64; omega
    have e5 : Go.bits .xor .i64 ((r / 2 : Nat) : Int) 3988292384 = ((r / 2 ^^^ 3988292384 : Nat) : Int) := by
      have h3 : (3988292384 : Int) = ((3988292384 : Nat) : Int) := rfl
      rw [h3, xorN_i64 _ _ (by omega) (by omega)]
    have hx := xor_par r b
    have hh := xor_half r b
    have hL : crcLs (d + 1) (r ^^^ b) = crcLs d (crcL (r ^^^ b)) := crcLs_add d 1 _
    rw [show k + (d + 1) + 1 = (k + d + 1) + 1 from by omega]
    rw [spec_Crc32.l1, if_pos hj8, e1, e2, e3, e4, e5]
    by_cases ho : (r + b) % 2 = 1
    · rw [if_pos (by rw [ho]; rfl)]
      have hlt : r / 2 ^^^ 3988292384 < 2 ^ 32 := Nat.xor_lt_two_pow (by omega) (by omega)
      rw [ih (j + 1) k s i _ _ (by omega) hb2 (by omega), hL]
      have hv : (r / 2 ^^^ 3988292384) ^^^ (b / 2) = crcL (r ^^^ b) := by
        unfold crcL
        rw [hx, hh, if_pos ho, Nat.xor_assoc, Nat.xor_comm 3988292384, ← Nat.xor_assoc]
      rw [hv]
    · rw [if_neg (by omega)]
      rw [ih (j + 1) k s i _ _ (by omega) hb2 (by omega), hL]
      have hv : r / 2 ^^^ (b / 2) = crcL (r ^^^ b) := by
        unfold crcL
        rw [hx, hh, if_neg ho, Nat.xor_zero]
      rw [hv]
theorem crc_l0 (e : Nat) : ∀ (k : Nat) (s : ByteArray) (i : Nat), s.size ≤ 140737488351232 → i + e = s.size →
    spec_Crc32.l0 (k + 10 * e + 1) s (crcN s i : Nat) i = some (4294967295 - ((crcN s s.size : Nat) : Int)) := by
  induction e with
  | zero =>
    intro k s i hs hi
    obtain rfl : i = s.size := by omega
    simp only [spec_Crc32.l0, Nat.mul_zero, Nat.add_zero]
    rw [if_neg (by omega)]
    have := crcN_lt s s.size
    congr 1
    unfold wrap64
    omega
  | succ e ih =>
    intro k s i hs hi
    have hlt : (i : Int) < s.size := by omega
    have hb := bt_nat s i
    have hw : wrap64 (bt s i) = ((bt s i).toNat : Int) := by
      rw [← hb.1]
      have := bt_range s i
      unfold wrap64
      omega
    have hi1 : wrap64 ((i : Int) + 1) = ((i + 1 : Nat) : Int) := by unfold wrap64; omega
    rw [show k + 10 * (e + 1) + 1 = (k + 10 * e + 1 + 8 + 1) + 1 from by omega]
    rw [spec_Crc32.l0, if_pos hlt, if_pos (by omega), hw]
    have h := crc_l1 8 0 (k + 10 * e + 1) s i (crcN s i) (bt s i).toNat rfl (by have := hb.2; omega) (crcN_lt s i)
    rw [show ((0 : Nat) : Int) = 0 from rfl] at h
    rw [h, hi1]
    exact ih k s (i + 1) hs (by omega)
theorem spec_crc (s : ByteArray) (hs : s.size ≤ 140737488351232) : ∃ k, spec_Crc32.f k s = some (4294967295 - ((crcN s s.size : Nat) : Int)) :=
  ⟨_, crc_l0 s.size 0 s 0 hs (by omega)⟩
theorem impl_crc (s : ByteArray) (hs : s.size ≤ 140737488351232) : impl_Crc32.f s = some (4294967295 - ((crcN s s.size : Nat) : Int)) := by
  unfold impl_Crc32.f
  rw [if_pos (by omega), crcReg_nat]
end Go.Proofs.YtfknmohedlfmfaaGreatDoor.Pure
end
section
set_option linter.unusedVariables false
set_option linter.unusedSimpArgs false
namespace Go.Proofs.YtfknmohedlfmfaaGreatDoor
open Go.RowKit Go.Proofs.YtfknmohedlfmfaaGreatDoorW.PrintWords
/-- The lowest bytes of v, the highest first: so many. -/
def numB : Nat → Int → List Int
  | 0, _ => []
  | n + 1, v => (v / 256 ^ n) % 256 :: numB n v
theorem numB_length (n : Nat) (v : Int) : (numB n v).length = n := by
  induction n with
  | zero => rfl
  | succ n ih => simp [numB, ih]
theorem numB_get (n : Nat) : ∀ (v : Int) (i : Nat), i < n → (numB n v)[i]? = some ((v / 256 ^ (n - 1 - i)) % 256) := by
  induction n with
  | zero => intro v i h; omega
  | succ n ih =>
    intro v i h
    cases i with
    | zero => simp [numB]
    | succ i => simp only [numB, List.getElem?_cons_succ]; rw [ih v i (by omega)]; congr 4; omega
theorem strOfNums_size (l : List Int) : (strOfNums l).size = l.length := by simp [strOfNums, ByteArray.size]
end Go.Proofs.YtfknmohedlfmfaaGreatDoor
end
section
set_option linter.unusedVariables false
set_option linter.unusedSimpArgs false
namespace Go.Proofs.YtfknmohedlfmfaaGreatDoor.Pure
open Go.RowKit Go.Proofs.YtfknmohedlfmfaaGreatDoor Go.Proofs.YtfknmohedlfmfaaGreatDoor.L Go.Proofs.YtfknmohedlfmfaaGreatDoorW.PrintWords Go.Proofs.YtfknmohedlfmfaaGreatDoorW.PrintLast
theorem num_l1 (d : Nat) : ∀ (j : Nat) (x1 : Int) (x5 : List Int) (i : Nat) (x : Int) (r : ByteArray), j + d = i → i ≤ 100 → x5.length < 1000 →
    Ev (fun k => spec_l1Num.l0 k x1 (x5 ++ [(x / 256 ^ d) % 256]) (wrap64 ((i : Int) - 1))) r → Ev (fun k => spec_l1Num.l1 k x1 x5 i x j) r := by
  induction d with
  | zero =>
    intro j x1 x5 i x r hj hi hl h
    refine Ev.step (f := fun k => spec_l1Num.l0 k x1 (x5 ++ [x % 256]) (wrap64 ((i : Int) - 1))) (fun k => ?_) ?_
    · rw [spec_l1Num.l1, if_neg (by omega), if_pos (by omega)]
    · simpa using h
  | succ d ih =>
    intro j x1 x5 i x r hj hi hl h
    refine Ev.step (f := fun k => spec_l1Num.l1 k x1 x5 i (x / 256) ((j + 1 : Nat) : Int)) (fun k => ?_) ?_
    · rw [spec_l1Num.l1, if_pos (by omega), show wrap64 ((j : Int) + 1) = ((j + 1 : Nat) : Int) from by unfold wrap64; omega]
    · refine ih (j + 1) x1 x5 i (x / 256) r (by omega) hi hl ?_
      rw [Int.ediv_ediv_of_nonneg (by decide), show (256 : Int) * 256 ^ d = 256 ^ (d + 1) from by rw [Int.pow_succ]; exact Int.mul_comm _ _]
      exact h
theorem num_l0 (n : Nat) : ∀ (x1 : Int) (x5 : List Int), n ≤ 100 → x5.length + n < 1000 →
    Ev (fun k => spec_l1Num.l0 k x1 x5 ((n : Int) - 1)) (strOfNums (x5 ++ numB n x1)) := by
  induction n with
  | zero =>
    intro x1 x5 _ _
    refine Ev.step (f := fun _ => some (strOfNums x5)) (fun k => ?_) ?_
    · rw [spec_l1Num.l0, if_neg (by omega)]
    · simpa [numB] using Ev.now _
  | succ n ih =>
    intro x1 x5 hn hl
    refine Ev.step (f := fun k => spec_l1Num.l1 k x1 x5 ((n + 1 : Nat) - 1) x1 0) (fun k => ?_) ?_
    · rw [spec_l1Num.l0, if_pos (by omega)]
    · have e : (((n + 1 : Nat) : Int) - 1) = (n : Int) := by omega
      rw [e]
      refine num_l1 n 0 x1 x5 n x1 _ (by omega) (by omega) (by omega) ?_
      have hw : wrap64 ((n : Int) - 1) = (n : Int) - 1 := by unfold wrap64; omega
      rw [hw]
      have := ih x1 (x5 ++ [(x1 / 256 ^ n) % 256]) (by omega) (by simp; omega)
      simpa [numB, List.append_assoc] using this
theorem spec_num (n : Nat) (v : Int) (hn : n ≤ 100) : Ev (fun k => spec_l1Num.f k n v) (strOfNums (numB n v)) := by
  have h := num_l0 n v [] hn (by simp; omega)
  refine Ev.congr (f := fun k => spec_l1Num.l0 k v [] ((n : Int) - 1)) (fun k => ?_) (by simpa using h)
  unfold spec_l1Num.f
  rw [show wrap64 ((n : Int) - 1) = (n : Int) - 1 from by unfold wrap64; omega]
end Go.Proofs.YtfknmohedlfmfaaGreatDoor.Pure
end
section
set_option linter.unusedVariables false
set_option linter.unusedSimpArgs false
namespace Go.Proofs.YtfknmohedlfmfaaGreatDoor.Pure
open Go.RowKit Go.Proofs.YtfknmohedlfmfaaGreatDoor Go.Proofs.YtfknmohedlfmfaaGreatDoor.L Go.Proofs.YtfknmohedlfmfaaGreatDoorW.PrintWords Go.Proofs.YtfknmohedlfmfaaGreatDoorW.PrintLast
/-- A frame: the length, the CRC, the entry; nothing of an entry of another length. -/
def frameB (s : ByteArray) : ByteArray :=
  if 1 ≤ s.size ∧ s.size ≤ 60000 then (strOfNums (numB 4 s.size) ++ strOfNums (numB 4 (4294967295 - ((crcN s s.size : Nat) : Int)))) ++ s else ⟨#[]⟩
theorem spec_frame (s : ByteArray) (hs : s.size ≤ 140737488351232) : Ev (fun k => spec_Frame.f k s) (frameB s) := by
  unfold spec_Frame.f frameB spec_l1Between.f
  by_cases h1 : 1 ≤ s.size
  · rw [if_pos (show (1 : Int) ≤ (s.size : Int) by omega)]
    simp only [Option.bind_some, decide_eq_true_eq]
    by_cases h2 : s.size ≤ 60000
    · simp only [if_pos (show (s.size : Int) ≤ 60000 by omega), if_pos (And.intro h1 h2)]
      refine (spec_num 4 s.size (by omega)).bind ?_
      obtain ⟨k, hk⟩ := spec_crc s hs
      refine (Ev.of (spec_Crc32.mono s) hk).bind ?_
      refine (spec_num 4 _ (by omega)).bind ?_
      simp only [strOfNums_size, ByteArray.size_append, numB_length]
      rw [if_pos (by omega), if_pos (by omega)]
      exact Ev.now _
    · simp only [if_neg (show ¬ (s.size : Int) ≤ 60000 by omega), if_neg (show ¬ (1 ≤ s.size ∧ s.size ≤ 60000) from fun h => h2 h.2)]
      exact Ev.now _
  · rw [if_neg (show ¬ (1 : Int) ≤ (s.size : Int) by omega)]
    simp only [Option.bind_some, if_neg (show ¬ (1 ≤ s.size ∧ s.size ≤ 60000) from fun h => h1 h.1)]
    exact Ev.now _
end Go.Proofs.YtfknmohedlfmfaaGreatDoor.Pure
end
section
set_option linter.unusedVariables false
set_option linter.unusedSimpArgs false
namespace Go.Proofs.YtfknmohedlfmfaaGreatDoor.Pure
open Go.RowKit Go.Proofs.YtfknmohedlfmfaaGreatDoor Go.Proofs.YtfknmohedlfmfaaGreatDoor.L Go.Proofs.YtfknmohedlfmfaaGreatDoorW.PrintWords Go.Proofs.YtfknmohedlfmfaaGreatDoorW.PrintLast
theorem inum_l0 (e : Nat) : ∀ (x0 : Int) (n : Nat) (xs : List Int) (i : Nat), i + e = n → n ≤ 8 → xs.length = n → (∀ j, j < i → xs[j]? = (numB n x0)[j]?) →
    Ev (fun k => impl_number.l0 k x0 n xs n i) (strOfNums (numB n x0)) := by
  induction e with
  | zero =>
    intro x0 n xs i hi hn hl hx
    obtain rfl : i = n := by omega
    have : xs = numB i x0 := by
      apply List.ext_getElem?
      intro j
      by_cases hj : j < i
      · exact hx j hj
      · rw [List.getElem?_eq_none (by omega), List.getElem?_eq_none (by rw [numB_length]; omega)]
    subst this
    refine Ev.step (f := fun _ => some (strOfNums (numB i x0))) (fun k => ?_) (Ev.now _)
    rw [impl_number.l0, if_neg (by omega)]
  | succ e ih =>
    intro x0 n xs i hi hn hl hx
    have hw : wrap64 (8 * wrap64 (wrap64 ((n : Int) - 1) - (i : Int))) = ((8 * (n - 1 - i) : Nat) : Int) := by unfold wrap64; omega
    have hsh : shr .i64 x0 ((8 * (n - 1 - i) : Nat) : Int) = x0 / 256 ^ (n - 1 - i) := by
      unfold shr
      have hm : min ((8 * (n - 1 - i) : Nat) : Int).toNat 64 = 8 * (n - 1 - i) := by omega
      show x0 / 2 ^ min ((8 * (n - 1 - i) : Nat) : Int).toNat 64 = _
      rw [hm, Int.pow_mul]; rfl
    refine Ev.step (f := fun k => impl_number.l0 k x0 n (xs.set i ((x0 / 256 ^ (n - 1 - i)) % 256)) n ((i + 1 : Nat) : Int)) (fun k => ?_) ?_
    · rw [impl_number.l0, if_pos (by omega), hw, if_pos (by omega), if_pos (by omega), if_pos (by omega), hsh, show wrap64 ((i : Int) + 1) = ((i + 1 : Nat) : Int) from by unfold wrap64; omega]
      simp
    · refine ih x0 n _ (i + 1) (by omega) hn (by simp [hl]) (fun j hj => ?_)
      rw [List.getElem?_set]
      by_cases h : i = j
      · subst h
        rw [if_pos rfl, if_pos (by omega), numB_get n x0 i (by omega)]
      · rw [if_neg h]
        exact hx j (by omega)
theorem impl_num (n : Nat) (v : Int) (hn : n ≤ 8) : Ev (fun k => impl_number.f k v n) (strOfNums (numB n v)) := by
  have h := inum_l0 n v n (List.replicate n 0) 0 (by omega) hn (by simp) (fun j hj => by omega)
  refine Ev.congr (fun k => ?_) h
  unfold impl_number.f
  rw [if_pos (by omega), if_pos (by omega)]
  simp
end Go.Proofs.YtfknmohedlfmfaaGreatDoor.Pure
end
section
set_option linter.unusedVariables false
set_option linter.unusedSimpArgs false
namespace Go.Proofs.YtfknmohedlfmfaaGreatDoor.Pure
open Go.RowKit Go.Proofs.YtfknmohedlfmfaaGreatDoor Go.Proofs.YtfknmohedlfmfaaGreatDoor.L Go.Proofs.YtfknmohedlfmfaaGreatDoorW.PrintWords Go.Proofs.YtfknmohedlfmfaaGreatDoorW.PrintLast
theorem impl_u32_ev (v : Int) : Ev (fun k => impl_u32.f k v) (strOfNums (numB 4 v)) := by
  unfold impl_u32.f
  exact (impl_num 4 v (by omega)).bind (Ev.now _)
theorem impl_frame (s : ByteArray) (hs : s.size ≤ 140737488351232) : Ev (fun k => impl_Frame.f k s) (frameB s) := by
  have hbad : Ev (fun k => impl_Frame.j0 k s true) ⟨#[]⟩ := Ev.step (f := fun _ => some ⟨#[]⟩) (fun k => by rw [impl_Frame.j0, if_pos rfl]) (Ev.now _)
  unfold impl_Frame.f frameB
  by_cases h1 : 1 ≤ s.size
  · simp only [if_neg (show ¬ (s.size : Int) < 1 by omega)]
    by_cases h2 : s.size ≤ 60000
    · rw [if_pos (And.intro h1 h2), show decide ((s.size : Int) > 60000) = false from decide_eq_false (by omega)]
      refine Ev.step (fun k => by rw [impl_Frame.j0, if_neg (by decide)]) ?_
      refine (impl_u32_ev s.size).bind ?_
      simp only [impl_crc s hs, Option.bind_some]
      refine (impl_u32_ev _).bind ?_
      simp only [strOfNums_size, ByteArray.size_append, numB_length]
      rw [if_pos (by omega), if_pos (by omega)]
      exact Ev.now _
    · rw [if_neg (show ¬ (1 ≤ s.size ∧ s.size ≤ 60000) from fun h => h2 h.2), show decide ((s.size : Int) > 60000) = true from decide_eq_true (by omega)]
      exact hbad
  · simp only [if_pos (show (s.size : Int) < 1 by omega)]
    rw [if_neg (show ¬ (1 ≤ s.size ∧ s.size ≤ 60000) from fun h => h1 h.1)]
    exact hbad
theorem frameB_size (s : ByteArray) : (frameB s).size = if 1 ≤ s.size ∧ s.size ≤ 60000 then 8 + s.size else 0 := by
  unfold frameB
  split
  · simp only [ByteArray.size_append, strOfNums_size, numB_length]
  · rfl
end Go.Proofs.YtfknmohedlfmfaaGreatDoor.Pure
end
section
set_option linter.unusedVariables false
set_option linter.unusedSimpArgs false
namespace Go.Proofs.YtfknmohedlfmfaaGreatDoor.Pure
open Go Go.RowKit Go.Proofs Go.Proofs.YtfknmohedlfmfaaGreatDoor Go.Proofs.YtfknmohedlfmfaaGreatDoor.L Go.Proofs.YtfknmohedlfmfaaGreatDoorW.PrintWords Go.Proofs.YtfknmohedlfmfaaGreatDoorW.PrintLast
theorem emp_toList : (⟨#[]⟩ : ByteArray).toList = ([] : List UInt8) := by rw [ByteArray.toList_eq]
/-- Where the first file of this name is. -/
def findI (name : ByteArray) (l : List File) (i : Nat) : Int := match findN name l i with | none => -1 | some j => (j : Int)
theorem find_l0 (d : Nat) : ∀ (l : List File) (name : ByteArray) (i : Nat), i + d = l.length → l.length ≤ 1000 →
    Ev (fun k => spec_l6Find.l0 k name l l.length i) (findI name (l.drop i) i) := by
  induction d with
  | zero =>
    intro l name i hi hl
    rw [List.drop_eq_nil_of_le (by omega)]
    exact Ev.step (f := fun _ => some (-1)) (fun k => by rw [spec_l6Find.l0, if_neg (by omega)]) (Ev.now _)
  | succ d ih =>
    intro l name i hi hl
    have hil : i < l.length := by omega
    refine Ev.step (fun k => by rw [spec_l6Find.l0, if_pos (by omega), if_pos (by omega), if_pos (by omega), rdF l i hil, wsucc i (by omega)]) ?_
    rw [List.drop_eq_getElem_cons hil]
    unfold findI
    rw [findN]
    by_cases c : l[i].f0.toList = name.toList
    · simp only [if_pos c]
      exact Ev.now _
    · simp only [if_neg c]
      exact ih l name (i + 1) (by omega) hl
theorem find_ev (l : List File) (a b c d : Int) (u : Bool) (name : ByteArray) (hl : l.length ≤ 1000) : Ev (fun k => spec_l6Find.f k l a b c d u name) (findI name l 0) := by
  have := find_l0 l.length l name 0 (by omega) hl
  rw [List.drop_zero] at this
  exact this
/-- What l6With puts behind what it has. -/
def withN (f : File) (name : ByteArray) : Bool → List File → List File
  | p, [] => if p = true then [] else [f]
  | p, g :: r => (if (!p && fileLt f g) = true then [f] else []) ++ ((if g.f0.toList = name.toList then [] else [g]) ++ withN f name (p || fileLt f g) r)
theorem with_l0 (d : Nat) : ∀ (l : List File) (name f0 f1 : ByteArray) (f2 : Int) (i : Nat) (out : List File) (p : Bool), i + d = l.length → l.length ≤ 1000 → out.length ≤ 2 * i →
    Ev (fun k => spec_l6With.l0 k name out p l l.length i f0 f1 f2) (out ++ withN ⟨f0, f1, f2⟩ name p (l.drop i)) := by
  induction d with
  | zero =>
    intro l name f0 f1 f2 i out p hi hl ho
    rw [List.drop_eq_nil_of_le (by omega), withN]
    cases p with
    | true =>
      refine Ev.step (f := fun _ => some out) (fun k => by rw [spec_l6With.l0, if_neg (by omega), if_pos rfl]) ?_
      rw [if_pos rfl, List.append_nil]
      exact Ev.now _
    | false =>
      refine Ev.step (f := fun _ => some (out ++ [⟨f0, f1, f2⟩])) (fun k => by rw [spec_l6With.l0, if_neg (by omega), if_neg (by decide), if_pos (by omega)]) ?_
      rw [if_neg (by decide)]
      exact Ev.now _
  | succ d ih =>
    intro l name f0 f1 f2 i out p hi hl ho
    have hil : i < l.length := by omega
    rw [List.drop_eq_getElem_cons hil, withN]
    have keep : ∀ (out2 : List File) (p2 : Bool), out2.length ≤ 2 * i + 1 → Ev (fun k => if l[i].f0.toList = name.toList then spec_l6With.l0 k name out2 p2 l l.length ((i + 1 : Nat) : Int) f0 f1 f2 else if out2.length < 3518437208883 then spec_l6With.l0 k name (out2 ++ [⟨l[i].f0, l[i].f1, l[i].f2⟩]) p2 l l.length ((i + 1 : Nat) : Int) f0 f1 f2 else none) (out2 ++ ((if l[i].f0.toList = name.toList then [] else [l[i]]) ++ withN ⟨f0, f1, f2⟩ name p2 (l.drop (i + 1)))) := by
      intro out2 p2 h2
      by_cases c : l[i].f0.toList = name.toList
      · simp only [if_pos c, List.nil_append]
        exact ih l name f0 f1 f2 (i + 1) out2 p2 (by omega) hl (by omega)
      · simp only [if_neg c, if_pos (show out2.length < 3518437208883 by omega)]
        rw [← List.append_assoc]
        exact ih l name f0 f1 f2 (i + 1) (out2 ++ [l[i]]) p2 (by omega) hl (by rw [List.length_append]; simp only [List.length_singleton]; omega)
    have hw := wsucc i (show i < 9223372036854775807 by omega)
    cases p with
    | true =>
      refine Ev.step (fun k => by rw [spec_l6With.l0, if_pos (by omega), if_pos (by omega), if_pos (by omega), if_pos rfl, rdF l i hil]) ?_
      refine Ev.step (fun k => by rw [spec_l6With.j1, if_neg (by decide), hw]) ?_
      simp only [Bool.not_true, Bool.false_and, Bool.true_or, if_neg (show ¬ (false = true) by decide), List.nil_append]
      exact keep out true (by omega)
    | false =>
      refine Ev.step (fun k => by rw [spec_l6With.l0, if_pos (by omega), if_pos (by omega), if_pos (by omega), if_neg (by decide), rdF l i hil]) ?_
      have hf : Op.bytesLess f0.toList l[i].f0.toList = fileLt (⟨f0, f1, f2⟩ : File) l[i] := rfl
      rw [hf]
      cases hb : fileLt (⟨f0, f1, f2⟩ : File) l[i] with
      | true =>
        refine Ev.step (fun k => by rw [spec_l6With.j1, if_pos rfl, if_pos (by omega), Option.bind_some, hw]) ?_
        simp only [Bool.not_false, Bool.true_and, Bool.false_or, if_true]
        rw [← List.append_assoc]
        exact keep (out ++ [⟨f0, f1, f2⟩]) true (by rw [List.length_append]; simp only [List.length_singleton]; omega)
      | false =>
        refine Ev.step (fun k => by rw [spec_l6With.j1, if_neg (by decide), hw]) ?_
        simp only [Bool.not_false, Bool.true_and, Bool.false_or, if_neg (show ¬ (false = true) by decide), List.nil_append]
        exact keep out false (by omega)
theorem with_ev (l : List File) (name f0 f1 : ByteArray) (f2 : Int) (hl : l.length ≤ 1000) : Ev (fun k => spec_l6With.f k l name f0 f1 f2) (withN ⟨f0, f1, f2⟩ name (f0.toList == ([] : List UInt8)) l) := by
  have := with_l0 l.length l name f0 f1 f2 0 [] (f0.toList == ([] : List UInt8)) (by omega) hl (by simp)
  rw [List.drop_zero, List.nil_append] at this
  exact this
theorem withN_rest (f : File) (name : ByteArray) (r : List File) : withN f name true r = keepN name r := by
  induction r with
  | nil => rfl
  | cons g r ih =>
    rw [withN]
    simp only [Bool.not_true, Bool.false_and, Bool.true_or, if_neg (show ¬ (false = true) by decide), List.nil_append]
    rw [ih]
    unfold keepN
    rw [List.filter_cons]
    by_cases c : g.f0.toList = name.toList
    · simp [c]
    · have : (g.f0.toList == name.toList) = false := beq_eq_false_iff_ne.mpr c
      simp [c, this]
theorem keepN_all (name : ByteArray) (r : List File) (h : ∀ y ∈ r, y.f0.toList ≠ name.toList) : keepN name r = r := by
  unfold keepN
  rw [List.filter_eq_self]
  intro y hy
  rw [beq_eq_false_iff_ne.mpr (h y hy)]
  rfl
theorem withN_ins (f : File) (name : ByteArray) (l : List File) (hn : ∀ y ∈ l, y.f0.toList ≠ name.toList) (hf : ∀ y ∈ l, y.f0.toList ≠ f.f0.toList) : withN f name false l = insN l f := by
  induction l with
  | nil => rfl
  | cons g r ih =>
    rw [withN, insN, if_neg (hn g List.mem_cons_self)]
    cases hb : fileLt f g with
    | true =>
      have h2 : ¬ fileLt g f = true := by rw [fileLt_asymm hb]; decide
      rw [if_neg h2]
      simp only [Bool.not_false, Bool.true_and, Bool.false_or, if_true]
      rw [withN_rest, keepN_all name r (fun y hy => hn y (List.mem_cons_of_mem _ hy))]
      rfl
    | false =>
      have h2 : fileLt g f = true := by
        cases h : fileLt g f with
        | true => rfl
        | false => exact absurd (fileLt_eq h hb) (hf g List.mem_cons_self)
      rw [if_pos h2]
      simp only [Bool.not_false, Bool.true_and, Bool.false_or, if_neg (show ¬ (false = true) by decide), List.nil_append]
      rw [ih (fun y hy => hn y (List.mem_cons_of_mem _ hy)) (fun y hy => hf y (List.mem_cons_of_mem _ hy))]
      rfl
theorem withN_front (f : File) (name : ByteArray) (r : List File) (hn : ∀ y ∈ r, y.f0.toList ≠ name.toList) (hf : ∀ y ∈ r, fileLt f y = true) : withN f name false r = f :: r := by
  cases r with
  | nil => rfl
  | cons g r =>
    rw [withN, if_neg (hn g List.mem_cons_self), hf g List.mem_cons_self]
    simp only [Bool.not_false, Bool.true_and, Bool.false_or, if_true]
    rw [withN_rest, keepN_all name r (fun y hy => hn y (List.mem_cons_of_mem _ hy))]
    rfl
theorem fileLt_left {x x' y : File} (h : x.f0.toList = x'.f0.toList) : fileLt x y = fileLt x' y := by unfold fileLt; rw [h]
theorem fileLt_ne {x y : File} (h : fileLt x y = true) : x.f0.toList ≠ y.f0.toList := fun e => by rw [fileLt_name e] at h; cases h
theorem withN_set (f X : File) (name : ByteArray) (l : List File) (hs : SortedF l) : ∀ (i : Nat), l[i]? = some X → X.f0.toList = name.toList → f.f0.toList = name.toList → withN f name false l = l.set i f := by
  induction l with
  | nil => intro i h; cases h
  | cons g r ih =>
    intro i hi hX hf
    obtain ⟨h1, h2⟩ := List.pairwise_cons.1 hs
    cases i with
    | zero =>
      obtain rfl : g = X := by simpa using hi
      rw [withN, if_pos hX, fileLt_name (hf.trans hX.symm)]
      simp only [Bool.not_false, Bool.true_and, Bool.false_or, if_neg (show ¬ (false = true) by decide), List.nil_append, List.set_cons_zero]
      exact withN_front f name r (fun y hy e => fileLt_ne (h1 y hy) (hX.trans e.symm)) (fun y hy => by rw [fileLt_left (hf.trans hX.symm)]; exact h1 y hy)
    | succ i =>
      have hi' : r[i]? = some X := by simpa using hi
      have hgX := h1 X (List.mem_of_getElem? hi')
      have hg : ¬ g.f0.toList = name.toList := fun e => fileLt_ne hgX (e.trans hX.symm)
      have hfg : fileLt f g = false := by
        rw [fileLt_left (hf.trans hX.symm)]
        exact fileLt_asymm hgX
      rw [withN, if_neg hg, hfg]
      simp only [Bool.not_false, Bool.true_and, Bool.false_or, if_neg (show ¬ (false = true) by decide), List.nil_append, List.set_cons_succ]
      rw [ih h2 i hi' hX hf]
      rfl
theorem findN_at {name : ByteArray} {l : List File} {k j : Nat} (h : findN name l k = some j) : k ≤ j ∧ ∃ X, l[j - k]? = some X ∧ X.f0.toList = name.toList := by
  induction l generalizing k with
  | nil => cases h
  | cons x r ih =>
    rw [findN] at h
    by_cases c : x.f0.toList = name.toList
    · rw [if_pos c] at h
      obtain rfl := Option.some.inj h
      exact ⟨Nat.le_refl _, x, by simp, c⟩
    · rw [if_neg c] at h
      obtain ⟨h1, X, h2, h3⟩ := ih h
      refine ⟨by omega, X, ?_, h3⟩
      rw [show j - k = (j - (k + 1)) + 1 by omega]
      simpa using h2
theorem name_toList {s : ByteArray} (h : nameOk s = true) : s.toList ≠ [] := by
  unfold nameOk at h
  simp only [Bool.and_eq_true, decide_eq_true_eq] at h
  intro e
  have h2 : s.data.toList = [] := by rw [← ByteArray.toList_eq]; exact e
  have h3 : s.data.toList.length = s.size := data_length s
  rw [h2] at h3
  have := h.1.1
  simp only [List.length_nil] at h3
  omega
theorem sorted_from (l : List File) (d : Nat) : ∀ i, i + d = l.length → filesFrom l d i = true → SortedF (l.drop i) ∧ ∀ x, 0 < i → l[i - 1]? = some x → ∀ z ∈ l.drop i, fileLt x z = true := by
  induction d with
  | zero =>
    intro i hi _
    rw [List.drop_eq_nil_of_le (by omega)]
    exact ⟨List.Pairwise.nil, fun _ _ _ z hz => by cases hz⟩
  | succ d ih =>
    intro i hi h
    have hil : i < l.length := by omega
    rw [filesFrom, Bool.and_eq_true, fileOk_at l i hil] at h
    obtain ⟨h1, h2⟩ := h
    simp only [Bool.and_eq_true, Bool.or_eq_true, decide_eq_true_eq] at h1
    obtain ⟨s1, s2⟩ := ih (i + 1) (by omega) h2
    have hnext := s2 l[i] (by omega) (by rw [Nat.add_sub_cancel]; exact List.getElem?_eq_getElem hil)
    rw [List.drop_eq_getElem_cons hil]
    refine ⟨List.pairwise_cons.2 ⟨hnext, s1⟩, fun x h0 hx z hz => ?_⟩
    have hxi : fileLt x l[i] = true := by
      rcases h1.2 with h3 | h3
      · omega
      · rw [List.getD_eq_getElem?_getD, hx] at h3
        exact h3
    rcases List.mem_cons.1 hz with rfl | hz
    · exact hxi
    · exact swo_file.trans x l[i] z hxi (hnext z hz)
theorem fsOk_sorted {l : List File} {cap a b c : Int} (h : fsOk l cap a b c = true) : SortedF l := by
  unfold fsOk at h
  simp only [Bool.and_eq_true, decide_eq_true_eq] at h
  have := (sorted_from l l.length 0 (by omega) h.1.2).1
  rw [List.drop_zero] at this
  exact this
theorem names_from (l : List File) (d : Nat) : ∀ i, i + d = l.length → filesFrom l d i = true → ∀ z ∈ l.drop i, nameOk z.f0 = true := by
  induction d with
  | zero =>
    intro i hi _
    rw [List.drop_eq_nil_of_le (by omega)]
    intro z hz
    cases hz
  | succ d ih =>
    intro i hi h
    have hil : i < l.length := by omega
    rw [filesFrom, Bool.and_eq_true, fileOk_at l i hil] at h
    obtain ⟨h1, h2⟩ := h
    simp only [Bool.and_eq_true] at h1
    rw [List.drop_eq_getElem_cons hil]
    intro z hz
    rcases List.mem_cons.1 hz with rfl | hz
    · exact h1.1.1
    · exact ih (i + 1) (by omega) h2 z hz
theorem fsOk_names {l : List File} {cap a b c : Int} (h : fsOk l cap a b c = true) : ∀ z ∈ l, nameOk z.f0 = true := by
  unfold fsOk at h
  simp only [Bool.and_eq_true, decide_eq_true_eq] at h
  have := names_from l l.length 0 (by omega) h.1.2
  rw [List.drop_zero] at this
  exact this
/-- The reference's operation is the plain one. -/
theorem do_ev (l : List File) (cap cnt cr fa : Int) (dn : Bool) (kind : Int) (name data : ByteArray) (size : Int) {b1 b2 b3 : Int} (hok : fsOk l cap b1 b2 b3 = true) (hz : ∀ x ∈ l, x.f1.size ≤ 100000000) (hd : data.size ≤ 100000000) (hk : 1 ≤ kind ∧ kind ≤ 5) (hn : nameOk name = true) :
    Ev (fun k => spec_l6Do.f k l cap cnt cr fa dn kind name data size) (doN l cap kind name data size) := by
  have hs := fsOk_sorted hok
  have hnm := fsOk_names hok
  unfold fsOk at hok
  simp only [Bool.and_eq_true, decide_eq_true_eq] at hok
  obtain ⟨⟨⟨⟨hl, hcap⟩, hsum⟩, _⟩, _⟩ := hok
  have hne := name_toList hn
  have hpl : (name.toList == ([] : List UInt8)) = false := beq_eq_false_iff_ne.mpr hne
  unfold spec_l6Do.f doN
  refine (find_ev l cap cnt cr fa dn name (by omega)).bind ?_
  unfold findI
  by_cases k1 : kind = 1
  · simp only [if_pos k1]
    cases hf : findN name l 0 with
    | some j =>
      simp only [Option.isSome_some, if_true, if_pos (show (0 : Int) ≤ (j : Int) by omega)]
      exact Ev.now _
    | none =>
      simp only [Option.isSome_none, if_neg (show ¬ (false = true) by decide), if_neg (show ¬ (0 : Int) ≤ -1 by decide)]
      by_cases h3 : l.length = 300
      · simp only [if_pos h3, if_pos (show 300 ≤ l.length by omega)]
        exact Ev.now _
      · simp only [if_neg h3, if_neg (show ¬ 300 ≤ l.length by omega)]
        refine (with_ev l _ name _ 0 (by omega)).bind ?_
        rw [hpl, withN_ins _ _ l (fun y hy => by
          have := name_toList (hnm y hy)
          intro e
          exact this (e.trans emp_toList)) (fun y hy => findN_none hf y hy)]
        exact Ev.now _
  · simp only [if_neg k1]
    cases hf : findN name l 0 with
    | none =>
      simp only [if_pos (show (-1 : Int) < 0 by decide)]
      exact Ev.now _
    | some j =>
      obtain ⟨_, X, hX, hXn⟩ := findN_at hf
      rw [Nat.sub_zero] at hX
      simp only [if_neg (show ¬ (j : Int) < 0 by omega), Int.toNat_natCast, hX, Option.bind_some]
      have hXz := hz X (List.mem_of_getElem? hX)
      have hpX : (X.f0.toList == ([] : List UInt8)) = false := by rw [hXn]; exact hpl
      have put : ∀ (f1 : ByteArray) (f2 : Int) (code : Int), Ev (fun k => (spec_l6With.f k l name X.f0 f1 f2).bind fun r => some (r, code)) (l.set j ⟨X.f0, f1, f2⟩, code) := by
        intro f1 f2 code
        refine (with_ev l name X.f0 f1 f2 (by omega)).bind ?_
        rw [hpX, withN_set (⟨X.f0, f1, f2⟩ : File) X name l hs j hX hXn hXn]
        exact Ev.now _
      by_cases k2 : kind = 2
      · simp only [if_pos k2]
        refine (spec_bytes l cap cnt cr fa dn (by omega) (by omega)).bind ?_
        simp only [if_pos (show 0 ≤ cap - (sumF l : Int) ∧ cap - (sumF l : Int) ≤ 1000000000 ∧ data.size ≤ 1000000000 ∧ X.f1.size ≤ 1000000000 by omega)]
        have hLs : (L.sumF l : Int) = (sumF l : Int) := rfl
        rw [hLs]
        by_cases hr : (cap - (sumF l : Int)).toNat < data.size
        · simp only [if_pos hr]
          exact put _ _ _
        · simp only [if_neg hr]
          exact put _ _ _
      · simp only [if_neg k2]
        by_cases k3 : kind = 3
        · simp only [if_pos k3]
          exact put _ _ _
        · simp only [if_neg k3]
          by_cases k4 : kind = 4
          · simp only [if_pos k4, between_eq, Option.bind_some]
            by_cases hb : size < 0 ∨ (X.f1.size : Int) < size
            · simp only [if_pos hb, decide_eq_false (show ¬ (0 ≤ size ∧ size ≤ (X.f1.size : Int)) by omega), if_neg (show ¬ (false = true) by decide)]
              exact Ev.now _
            · have hb2 : 0 ≤ size ∧ size ≤ (X.f1.size : Int) := by omega
              simp only [if_neg hb, decide_eq_true hb2, if_true, if_pos hb2]
              exact put _ _ _
          · simp only [if_neg k4, if_pos (show kind = 5 by omega)]
            refine (with_ev l name _ _ 0 (by omega)).bind ?_
            rw [show ((⟨#[]⟩ : ByteArray).toList == ([] : List UInt8)) = true from by rw [emp_toList]; rfl, withN_rest]
            exact Ev.now _
/-- What FsStep answers. -/
def stepped (l : List File) (cap cnt cr fa : Int) (dn : Bool) (kind : Int) (name data : ByteArray) (size : Int) : List File × Int × Int × Int × Int × Bool × Int :=
  if fsOk l cap cnt cr fa = true ∧ (1 ≤ kind ∧ kind ≤ 5) ∧ nameOk name = true then ((stepN l cap cnt cr fa dn kind name data size).1, cap, (stepN l cap cnt cr fa dn kind name data size).2.1, cr, fa, (stepN l cap cnt cr fa dn kind name data size).2.2.1, (stepN l cap cnt cr fa dn kind name data size).2.2.2)
  else ([], 0, 0, 0, 0, false, 16)
theorem spec_stepped (l : List File) (cap cnt cr fa : Int) (dn : Bool) (kind : Int) (name data : ByteArray) (size : Int) (hl : l.length ≤ 9223372036854775807) (hsum : (sumF l : Int) ≤ 9223372036854775807) (hz : ∀ x ∈ l, x.f1.size ≤ 100000000) (hd : data.size ≤ 100000000) :
    Ev (fun k => spec_FsStep.f k l cap cnt cr fa dn kind name data size) (stepped l cap cnt cr fa dn kind name data size) := by
  unfold spec_FsStep.f stepped
  refine (spec_fsOk l cap cnt cr fa dn hl hsum).bind ?_
  by_cases h : fsOk l cap cnt cr fa = true
  · simp only [if_pos h, between_eq, Option.bind_some]
    by_cases hk : 1 ≤ kind ∧ kind ≤ 5
    · simp only [decide_eq_true hk, if_true]
      refine (spec_name name).bind ?_
      by_cases hn : nameOk name = true
      · simp only [if_pos hn, if_pos (show fsOk l cap cnt cr fa = true ∧ (1 ≤ kind ∧ kind ≤ 5) ∧ nameOk name = true from ⟨h, hk, hn⟩)]
        have hcn : (0 ≤ cnt ∧ cnt ≤ 1000000000000000) ∧ l.length ≤ 1000000 := by
          unfold fsOk cntOk at h
          simp only [Bool.and_eq_true, decide_eq_true_eq] at h
          exact ⟨h.2.1.1, by omega⟩
        simp only [if_pos hcn]
        unfold stepN tickR
        cases dn with
        | true =>
          simp only [if_true, if_neg (show ¬ (11 : Int) = 0 by decide)]
          exact Ev.now _
        | false =>
          simp only [if_neg (show ¬ (false = true) by decide)]
          by_cases c1 : cnt = 1000000000000000
          · simp only [if_pos c1, if_neg (show ¬ (12 : Int) = 0 by decide)]
            exact Ev.now _
          · simp only [if_neg c1]
            by_cases c2 : cr ≠ 0 ∧ cnt + 1 = cr
            · simp only [if_pos c2, if_neg (show ¬ (11 : Int) = 0 by decide)]
              exact Ev.now _
            · simp only [if_neg c2]
              by_cases c3 : fa ≠ 0 ∧ cnt + 1 = fa
              · simp only [if_pos c3, if_neg (show ¬ (12 : Int) = 0 by decide)]
                exact Ev.now _
              · simp only [if_neg c3, if_true]
                exact (do_ev l cap (cnt + 1) cr fa false kind name data size h hz hd hk hn).bind (Ev.now _)
      · simp only [if_neg hn, if_neg (show ¬ (fsOk l cap cnt cr fa = true ∧ (1 ≤ kind ∧ kind ≤ 5) ∧ nameOk name = true) from fun e => hn e.2.2)]
        exact Ev.now _
    · simp only [decide_eq_false hk, if_neg (show ¬ (false = true) by decide), if_neg (show ¬ (fsOk l cap cnt cr fa = true ∧ (1 ≤ kind ∧ kind ≤ 5) ∧ nameOk name = true) from fun e => hk e.2.1)]
      exact Ev.now _
  · simp only [if_neg h, if_neg (show ¬ (fsOk l cap cnt cr fa = true ∧ (1 ≤ kind ∧ kind ≤ 5) ∧ nameOk name = true) from fun e => h e.1)]
    exact Ev.now _
theorem impl_stepped (l : List File) (cap cnt cr fa : Int) (dn : Bool) (kind : Int) (name data : ByteArray) (size : Int) (hl : l.length ≤ 9223372036854775807) (hsum : (sumF l : Int) ≤ 9223372036854775807) (hz : ∀ x ∈ l, x.f1.size ≤ 100000000) (hd : data.size ≤ 100000000) (hnm : ∀ f ∈ l, f.f0.size ≤ 9223372036854775807) (hns : name.size ≤ 9223372036854775807) :
    Ev (fun k => impl_FsStep.f k l cap cnt cr fa dn kind name data size) (stepped l cap cnt cr fa dn kind name data size) := by
  unfold impl_FsStep.f stepped
  refine (impl_fsOk l cap cnt cr fa dn hl hsum hnm).bind ?_
  by_cases h : fsOk l cap cnt cr fa = true
  · simp only [if_pos h]
    by_cases hk : 1 ≤ kind ∧ kind ≤ 5
    · simp only [if_pos hk, impl_name name hns, Option.bind_some]
      by_cases hn : nameOk name = true
      · have hst : stepOk l cap cnt data = true := by
          have hs := fsOk_sorted h
          unfold fsOk cntOk at h
          simp only [Bool.and_eq_true, decide_eq_true_eq] at h
          unfold stepOk
          simp only [Bool.and_eq_true, decide_eq_true_eq, List.all_eq_true]
          have hLs : (L.sumF l : Int) = (sumF l : Int) := rfl
          exact ⟨by omega, by rw [hLs]; exact h.1.1.2, h.1.1.1.2.2, h.2.1.1, by omega, fun x hx => by have := hz x hx; omega, hs⟩
        simp only [if_pos hn, if_pos hst, if_pos (show fsOk l cap cnt cr fa = true ∧ (1 ≤ kind ∧ kind ≤ 5) ∧ nameOk name = true from ⟨h, hk, hn⟩)]
        exact Ev.now _
      · simp only [if_neg hn, if_neg (show ¬ (fsOk l cap cnt cr fa = true ∧ (1 ≤ kind ∧ kind ≤ 5) ∧ nameOk name = true) from fun e => hn e.2.2)]
        exact Ev.now _
    · simp only [if_neg hk, if_neg (show ¬ (fsOk l cap cnt cr fa = true ∧ (1 ≤ kind ∧ kind ≤ 5) ∧ nameOk name = true) from fun e => hk e.2.1)]
      exact Ev.now _
  · simp only [if_neg h, if_neg (show ¬ (fsOk l cap cnt cr fa = true ∧ (1 ≤ kind ∧ kind ≤ 5) ∧ nameOk name = true) from fun e => h e.1)]
    exact Ev.now _
theorem insN_length (l : List File) (x : File) : (insN l x).length = l.length + 1 := (insN_perm l x).length_eq
end Go.Proofs.YtfknmohedlfmfaaGreatDoor.Pure
end
section
set_option linter.unusedVariables false
set_option linter.unusedSimpArgs false
namespace Go.Proofs.YtfknmohedlfmfaaGreatDoor.Pure
open Go Go.RowKit Go.Proofs Go.Proofs.YtfknmohedlfmfaaGreatDoor Go.Proofs.YtfknmohedlfmfaaGreatDoor.L Go.Proofs.YtfknmohedlfmfaaGreatDoorW.PrintWords Go.Proofs.YtfknmohedlfmfaaGreatDoorW.PrintLast
theorem seg_step (x : Int) (s : ByteArray) (i : Nat) (hx : 0 ≤ x) (hx2 : x ≤ 9999) (hs : s.size ≤ 100) (hi : i < 4) (r : ByteArray)
    (h : Ev (fun k => spec_l6Segment.l0 k (x / 10) (strOfNums [48 + x % 10] ++ s) ((i + 1 : Nat) : Int)) r) : Ev (fun k => spec_l6Segment.l0 k x s (i : Int)) r := by
  refine Ev.step (fun k => ?_) h
  have e1 : Int.tmod x 10 = x % 10 := Int.tmod_eq_emod_of_nonneg hx
  have e2 : Int.tdiv x 10 = x / 10 := Int.tdiv_eq_ediv_of_nonneg hx
  have e3 : (wrap64 (48 + x % 10)) % 256 = 48 + x % 10 := by unfold wrap64; omega
  have e4 : wrap64 (x / 10) = x / 10 := by unfold wrap64; omega
  rw [spec_l6Segment.l0, if_pos (by omega), e1, e2, e3, e4, Option.bind_some, if_pos (by rw [strOfNums_size]; simp only [List.length_singleton]; omega), show wrap64 ((i : Int) + 1) = ((i + 1 : Nat) : Int) by unfold wrap64; omega]
theorem spec_seg (n : Nat) (hn : n ≤ 9999) : Ev (fun k => spec_l6Segment.f k (n : Int)) (segB n) := by
  have hs : ∀ (v : Int) (s : ByteArray), (strOfNums [v] ++ s).size = 1 + s.size := fun v s => by rw [ByteArray.size_append, strOfNums_size]; rfl
  unfold spec_l6Segment.f
  refine seg_step n _ 0 (by omega) (by omega) (by decide) (by omega) _ ?_
  refine seg_step _ _ 1 (by omega) (by omega) (by rw [hs]; decide) (by omega) _ ?_
  refine seg_step _ _ 2 (by omega) (by omega) (by rw [hs, hs]; decide) (by omega) _ ?_
  refine seg_step _ _ 3 (by omega) (by omega) (by rw [hs, hs, hs]; decide) (by omega) _ ?_
  refine Ev.step (f := fun _ => some (segB n)) (fun k => ?_) (Ev.now _)
  rw [spec_l6Segment.l0, if_neg (by decide), if_pos (by rw [hs, hs, hs, hs]; decide)]
  congr 1
  apply ByteArray.ext
  have hd : ∀ v : Int, (strOfNums [v]).data = #[UInt8.ofNat v.toNat] := fun v => by simp [strOfNums]
  simp only [ByteArray.data_append, hd, segB, segL]
  have e1 : (48 + ((n : Int) / 10 / 10 / 10) % 10).toNat = 48 + n / 1000 := by omega
  have e2 : (48 + ((n : Int) / 10 / 10) % 10).toNat = 48 + n / 100 % 10 := by omega
  have e3 : (48 + ((n : Int) / 10) % 10).toNat = 48 + n / 10 % 10 := by omega
  have e4 : (48 + (n : Int) % 10).toNat = 48 + n % 10 := by omega
  rw [e1, e2, e3, e4]
  generalize UInt8.ofNat (48 + n / 1000) = a
  generalize UInt8.ofNat (48 + n / 100 % 10) = b
  generalize UInt8.ofNat (48 + n / 10 % 10) = c
  generalize UInt8.ofNat (48 + n % 10) = d
  simp only [List.append_assoc, List.cons_append, List.nil_append, List.append_toArray]
theorem segB_size (n : Nat) : (segB n).size = 8 := rfl
def InvA (n b : Nat) (l : List File) : Prop := l.length ≤ n ∧ (∀ x ∈ l, x.f1.size ≤ b) ∧ ∀ x ∈ l, x.f0.size ≤ 9223372036854775807
theorem InvA.mono {n b n' b' : Nat} {l : List File} (h : InvA n b l) (hn : n ≤ n') (hb : b ≤ b') : InvA n' b' l := ⟨Nat.le_trans h.1 hn, fun x hx => Nat.le_trans (h.2.1 x hx) hb, h.2.2⟩
theorem sumF_bound (b : Nat) (l : List File) (h : ∀ x ∈ l, x.f1.size ≤ b) : sumF l ≤ l.length * b := by
  induction l with
  | nil => exact Nat.zero_le _
  | cons f l ih =>
    have h1 := ih (fun x hx => h x (List.mem_cons_of_mem _ hx))
    have h2 := h f List.mem_cons_self
    have e : sumF (f :: l) = f.f1.size + sumF l := rfl
    rw [e, List.length_cons, Nat.succ_mul]
    omega
theorem InvA.sum {n b : Nat} {l : List File} (h : InvA n b l) (hn : n ≤ 2000000) (hb : b ≤ 100000000) : (sumF l : Int) ≤ 9223372036854775807 := by
  have h1 := sumF_bound b l h.2.1
  have h2 : l.length * b ≤ 2000000 * 100000000 := Nat.mul_le_mul (Nat.le_trans h.1 hn) hb
  omega
theorem mem_set {l : List File} {i : Nat} {f x : File} (h : x ∈ l.set i f) : x ∈ l ∨ x = f := by
  rcases List.mem_or_eq_of_mem_set h with h | h
  · exact .inl h
  · exact .inr h
theorem doN_inv (l : List File) (cap kind : Int) (name data : ByteArray) (size : Int) {n b : Nat} (h : InvA n b l) (hn : name.size ≤ 9223372036854775807) : InvA (n + 1) (b + data.size) (doN l cap kind name data size).1 := by
  have base : InvA (n + 1) (b + data.size) l := h.mono (Nat.le_succ _) (Nat.le_add_right _ _)
  have hset : ∀ (j : Nat) (X f : File), l[j]? = some X → f.f0 = X.f0 → f.f1.size ≤ b + data.size → InvA (n + 1) (b + data.size) (l.set j f) := by
    intro j X f hX h0 h1
    refine ⟨by rw [List.length_set]; exact base.1, fun x hx => ?_, fun x hx => ?_⟩
    · rcases mem_set hx with hx | rfl
      · exact base.2.1 x hx
      · exact h1
    · rcases mem_set hx with hx | rfl
      · exact base.2.2 x hx
      · rw [h0]
        exact h.2.2 X (List.mem_of_getElem? hX)
  unfold doN
  split
  · split
    · exact base
    · split
      · exact base
      · refine ⟨by rw [insN_length]; have := h.1; omega, fun x hx => ?_, fun x hx => ?_⟩
        · rcases List.mem_cons.1 ((insN_perm l _).mem_iff.1 hx) with rfl | hx
          · exact Nat.zero_le _
          · exact base.2.1 x hx
        · rcases List.mem_cons.1 ((insN_perm l _).mem_iff.1 hx) with rfl | hx
          · exact hn
          · exact base.2.2 x hx
  · split
    · exact base
    · rename_i j hf
      obtain ⟨_, X, hX, _⟩ := findN_at hf
      rw [Nat.sub_zero] at hX
      have hXb := h.2.1 X (List.mem_of_getElem? hX)
      simp only [hX]
      split
      · split
        · refine hset j X _ hX rfl ?_
          simp only [ByteArray.size_append, ByteArray.size_extract]
          omega
        · refine hset j X _ hX rfl ?_
          simp only [ByteArray.size_append]
          omega
      · split
        · exact hset j X _ hX rfl (by show X.f1.size ≤ _; omega)
        · split
          · split
            · exact base
            · refine hset j X _ hX rfl ?_
              simp only [ByteArray.size_extract]
              omega
          · refine ⟨Nat.le_trans (List.length_filter_le _ _) base.1, fun x hx => base.2.1 x (List.mem_filter.1 hx).1, fun x hx => base.2.2 x (List.mem_filter.1 hx).1⟩
theorem stepped_inv (l : List File) (cap cnt cr fa : Int) (dn : Bool) (kind : Int) (name data : ByteArray) (size : Int) {n b : Nat} (h : InvA n b l) (hn : name.size ≤ 9223372036854775807) :
    InvA (n + 1) (b + data.size) (stepped l cap cnt cr fa dn kind name data size).1 := by
  unfold stepped
  split
  · unfold stepN
    split
    · exact doN_inv l cap kind name data size h hn
    · exact h.mono (Nat.le_succ _) (Nat.le_add_right _ _)
  · exact ⟨Nat.zero_le _, fun x hx => absurd hx List.not_mem_nil, fun x hx => absurd hx List.not_mem_nil⟩
section
variable {st : Nat → StT} {sg : Nat → Int → Option ByteArray}
  (hst : ∀ l cap cnt cr fa dn kd nm d sz, InvA 2000000 2000000 l → nm.size ≤ 1000 → d.size ≤ 100000 → Ev (fun k => st k l cap cnt cr fa dn kd nm d sz) (stepped l cap cnt cr fa dn kd nm d sz))
  (hsg : ∀ n : Int, 0 ≤ n → n ≤ 9999 → Ev (fun k => sg k n) (segB n.toNat))
/-- Behind the append and the sync. -/
def finP (nm : ByteArray) (n : Nat) (l : List File) (cap cnt cr fa : Int) (dn : Bool) (last size c : Int) : List File × Int × Int × Int × Int × Bool × Int × Int × Int :=
  if c = 0 then (l, cap, cnt, cr, fa, dn, last, size + (n : Int), 0)
  else if c = 11 ∨ c = 16 then (l, cap, cnt, cr, fa, dn, last, size, c)
  else match stepped l cap cnt cr fa dn 4 nm noB size with | (l, cap, cnt, cr, fa, dn, q) => (l, cap, cnt, cr, fa, dn, last, size, if q = 0 then c else if q = 11 then 11 else 20)
def tailP (f : ByteArray) (l : List File) (cap cnt cr fa : Int) (dn : Bool) (last size : Int) : List File × Int × Int × Int × Int × Bool × Int × Int × Int :=
  match stepped l cap cnt cr fa dn 2 (segB last.toNat) f 0 with
  | (l, cap, cnt, cr, fa, dn, q) => if q = 0 then (match stepped l cap cnt cr fa dn 3 (segB last.toNat) noB 0 with | (l, cap, cnt, cr, fa, dn, q) => finP (segB last.toNat) f.size l cap cnt cr fa dn last size q) else finP (segB last.toNat) f.size l cap cnt cr fa dn last size q
def bodyP (f : ByteArray) (l : List File) (cap cnt cr fa : Int) (dn : Bool) (last size most : Int) : List File × Int × Int × Int × Int × Bool × Int × Int × Int :=
  if size ≠ 0 ∧ most < size + (f.size : Int) then
    (if last = 9999 then (l, cap, cnt, cr, fa, dn, last, size, 21)
     else match stepped l cap cnt cr fa dn 1 (segB (last + 1).toNat) noB 0 with | (l, cap, cnt, cr, fa, dn, q) => if q = 0 then tailP f l cap cnt cr fa dn (last + 1) 0 else (l, cap, cnt, cr, fa, dn, last, size, q))
  else tailP f l cap cnt cr fa dn last size
theorem noB_size : noB.size = 0 := rfl
include hst in
theorem fin_ev (nm : ByteArray) (hnm : nm.size ≤ 1000) (n : Nat) (l : List File) (cap cnt cr fa : Int) (dn : Bool) (last size c : Int) {a b : Nat} (h : InvA a b l) (ha : a ≤ 1999999) (hb : b ≤ 2000000) :
    Ev (fun k => apFin (st k) nm n l cap cnt cr fa dn last size c) (finP nm n l cap cnt cr fa dn last size c) ∧ InvA (a + 1) b (finP nm n l cap cnt cr fa dn last size c).1 := by
  unfold apFin finP
  by_cases h0 : c = 0
  · simp only [if_pos h0]
    exact ⟨Ev.now _, h.mono (Nat.le_succ _) (Nat.le_refl _)⟩
  · by_cases h1 : c = 11 ∨ c = 16
    · simp only [if_neg h0, if_pos h1]
      exact ⟨Ev.now _, h.mono (Nat.le_succ _) (Nat.le_refl _)⟩
    · simp only [if_neg h0, if_neg h1]
      refine ⟨(hst l cap cnt cr fa dn 4 nm noB size (h.mono (by omega) hb) hnm (by decide)).bind (Ev.now _), ?_⟩
      exact (stepped_inv l cap cnt cr fa dn 4 nm noB size h (by omega)).mono (Nat.le_refl _) (Nat.le_refl _)
include hst hsg in
theorem tail_ev (f : ByteArray) (hf : f.size ≤ 100000) (l : List File) (cap cnt cr fa : Int) (dn : Bool) (last size : Int) (hl : 0 ≤ last ∧ last ≤ 9999) {a b : Nat} (h : InvA a b l) (ha : a ≤ 1999990) (hb : b ≤ 1800000) :
    Ev (fun k => apTail (st k) (sg k) f l cap cnt cr fa dn last size) (tailP f l cap cnt cr fa dn last size) ∧ InvA (a + 3) (b + 100000) (tailP f l cap cnt cr fa dn last size).1 := by
  have e1 := hst l cap cnt cr fa dn 2 (segB last.toNat) f 0 (h.mono (by omega) (by omega)) (by rw [segB_size]; decide) hf
  have i1 := stepped_inv l cap cnt cr fa dn 2 (segB last.toNat) f 0 h (by rw [segB_size]; decide)
  unfold apTail tailP
  obtain ⟨l1, cap1, cnt1, cr1, fa1, dn1, q1, hs⟩ : ∃ l1 cap1 cnt1 cr1 fa1 dn1 q1, stepped l cap cnt cr fa dn 2 (segB last.toNat) f 0 = (l1, cap1, cnt1, cr1, fa1, dn1, q1) := ⟨_, _, _, _, _, _, _, rfl⟩
  rw [hs] at e1 i1 ⊢
  simp only at i1
  have i1' := i1.mono (Nat.le_refl _) (show b + f.size ≤ b + 100000 by omega)
  suffices hh : Ev (fun k => (fun (x : List File × Int × Int × Int × Int × Bool × Int) => match x with | (l, cap, cnt, cr, fa, dn, q) => if q = 0 then (st k l cap cnt cr fa dn 3 (segB last.toNat) noB 0).bind fun (l, cap, cnt, cr, fa, dn, q) => apFin (st k) (segB last.toNat) f.size l cap cnt cr fa dn last size q else apFin (st k) (segB last.toNat) f.size l cap cnt cr fa dn last size q) (l1, cap1, cnt1, cr1, fa1, dn1, q1)) (if q1 = 0 then (match stepped l1 cap1 cnt1 cr1 fa1 dn1 3 (segB last.toNat) noB 0 with | (l, cap, cnt, cr, fa, dn, q) => finP (segB last.toNat) f.size l cap cnt cr fa dn last size q) else finP (segB last.toNat) f.size l1 cap1 cnt1 cr1 fa1 dn1 last size q1) ∧ InvA (a + 3) (b + 100000) (if q1 = 0 then (match stepped l1 cap1 cnt1 cr1 fa1 dn1 3 (segB last.toNat) noB 0 with | (l, cap, cnt, cr, fa, dn, q) => finP (segB last.toNat) f.size l cap cnt cr fa dn last size q) else finP (segB last.toNat) f.size l1 cap1 cnt1 cr1 fa1 dn1 last size q1).1 by
    exact ⟨(hsg last hl.1 hl.2).bind (e1.bind hh.1), hh.2⟩
  by_cases z : q1 = 0
  · simp only [if_pos z]
    have e2 := hst l1 cap1 cnt1 cr1 fa1 dn1 3 (segB last.toNat) noB 0 (i1'.mono (by omega) (by omega)) (by rw [segB_size]; decide) (by decide)
    have i2 := stepped_inv l1 cap1 cnt1 cr1 fa1 dn1 3 (segB last.toNat) noB 0 i1' (by rw [segB_size]; decide)
    obtain ⟨l2, cap2, cnt2, cr2, fa2, dn2, q2, hs2⟩ : ∃ l2 cap2 cnt2 cr2 fa2 dn2 q2, stepped l1 cap1 cnt1 cr1 fa1 dn1 3 (segB last.toNat) noB 0 = (l2, cap2, cnt2, cr2, fa2, dn2, q2) := ⟨_, _, _, _, _, _, _, rfl⟩
    rw [hs2] at e2 i2 ⊢
    simp only [noB_size, Nat.add_zero] at i2
    obtain ⟨h3, h4⟩ := fin_ev hst (segB last.toNat) (by rw [segB_size]; decide) f.size l2 cap2 cnt2 cr2 fa2 dn2 last size q2 i2 (by omega) (by omega)
    exact ⟨e2.bind h3, h4⟩
  · simp only [if_neg z]
    obtain ⟨h3, h4⟩ := fin_ev hst (segB last.toNat) (by rw [segB_size]; decide) f.size l1 cap1 cnt1 cr1 fa1 dn1 last size q1 i1' (by omega) (by omega)
    exact ⟨h3, h4.mono (by omega) (Nat.le_refl _)⟩
include hst hsg in
theorem body_ev (f : ByteArray) (hf : f.size ≤ 100000) (l : List File) (cap cnt cr fa : Int) (dn : Bool) (last size most : Int) (hl : 1 ≤ last ∧ last ≤ 9999) {a b : Nat} (h : InvA a b l) (ha : a ≤ 1999900) (hb : b ≤ 1800000) :
    Ev (fun k => apBody (st k) (sg k) f l cap cnt cr fa dn last size most) (bodyP f l cap cnt cr fa dn last size most) ∧ InvA (a + 4) (b + 100000) (bodyP f l cap cnt cr fa dn last size most).1 := by
  unfold apBody bodyP apRoll
  by_cases hr : size ≠ 0 ∧ most < size + (f.size : Int)
  · simp only [if_pos hr]
    by_cases h9 : last = 9999
    · simp only [if_pos h9]
      exact ⟨Ev.now _, h.mono (by omega) (by omega)⟩
    · simp only [if_neg h9]
      have e1 := hst l cap cnt cr fa dn 1 (segB (last + 1).toNat) noB 0 (h.mono (by omega) (by omega)) (by rw [segB_size]; decide) (by decide)
      have i1 := stepped_inv l cap cnt cr fa dn 1 (segB (last + 1).toNat) noB 0 h (by rw [segB_size]; decide)
      obtain ⟨l1, cap1, cnt1, cr1, fa1, dn1, q1, hs⟩ : ∃ l1 cap1 cnt1 cr1 fa1 dn1 q1, stepped l cap cnt cr fa dn 1 (segB (last + 1).toNat) noB 0 = (l1, cap1, cnt1, cr1, fa1, dn1, q1) := ⟨_, _, _, _, _, _, _, rfl⟩
      rw [hs] at e1 i1 ⊢
      simp only [noB_size, Nat.add_zero] at i1
      by_cases z : q1 = 0
      · simp only [if_pos z]
        obtain ⟨h3, h4⟩ := tail_ev hst hsg f hf l1 cap1 cnt1 cr1 fa1 dn1 (last + 1) 0 (by omega) i1 (by omega) hb
        refine ⟨(hsg (last + 1) (by omega) (by omega)).bind (e1.bind ?_), h4⟩
        simp only [if_pos z]
        exact h3
      · simp only [if_neg z]
        refine ⟨(hsg (last + 1) (by omega) (by omega)).bind (e1.bind ?_), i1.mono (by omega) (by omega)⟩
        simp only [if_neg z]
        exact Ev.now _
  · simp only [if_neg hr]
    obtain ⟨h3, h4⟩ := tail_ev hst hsg f hf l cap cnt cr fa dn last size (by omega) h (by omega) hb
    exact ⟨h3, h4.mono (by omega) (Nat.le_refl _)⟩
end
def appP (l : List File) (cap cnt cr fa : Int) (dn : Bool) (last size : Int) (entry : ByteArray) (most : Int) : List File × Int × Int × Int × Int × Bool × Int × Int × Int :=
  if (1 ≤ entry.size ∧ entry.size ≤ 60000) ∧ (1 ≤ last ∧ last ≤ 9999) ∧ (0 ≤ size ∧ size ≤ 1000000000) ∧ (1 ≤ most ∧ most ≤ 1000000000) then bodyP (frameB entry) l cap cnt cr fa dn last size most
  else (l, cap, cnt, cr, fa, dn, last, size, 22)
theorem spec_app (l : List File) (cap cnt cr fa : Int) (dn : Bool) (last size : Int) (entry : ByteArray) (most : Int) {a b : Nat} (h : InvA a b l) (ha : a ≤ 1999900) (hb : b ≤ 1800000) (he : entry.size ≤ 1048576) :
    Ev (fun k => spec_AppendEntry.f k l cap cnt cr fa dn last size entry most) (appP l cap cnt cr fa dn last size entry most) ∧ InvA (a + 4) (b + 100000) (appP l cap cnt cr fa dn last size entry most).1 := by
  have hf := frameB_size entry
  have hla : l.length ≤ 2000000 := by have := h.1; omega
  unfold spec_AppendEntry.f appP
  by_cases hg : (1 ≤ entry.size ∧ entry.size ≤ 60000) ∧ (1 ≤ last ∧ last ≤ 9999) ∧ (0 ≤ size ∧ size ≤ 1000000000) ∧ (1 ≤ most ∧ most ≤ 1000000000)
  · rw [if_pos hg]
    rw [if_pos hg.1] at hf
    obtain ⟨h1, h2⟩ := body_ev (st := fun k l cap cnt cr fa dn kd nm d sz => spec_FsStep.f k l cap cnt cr fa dn kd nm d sz) (sg := fun k n => spec_l6Segment.f k n)
      (fun l cap cnt cr fa dn kd nm d sz hI hnm hd => spec_stepped l cap cnt cr fa dn kd nm d sz (by have := hI.1; omega) (hI.sum (Nat.le_refl _) (by decide)) (fun x hx => Nat.le_trans (hI.2.1 x hx) (by decide)) (by omega))
      (fun n h0 h1 => by
        have := spec_seg n.toNat (by omega)
        rw [Int.toNat_of_nonneg h0] at this
        exact this) (frameB entry) (by omega) l cap cnt cr fa dn last size most hg.2.1 h ha hb
    refine ⟨(spec_frame entry (by omega)).bind ?_, h2⟩
    simp only [if_neg (show ¬ ((frameB entry).size = 0 ∨ ¬ (1 ≤ last ∧ last ≤ 9999) ∨ ¬ (0 ≤ size ∧ size ≤ 1000000000) ∨ ¬ (1 ≤ most ∧ most ≤ 1000000000)) by
      rintro (e | e | e | e)
      · omega
      · exact e hg.2.1
      · exact e hg.2.2.1
      · exact e hg.2.2.2), if_pos (show 1 ≤ (frameB entry).size ∧ (frameB entry).size ≤ 100000 ∧ l.length ≤ 2000000 by omega)]
    exact h1
  · rw [if_neg hg]
    refine ⟨(spec_frame entry (by omega)).bind ?_, h.mono (by omega) (by omega)⟩
    have hbad : (frameB entry).size = 0 ∨ ¬ (1 ≤ last ∧ last ≤ 9999) ∨ ¬ (0 ≤ size ∧ size ≤ 1000000000) ∨ ¬ (1 ≤ most ∧ most ≤ 1000000000) := by
      by_cases h1 : 1 ≤ entry.size ∧ entry.size ≤ 60000
      · by_cases h2 : 1 ≤ last ∧ last ≤ 9999
        · by_cases h3 : 0 ≤ size ∧ size ≤ 1000000000
          · exact .inr (.inr (.inr fun h4 => hg ⟨h1, h2, h3, h4⟩))
          · exact .inr (.inr (.inl h3))
        · exact .inr (.inl h2)
      · rw [if_neg h1] at hf
        exact .inl hf
    simp only [if_pos hbad, if_pos hla]
    exact Ev.now _
theorem impl_app (l : List File) (cap cnt cr fa : Int) (dn : Bool) (last size : Int) (entry : ByteArray) (most : Int) {a b : Nat} (h : InvA a b l) (ha : a ≤ 1999900) (hb : b ≤ 1800000) (he : entry.size ≤ 1048576) :
    Ev (fun k => impl_AppendEntry.f k l cap cnt cr fa dn last size entry most) (appP l cap cnt cr fa dn last size entry most) := by
  have hf := frameB_size entry
  have hla : l.length ≤ 2000000 := by have := h.1; omega
  unfold impl_AppendEntry.f appP
  by_cases hg : (1 ≤ entry.size ∧ entry.size ≤ 60000) ∧ (1 ≤ last ∧ last ≤ 9999) ∧ (0 ≤ size ∧ size ≤ 1000000000) ∧ (1 ≤ most ∧ most ≤ 1000000000)
  · rw [if_pos hg]
    rw [if_pos hg.1] at hf
    obtain ⟨h1, _⟩ := body_ev (st := fun k l cap cnt cr fa dn kd nm d sz => impl_FsStep.f k l cap cnt cr fa dn kd nm d sz) (sg := fun k n => if 0 ≤ n ∧ n ≤ 9999 then some (segB n.toNat) else none)
      (fun l cap cnt cr fa dn kd nm d sz hI hnm hd => impl_stepped l cap cnt cr fa dn kd nm d sz (by have := hI.1; omega) (hI.sum (Nat.le_refl _) (by decide)) (fun x hx => Nat.le_trans (hI.2.1 x hx) (by decide)) (by omega) hI.2.2 (by omega))
      (fun n h0 h1 => by
        simp only [if_pos (show 0 ≤ n ∧ n ≤ 9999 from ⟨h0, h1⟩)]
        exact Ev.now _) (frameB entry) (by omega) l cap cnt cr fa dn last size most hg.2.1 h ha hb
    simp only [if_neg (show ¬ (entry.size < 1 ∨ 60000 < entry.size ∨ last < 1 ∨ 9999 < last ∨ size < 0 ∨ 1000000000 < size ∨ most < 1 ∨ 1000000000 < most) by omega)]
    refine (impl_frame entry (by omega)).bind ?_
    simp only [if_pos (show 1 ≤ (frameB entry).size ∧ (frameB entry).size ≤ 100000 ∧ l.length ≤ 2000000 by omega)]
    exact h1
  · rw [if_neg hg]
    simp only [if_pos (show entry.size < 1 ∨ 60000 < entry.size ∨ last < 1 ∨ 9999 < last ∨ size < 0 ∨ 1000000000 < size ∨ most < 1 ∨ 1000000000 < most by omega), if_pos hla]
    exact Ev.now _
end Go.Proofs.YtfknmohedlfmfaaGreatDoor.Pure
end
section
set_option linter.unusedVariables false
set_option linter.unusedSimpArgs false
namespace Go.Proofs.YtfknmohedlfmfaaGreatDoor.Pure
open Go Go.RowKit Go.Proofs Go.Proofs.YtfknmohedlfmfaaGreatDoor Go.Proofs.YtfknmohedlfmfaaGreatDoor.L Go.Proofs.YtfknmohedlfmfaaGreatDoorW.PrintWords Go.Proofs.YtfknmohedlfmfaaGreatDoorW.PrintMore Go.Proofs.YtfknmohedlfmfaaGreatDoorW.PrintLast
theorem goodF {l : List LFile} (h : ∀ y ∈ l, fnExactAppendEntry.good55 y) : ∀ y ∈ l, y.f0.size ≤ 9223372036854775807 ∧ y.f1.size ≤ 9223372036854775807 := fun y hy => by
  have := h y hy
  unfold fnExactAppendEntry.good55 maxLen at this
  omega
theorem mem_wF (l : List LFile) (y : LFile) (h : y ∈ l) : y.f1.size ≤ wF l := by
  induction l with
  | nil => cases h
  | cons f l ih =>
    have h2 : wF (f :: l) = f.f0.size + f.f1.size + wF l := rfl
    rcases List.mem_cons.1 h with rfl | h
    · omega
    · have := ih h; omega
theorem fnExactAppendEntry_pure : fnExactAppendEntry.Pure0 := by
  intro l cap cnt cr fa u last size entry most hl hg _ _ _ _ _ _ _ _
  refine ⟨0, ?_⟩
  unfold laws_FnExactAppendEntry.f
  refine if_pos ?_
  unfold ApOk
  by_cases hes : 1048576 < entry.size
  · exact .inl hes
  refine .inr ?_
  have hl' : l.length ≤ 9223372036854775807 := by unfold maxLen at hl; omega
  have hs := goodF hg
  obtain ⟨mk, hmk⟩ := marks
  obtain ⟨k1, h1⟩ := (szFs_ev l cap cnt cr fa u 1048576 hl' hs (by omega) (by omega)).rounds
  by_cases hc : (wtF l : Int) ≤ 1048576
  · rw [if_pos hc] at h1
    refine ⟨k1, _, h1, .inr ?_⟩
    have hle : l.length ≤ 1048576 := by unfold wtF at hc; omega
    have hI : InvA 1048576 1048576 (l.map cvF) := by
      refine ⟨by rw [List.length_map]; exact hle, fun x hx => ?_, fun x hx => ?_⟩
      · obtain ⟨y, hy, rfl⟩ := List.mem_map.1 hx
        have h1 : (cvF y).f1.size = y.f1.size := rfl
        have := mem_wF l y hy
        unfold wtF at hc
        omega
      · obtain ⟨y, hy, rfl⟩ := List.mem_map.1 hx
        exact (hs y hy).1
    obtain ⟨k2, h2⟩ := (toFs_ev l cap cnt cr fa u (by omega)).rounds
    obtain ⟨L, hL⟩ : ∃ L, l.map cvF = L := ⟨_, rfl⟩
    rw [hL] at hI h2
    obtain ⟨e4, hZ⟩ := spec_app L cap cnt cr fa u last size entry most hI (by omega) (by omega) (by omega)
    have e5 := impl_app L cap cnt cr fa u last size entry most hI (by omega) (by omega) (by omega)
    obtain ⟨Z, z1, z2, z3, z4, z5, y1, y2, y3, hP⟩ : ∃ Z z1 z2 z3 z4 z5 y1 y2 y3, appP L cap cnt cr fa u last size entry most = (Z, z1, z2, z3, z4, z5, y1, y2, y3) := ⟨_, _, _, _, _, _, _, _, _, rfl⟩
    rw [hP] at e4 e5 hZ
    obtain ⟨k4, h4⟩ := e4.rounds
    obtain ⟨k5, h5⟩ := e5.rounds
    have hZl : Z.length ≤ 1048580 := hZ.1
    have hLl : L.length ≤ 1048576 := hI.1
    obtain ⟨k6, h6⟩ := (eqFs_ev Z z1 z2 z3 z4 z5 (by omega)).rounds
    obtain ⟨k7, h7⟩ := (eqFs_ev L cap cnt cr fa u (by omega)).rounds
    obtain ⟨k9, h9⟩ := (markFs_ev mk hmk L cap cnt cr fa u (by omega)).rounds
    obtain ⟨k10, h10⟩ := (markFs_ev mk hmk Z z1 z2 z3 z4 z5 (by omega)).rounds
    obtain ⟨k11, h11⟩ := (heldFs_ev mk hmk Z.length z1 z2 z3 z4 z5 (by omega)).rounds
    have h8 : laws_eqLog.f y1 y2 y1 y2 = some true := by
      unfold laws_eqLog.f
      simp
    exact ⟨k2, k4, k5, k6, k7, k9, k10, k11, L, cap, cnt, cr, fa, u, last, size, Z, z1, z2, z3, z4, z5, y1, y2, y3, _, _, _, _, h2, rfl, h4, h5, h6, h7, h8, h9, by omega, h10, by omega, h11⟩
  · rw [if_neg hc] at h1
    exact ⟨k1, _, h1, .inl (by decide)⟩
end Go.Proofs.YtfknmohedlfmfaaGreatDoor.Pure
namespace Go.Proofs.YtfknmohedlfmfaaGreatDoor
theorem fnExactAppendEntry_holds : Rows.FnExactAppendEntryCardSaid := fnExactAppendEntry.card Pure.fnExactAppendEntry_pure
end Go.Proofs.YtfknmohedlfmfaaGreatDoor
end
