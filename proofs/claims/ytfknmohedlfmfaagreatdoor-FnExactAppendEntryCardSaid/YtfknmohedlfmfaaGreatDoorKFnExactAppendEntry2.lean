/- The texts that the proof of the law FnExactAppendEntry rests on, part 2: printed functions with their contracts, words, plain laws; the last part ends in the statement itself. No condition but those that each theorem states. -/
import Derived.Test.YtfknmohedlfmfaaGreatDoorKFnExactAppendEntry1
set_option linter.unusedVariables false
set_option linter.unusedSimpArgs false
section
namespace Go.Proofs.YtfknmohedlfmfaaGreatDoor.L
open Go.RowKit Go.Proofs.YtfknmohedlfmfaaGreatDoorW.PrintWords Go.Proofs.YtfknmohedlfmfaaGreatDoorW.PrintLast Go.Proofs.YtfknmohedlfmfaaGreatDoorW.PrintMore
attribute [local go_sem] max2_int min2_int max_two min_two max_three min_three max_four min_four
set_option linter.unusedVariables false
set_option linter.unusedSimpArgs false
mutual
def spec_FsValid.j0 : Nat → Bool → List (S61) → Int → Int → Int → Int → Bool → Option (Bool)
  | 0, _, _, _, _, _, _, _ => none
  | k + 1, x21, x131000, x131001, x131002, x131003, x131004, x131005 => if x21 = true then (some false) else (spec_FsValid.l0 k x131000 (x131000.length : Int) 0 x131000 x131001 x131002 x131003 x131004 x131005)
def spec_FsValid.l0 : Nat → List (S61) → Int → Int → List (S61) → Int → Int → Int → Int → Bool → Option (Bool)
  | 0, _, _, _, _, _, _, _, _, _ => none
  | k + 1, x23, x24, x25, x131000, x131001, x131002, x131003, x131004, x131005 => if x25 < x24 then (if 0 ≤ x25 then (if x25 < (x23.length : Int) then ((spec_l6FileName.f k ((rd_T61 x23 x25).f0)).bind fun t138 => (if t138 = true then ((spec_l1Between.f ((rd_T61 x23 x25).f2) 0 (((rd_T61 x23 x25).f1).size : Int)).bind fun t139 => (if t139 = true then (if x25 > 0 then (if 0 ≤ (wrap64 (x25 - 1)) then (if (wrap64 (x25 - 1)) < (x131000.length : Int) then (if ((Op.bytesLess (((rd_T61 x131000 (wrap64 (x25 - 1))).f0).toList) (((rd_T61 x23 x25).f0).toList)) = true) then (spec_FsValid.l0 k x23 x24 (wrap64 (x25 + 1)) x131000 x131001 x131002 x131003 x131004 x131005) else (some false)) else (none)) else (none)) else (spec_FsValid.l0 k x23 x24 (wrap64 (x25 + 1)) x131000 x131001 x131002 x131003 x131004 x131005)) else (some false))) else (some false))) else (none)) else (none)) else ((spec_l1Between.f x131002 0 1000000000000000).bind fun t133 => (if t133 = true then ((spec_l1Between.f x131003 0 1000000000000000).bind fun t134 => (if t134 = true then ((spec_l1Between.f x131004 0 1000000000000000).bind fun t135 => (some t135)) else (some false))) else (some false)))
end
def spec_FsValid.f (k : Nat) (l0_0 : List (S61)) (a0_1 : Int) (a0_2 : Int) (a0_3 : Int) (a0_4 : Int) (a0_5 : Bool) : Option (Bool) := if (l0_0.length : Int) > 300 then (spec_FsValid.j0 k true l0_0 a0_1 a0_2 a0_3 a0_4 a0_5) else ((spec_l1Between.f a0_1 0 1000000000).bind fun t131 => (if t131 = true then ((spec_l6Bytes.f k l0_0 a0_1 a0_2 a0_3 a0_4 a0_5).bind fun t132 => (spec_FsValid.j0 k (decide (t132 > a0_1)) l0_0 a0_1 a0_2 a0_3 a0_4 a0_5)) else (spec_FsValid.j0 k true l0_0 a0_1 a0_2 a0_3 a0_4 a0_5)))
theorem spec_FsValid.mono_l : ∀ k, (∀ y0 y1 y2 y3 y4 y5 y6, LeO (spec_FsValid.j0 k y0 y1 y2 y3 y4 y5 y6) (spec_FsValid.j0 (k + 1) y0 y1 y2 y3 y4 y5 y6)) ∧ (∀ y0 y1 y2 y3 y4 y5 y6 y7 y8, LeO (spec_FsValid.l0 k y0 y1 y2 y3 y4 y5 y6 y7 y8) (spec_FsValid.l0 (k + 1) y0 y1 y2 y3 y4 y5 y6 y7 y8))
  | 0 => ⟨fun _ _ _ _ _ _ _ r h => by simp [spec_FsValid.j0] at h, fun _ _ _ _ _ _ _ _ _ r h => by simp [spec_FsValid.l0] at h⟩
  | k + 1 => by
    obtain ⟨ih0, ih1⟩ := spec_FsValid.mono_l k
    refine ⟨?_, ?_⟩
    · intro y0 y1 y2 y3 y4 y5 y6
      unfold spec_FsValid.j0
      repeat' first
      | (with_reducible exact ih0 _ _ _ _ _ _ _)
      | (with_reducible exact ih1 _ _ _ _ _ _ _ _ _)
      | (with_reducible exact spec_l6Bytes.mono _ _ _ _ _ _ _)
      | (with_reducible exact spec_l6FileName.mono _ _)
      | (with_reducible exact LeO.refl _)
      | (with_reducible exact LeO.none _)
      | (with_reducible refine LeO.ite ?_ ?_)
      | (with_reducible refine LeO.bind ?_ (fun _ => ?_))
      | exact ih0 _ _ _ _ _ _ _
      | exact ih1 _ _ _ _ _ _ _ _ _
      | exact spec_l6Bytes.mono _ _ _ _ _ _ _
      | exact spec_l6FileName.mono _ _
      | exact LeO.none _
      | refine LeO.ite ?_ ?_
      | refine LeO.bind ?_ (fun _ => ?_)
    · intro y0 y1 y2 y3 y4 y5 y6 y7 y8
      unfold spec_FsValid.l0
      repeat' first
      | (with_reducible exact ih0 _ _ _ _ _ _ _)
      | (with_reducible exact ih1 _ _ _ _ _ _ _ _ _)
      | (with_reducible exact spec_l6Bytes.mono _ _ _ _ _ _ _)
      | (with_reducible exact spec_l6FileName.mono _ _)
      | (with_reducible exact LeO.refl _)
      | (with_reducible exact LeO.none _)
      | (with_reducible refine LeO.ite ?_ ?_)
      | (with_reducible refine LeO.bind ?_ (fun _ => ?_))
      | exact ih0 _ _ _ _ _ _ _
      | exact ih1 _ _ _ _ _ _ _ _ _
      | exact spec_l6Bytes.mono _ _ _ _ _ _ _
      | exact spec_l6FileName.mono _ _
      | exact LeO.none _
      | refine LeO.ite ?_ ?_
      | refine LeO.bind ?_ (fun _ => ?_)
theorem spec_FsValid.mono : ∀ a0 a1 a2 a3 a4 a5 k, LeO (spec_FsValid.f k a0 a1 a2 a3 a4 a5) (spec_FsValid.f (k + 1) a0 a1 a2 a3 a4 a5) := by
  intro a0 a1 a2 a3 a4 a5 k
  obtain ⟨ih0, ih1⟩ := spec_FsValid.mono_l k
  unfold spec_FsValid.f
  repeat' first
      | (with_reducible exact ih0 _ _ _ _ _ _ _)
      | (with_reducible exact ih1 _ _ _ _ _ _ _ _ _)
      | (with_reducible exact spec_l6Bytes.mono _ _ _ _ _ _ _)
      | (with_reducible exact spec_l6FileName.mono _ _)
      | (with_reducible exact LeO.refl _)
      | (with_reducible exact LeO.none _)
      | (with_reducible refine LeO.ite ?_ ?_)
      | (with_reducible refine LeO.bind ?_ (fun _ => ?_))
      | exact ih0 _ _ _ _ _ _ _
      | exact ih1 _ _ _ _ _ _ _ _ _
      | exact spec_l6Bytes.mono _ _ _ _ _ _ _
      | exact spec_l6FileName.mono _ _
      | exact LeO.none _
      | refine LeO.ite ?_ ?_
      | refine LeO.bind ?_ (fun _ => ?_)
def spec_FsValid.T1 : Bool × List (List Nat × List Nat) := (true, [([], []), ([0], [0]), ([1], [1]), ([2], [2]), ([3], [3]), ([4], [4]), ([5, 4], [4, 5]), ([6, 4, 4], [4, 6]), ([7, 4], [4, 7]), ([4, 8], [4, 8]), ([9, 7], [9]), ([10], [10]), ([11, 10, 10], [10, 11]), ([10], [10]), ([13, 10], [10, 13]), ([12, 14, 10], [10, 12, 14]), ([10, 15], [10, 15])])
def spec_FsValid.B1 : List Nat := [0, 1, 3, 7, 15, 31, 63, 127, 255, 511, 1023, 2047, 4095, 2047, 10239, 32767, 65535]
theorem spec_FsValid.tab1 : rtab .any (opsOf Tryz.f31 1) = spec_FsValid.T1 := by kernel_rfl
theorem spec_FsValid.bits1 : waitsOk spec_FsValid.T1.2 spec_FsValid.B1 = true := by kernel_rfl
def spec_FsValid.T6 : Bool × List (List Nat × List Nat) := (true, [([], []), ([0], [0]), ([1], [1]), ([2], [2]), ([3, 2], [3]), ([4], [4]), ([5, 4], [4, 5]), ([4], [4]), ([7, 4], [4, 7]), ([8, 4], [4, 8]), ([6, 9, 4, 4], [4, 6, 9]), ([10, 4], [4, 10]), ([4, 11], [4, 11]), ([12, 10], [12]), ([13], [13]), ([14, 13], [13, 14]), ([15, 13, 13], [13, 15]), ([16], [16]), ([17, 16], [16, 17]), ([16], [16]), ([19, 16], [16, 19]), ([18, 20, 16], [16, 18, 20]), ([21, 16], [16, 21]), ([22, 16], [16, 22]), ([16], [16]), ([24, 16], [16, 24]), ([23, 25, 16], [16, 23, 25]), ([16, 26, 13], [13, 16, 26]), ([13, 27], [13, 27])])
def spec_FsValid.B6 : List Nat := [0, 1, 3, 7, 15, 31, 63, 31, 159, 415, 1023, 2047, 4095, 8191, 16383, 32767, 65535, 131071, 262143, 131071, 655359, 2097151, 4194303, 8388607, 131071, 16908287, 67108863, 134217727, 268435455]
theorem spec_FsValid.tab6 : rtab .any (opsOf Tryz.f31 6) = spec_FsValid.T6 := by kernel_rfl
theorem spec_FsValid.bits6 : waitsOk spec_FsValid.T6.2 spec_FsValid.B6 = true := by kernel_rfl
set_option maxHeartbeats 8000000 in
set_option maxRecDepth 100000 in
theorem spec_FsValid.calls (k : Nat) (A0_0 : Option Addr) (c0_0 : Nat) (l0_0 : List (S61)) (a0_1 : Int) (a0_2 : Int) (a0_3 : Int) (a0_4 : Int) (a0_5 : Bool) (r : Bool) (w : World) (hr0_0 : Kd.C k61 w A0_0 l0_0.length l0_0) (hc0_0 : l0_0.length ≤ c0_0) (h : spec_FsValid.f k l0_0 a0_1 a0_2 a0_3 a0_4 a0_5 = some r) :
    Calls Tryz.prog 31 #[.agg #[.slice A0_0 l0_0.length c0_0, .int .i64 a0_1, .int .i64 a0_2, .int .i64 a0_3, .int .i64 a0_4, .bool a0_5]] w fun e w' => e = .returned (.bool r) ∧ Below w.heap.size w w' := by
  have hu30 := Tryz.underlying30; have hu61 := Tryz.underlying61; have HR0_0 := qK hr0_0; have HC0_0 := qK hc0_0; clear hr0_0 hc0_0; have HB := qK (Below.refl w.heap.size w); have H : (if (l0_0.length : Int) > 300 then (spec_FsValid.j0 k true l0_0 a0_1 a0_2 a0_3 a0_4 a0_5) else ((spec_l1Between.f a0_1 0 1000000000).bind fun t131 => (if t131 = true then ((spec_l6Bytes.f k l0_0 a0_1 a0_2 a0_3 a0_4 a0_5).bind fun t132 => (spec_FsValid.j0 k (decide (t132 > a0_1)) l0_0 a0_1 a0_2 a0_3 a0_4 a0_5)) else (spec_FsValid.j0 k true l0_0 a0_1 a0_2 a0_3 a0_4 a0_5)))) = some r := h; clear h; have HC2 := qK H; clear H; go_enter Tryz.func31, Tryz.ntmps31; go_upto_region 1 with (first | ((with_reducible refine gds (N := 1) rfl ?_); (try (refine gate_guard (by rfl) ?_; dsimp only)); refine qbx 1 #[.slice A0_0 l0_0.length c0_0, .int .i64 a0_1, .int .i64 a0_2, .int .i64 a0_3, .int .i64 a0_4, .bool a0_5] 30 ?_; intro gb130 hg w3 hbox hb; have BK130 := qK (hbox); have GW130 := qK ((qW : w.heap.size ≤ gb130)); have GE130 := GW130; replace HB := qHB HB hb; clear hb hbox hg)); (try simp only [Act.put, List.setIfInBounds_toArray, List.set_cons_zero, List.set_cons_succ]); go_cut [21] (fun v21 wc => ∃ (kq : Nat) (x21_1 : Bool), v21 = .bool x21_1 ∧ Aside0 (spec_FsValid.j0 kq x21_1 l0_0 a0_1 a0_2 a0_3 a0_4 a0_5 = some r) ∧ Aside0 (kq ≤ k) ∧ Aside0 (wc.heap[gb130]? = some (.cells #[(.slice A0_0 l0_0.length c0_0), .int .i64 a0_1, .int .i64 a0_2, .int .i64 a0_3, .int .i64 a0_4, .bool a0_5] 30 (0, 0))) ∧ Aside0 (Below w.heap.size w wc))
  case first =>
    have H := HC2.out; clear HC2; by_cases c4 : (l0_0.length : Int) > 300
    · rw [if_pos c4] at H; have c4b0 : decide (300 < (l0_0.length : Int)) = true := decide_eq_true c4; have c4b1 : decide (300 < l0_0.length) = true := decide_eq_true (by omega); clear c4; (first | rw [c4b0] | (simp only [i64_w, i32_w]; rw [c4b0]) | skip); have H' := qK H; clear H; (try go_wp2); replace BK130 := qK (bkD BK130.out); replace HB := qK (bd1 HB.out); refine qs 17 (fun w' => w'.cell? ⟨gb130, 0, none⟩ = some (.slice A0_0 l0_0.length c0_0) ∧ w'.cell? ⟨gb130, 1, none⟩ = some (.int .i64 a0_1) ∧ w'.cell? ⟨gb130, 2, none⟩ = some (.int .i64 a0_2) ∧ w'.cell? ⟨gb130, 3, none⟩ = some (.int .i64 a0_3) ∧ w'.cell? ⟨gb130, 4, none⟩ = some (.int .i64 a0_4) ∧ w'.cell? ⟨gb130, 5, none⟩ = some (.bool a0_5)) (ds := []) (qy6 BK130.out) (fun hHeld => ?_); refine with_tabW spec_FsValid.tab1 spec_FsValid.bits1 (fun HT_ HW_ => ?_); generalize w3.drew = w5 at BK130 HB hHeld ⊢; refine qp 0 5 ?_; refine qt 1 6 ?_; refine qp 2 7 ?_; refine qp 3 8 ?_; refine qp 4 9 ?_; refine qu 5 10 ?_; refine qu 6 11 ?_; refine qu 7 12 ?_; refine qu 8 13 ?_; refine qp 9 14 ?_; refine qp 10 15 ?_; refine qu 11 16 ?_; refine qu 12 17 ?_; refine qu 13 18 ?_; refine qu 14 19 ?_; refine qu 15 20 ?_; refine qp 16 21 ?_; refine done_ (done_of HT_.out (by kernel_rfl)) ?_; (try go_wp2); go_meet
      case rel => exact ⟨_, (true), qS, H', ⟨by first | omega | exact Nat.le_refl _⟩, ⟨by (with_reducible repeat (first | refine bdN ?_ _ | refine bkD ?_ | refine bkA ?_ _)); exact BK130.out⟩, ⟨qB⟩⟩
    · rw [if_neg c4] at H; have c4b0 : decide (300 < (l0_0.length : Int)) = false := decide_eq_false c4; have c4b1 : decide (300 < l0_0.length) = false := decide_eq_false (by omega); clear c4; (first | rw [c4b0] | (simp only [i64_w, i32_w]; rw [c4b0]) | skip); replace H := Option.bind_eq_some_iff.mp H; obtain ⟨t131, A60, H⟩ := H; have A6 := qK A60; clear A60; by_cases c7 : t131 = true
      · subst c7; rw [if_pos rfl] at H; replace H := Option.bind_eq_some_iff.mp H; obtain ⟨t132, A80, H⟩ := H; have A8 := qK A80; clear A80; have H' := qK H; clear H; (try go_wp2); replace BK130 := qK (bkD BK130.out); replace HB := qK (bd1 HB.out); refine qs 17 (fun w' => w'.cell? ⟨gb130, 0, none⟩ = some (.slice A0_0 l0_0.length c0_0) ∧ w'.cell? ⟨gb130, 1, none⟩ = some (.int .i64 a0_1) ∧ w'.cell? ⟨gb130, 2, none⟩ = some (.int .i64 a0_2) ∧ w'.cell? ⟨gb130, 3, none⟩ = some (.int .i64 a0_3) ∧ w'.cell? ⟨gb130, 4, none⟩ = some (.int .i64 a0_4) ∧ w'.cell? ⟨gb130, 5, none⟩ = some (.bool a0_5)) (ds := []) (qy6 BK130.out) (fun hHeld => ?_); refine with_tabW spec_FsValid.tab1 spec_FsValid.bits1 (fun HT_ HW_ => ?_); generalize w3.drew = w9 at BK130 HB hHeld ⊢; refine qp 0 5 ?_; refine qt 1 6 ?_; refine qp 2 7 ?_; refine qp 3 8 ?_; refine qp 4 9 ?_; refine qp 5 10 ?_; refine qt 6 11 ?_; refine qo 7 12 (fun K hK => ?_); refine goes_ Tryz.func15 (by kernel_rfl) rfl #[.int .i64 a0_1, .int .i64 0, .int .i64 1000000000] (by rfl) rfl rfl qA ?_; (with_reducible refine (spec_l1Between.calls a0_1 0 1000000000 true _ A6.out).mono ?_); rintro e w' ⟨rfl, ⟨nd, rfl⟩⟩; refine ⟨_, rfl, ?_⟩; refine hK.out _ _ (qy6 BK130.out) (fun hHeld => ?_); clear hK K; refine norm_ (a' := ?_) ?_ ?_; rotate_left
        · show Act.put _ (some 12) _ = _; simp only [Act.put, List.setIfInBounds_toArray, List.set_cons_zero, List.set_cons_succ, i64_w, i32_w]; rfl
        refine qp 8 13 ?_; refine qp 9 14 ?_; refine qp 10 15 ?_; refine qp 13 18 ?_; refine qt 11 16 ?_; refine qt 14 19 ?_; refine qo 12 17 (fun K hK => ?_); refine goes_ Tryz.func46 (by kernel_rfl) rfl #[.agg #[.slice A0_0 l0_0.length c0_0, .int .i64 a0_1, .int .i64 a0_2, .int .i64 a0_3, .int .i64 a0_4, .bool a0_5]] (by rfl) rfl rfl qA ?_; (with_reducible refine (spec_l6Bytes.calls k _ _ l0_0 a0_1 a0_2 a0_3 a0_4 a0_5 t132 _ ?side1 ?side2 A8.out).mono ?_); (case side1 => exact qC HR0_0); (case side2 => exact HC0_0.out); rintro e w10 ⟨rfl, hb⟩; refine ⟨_, rfl, ?_⟩; replace BK130 := qbb BK130 hb; replace HB := qHB HB hb; (try clear hb); (try clear hb2); (try clear hk); (try clear hi); refine hK.out _ _ (qy6 BK130.out) (fun hHeld => ?_); clear hK K; refine norm_ (a' := ?_) ?_ ?_; rotate_left
        · show Act.put _ (some 17) _ = _; simp only [Act.put, List.setIfInBounds_toArray, List.set_cons_zero, List.set_cons_succ, i64_w, i32_w]; rfl
        refine qp 15 20 ?_; refine qp 16 21 ?_; refine done_ (done_of HT_.out (by kernel_rfl)) ?_; (try go_wp2); go_meet
        case rel => exact ⟨_, (decide (t132 > a0_1)), qS, H', ⟨by first | omega | exact Nat.le_refl _⟩, ⟨by (with_reducible repeat (first | refine bdN ?_ _ | refine bkD ?_ | refine bkA ?_ _)); exact BK130.out⟩, ⟨qB⟩⟩
      · replace c7 := Bool.eq_false_iff.mpr c7; subst c7; rw [if_neg qff] at H; have H' := qK H; clear H; (try go_wp2); replace BK130 := qK (bkD BK130.out); replace HB := qK (bd1 HB.out); refine qs 17 (fun w' => w'.cell? ⟨gb130, 0, none⟩ = some (.slice A0_0 l0_0.length c0_0) ∧ w'.cell? ⟨gb130, 1, none⟩ = some (.int .i64 a0_1) ∧ w'.cell? ⟨gb130, 2, none⟩ = some (.int .i64 a0_2) ∧ w'.cell? ⟨gb130, 3, none⟩ = some (.int .i64 a0_3) ∧ w'.cell? ⟨gb130, 4, none⟩ = some (.int .i64 a0_4) ∧ w'.cell? ⟨gb130, 5, none⟩ = some (.bool a0_5)) (ds := []) (qy6 BK130.out) (fun hHeld => ?_); refine with_tabW spec_FsValid.tab1 spec_FsValid.bits1 (fun HT_ HW_ => ?_); generalize w3.drew = w11 at BK130 HB hHeld ⊢; refine qp 0 5 ?_; refine qt 1 6 ?_; refine qp 2 7 ?_; refine qp 3 8 ?_; refine qp 4 9 ?_; refine qp 5 10 ?_; refine qt 6 11 ?_; refine qo 7 12 (fun K hK => ?_); refine goes_ Tryz.func15 (by kernel_rfl) rfl #[.int .i64 a0_1, .int .i64 0, .int .i64 1000000000] (by rfl) rfl rfl qA ?_; (with_reducible refine (spec_l1Between.calls a0_1 0 1000000000 false _ A6.out).mono ?_); rintro e w' ⟨rfl, ⟨nd, rfl⟩⟩; refine ⟨_, rfl, ?_⟩; refine hK.out _ _ (qy6 BK130.out) (fun hHeld => ?_); clear hK K; refine norm_ (a' := ?_) ?_ ?_; rotate_left
        · show Act.put _ (some 12) _ = _; simp only [Act.put, List.setIfInBounds_toArray, List.set_cons_zero, List.set_cons_succ, i64_w, i32_w]; rfl
        refine qp 8 13 ?_; refine qp 9 14 ?_; refine qp 10 15 ?_; refine qu 11 16 ?_; refine qu 12 17 ?_; refine qu 13 18 ?_; refine qu 14 19 ?_; refine qu 15 20 ?_; refine qp 16 21 ?_; refine done_ (done_of HT_.out (by kernel_rfl)) ?_; (try go_wp2); go_meet
        case rel => exact ⟨_, (true), qS, H', ⟨by first | omega | exact Nat.le_refl _⟩, ⟨by (with_reducible repeat (first | refine bdN ?_ _ | refine bkD ?_ | refine bkA ?_ _)); exact BK130.out⟩, ⟨qB⟩⟩
  case rest =>
    clear HC2; (try clear c1); (try clear p2); (try clear c3); (try clear c4); (try clear c4b0); (try clear c4b1); (try clear c7); obtain ⟨kq, x21_1, rfl, HA, HJ1, BK130, HB⟩ := hcut
    cases kq with
    | zero => exact absurd HA.out (by simp [spec_FsValid.j0])
    | succ kj1 =>
      have H := HA.out; clear HA; simp only [spec_FsValid.j0] at H; by_cases c12 : x21_1 = true
      · subst c12; rw [if_pos rfl] at H; obtain rfl := Option.some.inj H; go_wp2; go_ret; exact ⟨qR, qB⟩
      · replace c12 := Bool.eq_false_iff.mpr c12; subst c12; rw [if_neg qff] at H; have H' := qK H; clear H; obtain ⟨hcz13_0, hcz13_1, hcz13_2, hcz13_3, hcz13_4, hcz13_5⟩ := zC6 BK130.out; obtain ⟨hfz13_0, hfz13_1, hfz13_2, hfz13_3, hfz13_4, hfz13_5⟩ := zF6 BK130.out; go_wp2; go_loopg [25] kj1 (fun kq v25 w' => ∃ (x25_2 : Int), v25 = .int .i64 x25_2 ∧ Aside0 (spec_FsValid.l0 kq l0_0 (l0_0.length : Int) x25_2 l0_0 a0_1 a0_2 a0_3 a0_4 a0_5 = some r) ∧ Aside0 (kq ≤ kj1) ∧ Aside0 (w'.heap[gb130]? = some (.cells #[(.slice A0_0 l0_0.length c0_0), .int .i64 a0_1, .int .i64 a0_2, .int .i64 a0_3, .int .i64 a0_4, .bool a0_5] 30 (0, 0))) ∧ Aside0 (Below w.heap.size w w'))
        case atStart => exact ⟨(0), qS, H', ⟨Nat.le_refl _⟩, ⟨by (with_reducible repeat (first | refine bdN ?_ _ | refine bkD ?_ | refine bkA ?_ _)); exact BK130.out⟩, ⟨qB⟩⟩
        case round =>
          clear H'; (try clear c1); (try clear p2); (try clear c3); (try clear c4); (try clear c4b0); (try clear c4b1); (try clear c7); (try clear c12); (try clear hcz13_0); (try clear hcz13_1); (try clear hcz13_2); (try clear hcz13_3); (try clear hcz13_4); (try clear hcz13_5); (try clear hfz13_0); (try clear hfz13_1); (try clear hfz13_2); (try clear hfz13_3); (try clear hfz13_4); (try clear hfz13_5); obtain ⟨x25_2, rfl, HA, HK2, BK130, HB⟩ := hrel
          cases gk with
          | zero => exact absurd HA.out (by simp [spec_FsValid.l0])
          | succ k2 =>
            have H := HA.out; clear HA; simp only [spec_FsValid.l0] at H; by_cases c14 : x25_2 < (l0_0.length : Int)
            · rw [if_pos c14] at H; have c14b0 : decide (x25_2 < (l0_0.length : Int)) = true := decide_eq_true c14; clear c14; by_cases c15 : 0 ≤ x25_2
              · rw [if_pos c15] at H; have c15b0 : decide (0 ≤ x25_2) = true := decide_eq_true c15; clear c15; by_cases c16 : x25_2 < (l0_0.length : Int)
                · rw [if_pos c16] at H; have c16b0 : decide (x25_2 < (l0_0.length : Int)) = true := decide_eq_true c16; clear c16; replace H := Option.bind_eq_some_iff.mp H; obtain ⟨t138, A170, H⟩ := H; have A17 := qK A170; clear A170; by_cases c18 : t138 = true
                  · subst c18; rw [if_pos rfl] at H; replace H := Option.bind_eq_some_iff.mp H; obtain ⟨t139, A190, H⟩ := H; have A19 := qK A190; clear A190; by_cases c20 : t139 = true
                    · subst c20; rw [if_pos rfl] at H; by_cases c21 : x25_2 > 0
                      · rw [if_pos c21] at H; have c21b0 : decide (0 < x25_2) = true := decide_eq_true c21; clear c21; obtain ⟨ji22, hji22⟩ : ∃ j_ : Int, (wrap64 (x25_2 - 1)) = j_ := ⟨_, rfl⟩; (replace H : (if 0 ≤ (ji22) then (if (ji22) < (l0_0.length : Int) then (if ((Op.bytesLess (((rd_T61 l0_0 (ji22)).f0).toList) (((rd_T61 l0_0 x25_2).f0).toList)) = true) then (spec_FsValid.l0 k2 l0_0 (l0_0.length : Int) (wrap64 (x25_2 + 1)) l0_0 a0_1 a0_2 a0_3 a0_4 a0_5) else (some false)) else (none)) else (none)) = some r := by first | (rw [hji22] at H; exact H) | (simp only [hji22] at H ⊢; exact H)); (try rw [hji22] at A17); (try rw [hji22] at A19); have hji22w : (IntKind.i64.wrap (x25_2 - 1)) = ji22 := (i64_w _).trans hji22; by_cases c23 : 0 ≤ (ji22)
                        · rw [if_pos c23] at H; have c23b0 : decide (0 ≤ (ji22)) = true := decide_eq_true c23; clear c23; by_cases c24 : (ji22) < (l0_0.length : Int)
                          · rw [if_pos c24] at H; have c24b0 : decide ((ji22) < (l0_0.length : Int)) = true := decide_eq_true c24; clear c24; by_cases c25 : ((Op.bytesLess (((rd_T61 l0_0 (ji22)).f0).toList) (((rd_T61 l0_0 x25_2).f0).toList)) = true)
                            · rw [if_pos c25] at H; have c25b0 : (Op.bytesLess (((rd_T61 l0_0 (ji22)).f0).toList) (((rd_T61 l0_0 x25_2).f0).toList)) = true := c25; clear c25; have H' := qK H; clear H; have p136 : 0 ≤ (x25_2 : Int) := of_decide_eq_true qa; have q136 : x25_2 < (l0_0.length : Int) := of_decide_eq_true qa; obtain ⟨ad136, e136, hx136_0, hx136_1, hx136_2⟩ := at_T61 HR0_0.out x25_2 p136 q136; cases e136; replace hx136_0 := (HB.out.cell (World.block_lt_of_cell? w _ hx136_0)).trans hx136_0; replace hx136_1 := (HB.out.cell (World.block_lt_of_cell? w _ hx136_1)).trans hx136_1; replace hx136_2 := (HB.out.cell (World.block_lt_of_cell? w _ hx136_2)).trans hx136_2; replace p136 := eq_true p136; replace q136 := eq_true q136; (try go_wp2_with (first | ((with_reducible refine gds (N := 4) rfl ?_); (try (refine gate_guard (by rfl) ?_; dsimp only)); refine qbx 4 #[.string (⟨#[]⟩ : ByteArray), .string (⟨#[]⟩ : ByteArray), .int .i64 0] 61 ?_; intro gb137 hg w26 hbox hb; have BK137 := qK (hbox); have GW137 := qK ((qW : w.heap.size ≤ gb137)); have GE137 := GW137; replace HB := qHB HB hb; have NB130_137 := qK (qlt BK130 hg); have NB137_130 := qK (qgt BK130 hg); replace BK130 := qbb BK130 hb; clear hb hbox hg; have hnb27 := NB137_130.out; have hnc27 := NB130_137.out; have hz28 := qz3 BK137.out))); have n0_ : Aside0 ((((w26.setCell ⟨gb137, 0, none⟩ (.string ((rd_T61 l0_0 x25_2).f0))).setCell ⟨gb137, 1, none⟩ (.string ((rd_T61 l0_0 x25_2).f1))).setCell ⟨gb137, 2, none⟩ (.int .i64 ((rd_T61 l0_0 x25_2).f2))).heap[gb130]? = some (.cells #[.slice (some ad136) l0_0.length c0_0, .int .i64 a0_1, .int .i64 a0_2, .int .i64 a0_3, .int .i64 a0_4, .bool a0_5] 30 (0, 0))) := ⟨by (with_reducible repeat (first | refine bdN ?_ _ | refine bkD ?_ | refine bkA ?_ _)); refine bfa ?_ NB130_137.out _; refine bfa ?_ NB130_137.out _; refine bfa ?_ NB130_137.out _; exact BK130.out⟩; have n1_ : Aside0 ((((w26.setCell ⟨gb137, 0, none⟩ (.string ((rd_T61 l0_0 x25_2).f0))).setCell ⟨gb137, 1, none⟩ (.string ((rd_T61 l0_0 x25_2).f1))).setCell ⟨gb137, 2, none⟩ (.int .i64 ((rd_T61 l0_0 x25_2).f2))).heap[gb137]? = some (.cells #[.string ((rd_T61 l0_0 x25_2).f0), .string ((rd_T61 l0_0 x25_2).f1), .int .i64 ((rd_T61 l0_0 x25_2).f2)] 61 (0, 0))) := ⟨by (with_reducible repeat (first | refine bdN ?_ _ | refine bkD ?_ | refine bkA ?_ _)); refine bpu (cs := #[.string ((rd_T61 l0_0 x25_2).f0), .string ((rd_T61 l0_0 x25_2).f1), .int .i64 0]) ?_ 2 _ rfl; refine bpu (cs := #[.string ((rd_T61 l0_0 x25_2).f0), .string (⟨#[]⟩ : ByteArray), .int .i64 0]) ?_ 1 _ rfl; refine bpu (cs := #[.string (⟨#[]⟩ : ByteArray), .string (⟨#[]⟩ : ByteArray), .int .i64 0]) ?_ 0 _ rfl; exact BK137.out⟩; have n2_ : Aside0 (Below w.heap.size w (((w26.setCell ⟨gb137, 0, none⟩ (.string ((rd_T61 l0_0 x25_2).f0))).setCell ⟨gb137, 1, none⟩ (.string ((rd_T61 l0_0 x25_2).f1))).setCell ⟨gb137, 2, none⟩ (.int .i64 ((rd_T61 l0_0 x25_2).f2)))) := ⟨qB⟩; (try clear BK130); (try clear BK137); (try clear HB); generalize (((w26.setCell ⟨gb137, 0, none⟩ (.string ((rd_T61 l0_0 x25_2).f0))).setCell ⟨gb137, 1, none⟩ (.string ((rd_T61 l0_0 x25_2).f1))).setCell ⟨gb137, 2, none⟩ (.int .i64 ((rd_T61 l0_0 x25_2).f2))) = w29 at n0_ n1_ n2_ ⊢; have BK130 := n0_; have BK137 := n1_; have HB := n2_; clear n0_ n1_ n2_; replace BK130 := qK (bkD BK130.out); replace BK137 := qK (bkD BK137.out); replace HB := qK (bd1 HB.out); have p140 : 0 ≤ ((ji22) : Int) := of_decide_eq_true qa; have q140 : (ji22) < (l0_0.length : Int) := of_decide_eq_true qa; obtain ⟨ad140, e140, hx140_0, hx140_1, hx140_2⟩ := at_T61 HR0_0.out (ji22) p140 q140; have hw140_2 := hx140_2; have hw140_1 := hx140_1; have hw140_0 := hx140_0; obtain rfl : ad136 = ad140 := (by injection e140); replace hx140_0 := (HB.out.cell (World.block_lt_of_cell? w _ hx140_0)).trans hx140_0; replace hx140_1 := (HB.out.cell (World.block_lt_of_cell? w _ hx140_1)).trans hx140_1; replace hx140_2 := (HB.out.cell (World.block_lt_of_cell? w _ hx140_2)).trans hx140_2; replace p140 := eq_true p140; replace q140 := eq_true q140; refine qs 29 (fun w' => w'.cell? ⟨gb137, 0, none⟩ = some (.string ((rd_T61 l0_0 x25_2).f0)) ∧ w'.cell? ⟨gb137, 1, none⟩ = some (.string ((rd_T61 l0_0 x25_2).f1)) ∧ w'.cell? ⟨gb137, 2, none⟩ = some (.int .i64 ((rd_T61 l0_0 x25_2).f2)) ∧ w'.cell? ⟨gb130, 0, none⟩ = some (.slice (some ad136) l0_0.length c0_0) ∧ w'.cell? ⟨gb130, 1, none⟩ = some (.int .i64 a0_1) ∧ w'.cell? ⟨gb130, 2, none⟩ = some (.int .i64 a0_2) ∧ w'.cell? ⟨gb130, 3, none⟩ = some (.int .i64 a0_3) ∧ w'.cell? ⟨gb130, 4, none⟩ = some (.int .i64 a0_4) ∧ w'.cell? ⟨gb130, 5, none⟩ = some (.bool a0_5) ∧ w'.cell? (ad136.add (((ji22)).toNat * 3)) = some (.string ((rd_T61 l0_0 (ji22)).f0)) ∧ w'.cell? ⟨(ad136.add (((ji22)).toNat * 3)).block, (ad136.add (((ji22)).toNat * 3)).off + 1, none⟩ = some (.string ((rd_T61 l0_0 (ji22)).f1)) ∧ w'.cell? ⟨(ad136.add (((ji22)).toNat * 3)).block, (ad136.add (((ji22)).toNat * 3)).off + 2, none⟩ = some (.int .i64 ((rd_T61 l0_0 (ji22)).f2))) (ds := []) ⟨(bce BK137.out 0).trans rfl, (bce BK137.out 1).trans rfl, (bce BK137.out 2).trans rfl, (bce BK130.out 0).trans rfl, (bce BK130.out 1).trans rfl, (bce BK130.out 2).trans rfl, (bce BK130.out 3).trans rfl, (bce BK130.out 4).trans rfl, (bce BK130.out 5).trans rfl, ((HB.out.cell (World.block_lt_of_cell? w _ hw140_0)).trans hw140_0), ((HB.out.cell (World.block_lt_of_cell? w _ hw140_1)).trans hw140_1), ((HB.out.cell (World.block_lt_of_cell? w _ hw140_2)).trans hw140_2)⟩ (fun hHeld => ?_); refine with_tabW spec_FsValid.tab6 spec_FsValid.bits6 (fun HT_ HW_ => ?_); generalize w29.drew = w30 at BK130 BK137 HB hx140_0 hx140_1 hx140_2 hHeld ⊢; refine qp 0 30 ?_; refine qt 1 31 ?_; refine qo 2 32 (fun K hK => ?_); refine goes_ Tryz.func32 (by kernel_rfl) rfl #[.string ((rd_T61 l0_0 x25_2).f0)] (by rfl) rfl rfl qA ?_; (with_reducible refine (spec_l6FileName.calls k2 ((rd_T61 l0_0 x25_2).f0) true _ A17.out).mono ?_); rintro e w' ⟨rfl, ⟨nd, rfl⟩⟩; refine ⟨_, rfl, ?_⟩; refine hK.out _ _ ⟨(bce BK137.out 0).trans rfl, (bce BK137.out 1).trans rfl, (bce BK137.out 2).trans rfl, (bce BK130.out 0).trans rfl, (bce BK130.out 1).trans rfl, (bce BK130.out 2).trans rfl, (bce BK130.out 3).trans rfl, (bce BK130.out 4).trans rfl, (bce BK130.out 5).trans rfl, ((HB.out.cell (World.block_lt_of_cell? w _ hw140_0)).trans hw140_0), ((HB.out.cell (World.block_lt_of_cell? w _ hw140_1)).trans hw140_1), ((HB.out.cell (World.block_lt_of_cell? w _ hw140_2)).trans hw140_2)⟩ (fun hHeld => ?_); clear hK K; refine norm_ (a' := ?_) ?_ ?_; rotate_left
                              · show Act.put _ (some 32) _ = _; simp only [Act.put, List.setIfInBounds_toArray, List.set_cons_zero, List.set_cons_succ, i64_w, i32_w]; rfl
                              refine qp 3 33 ?_; refine qp 4 34 ?_; refine qp 5 35 ?_; refine qp 7 37 ?_; refine qt 6 36 ?_; refine qt 8 38 ?_; refine qp 9 39 ?_; refine qo 10 40 (fun K hK => ?_); refine goes_ Tryz.func15 (by kernel_rfl) rfl #[.int .i64 ((rd_T61 l0_0 x25_2).f2), .int .i64 0, .int .i64 (((rd_T61 l0_0 x25_2).f1).size : Int)] (by rfl) rfl rfl qA ?_; (with_reducible refine (spec_l1Between.calls ((rd_T61 l0_0 x25_2).f2) 0 (((rd_T61 l0_0 x25_2).f1).size : Int) true _ A19.out).mono ?_); rintro e w' ⟨rfl, ⟨nd, rfl⟩⟩; refine ⟨_, rfl, ?_⟩; refine hK.out _ _ ⟨(bce BK137.out 0).trans rfl, (bce BK137.out 1).trans rfl, (bce BK137.out 2).trans rfl, (bce BK130.out 0).trans rfl, (bce BK130.out 1).trans rfl, (bce BK130.out 2).trans rfl, (bce BK130.out 3).trans rfl, (bce BK130.out 4).trans rfl, (bce BK130.out 5).trans rfl, ((HB.out.cell (World.block_lt_of_cell? w _ hw140_0)).trans hw140_0), ((HB.out.cell (World.block_lt_of_cell? w _ hw140_1)).trans hw140_1), ((HB.out.cell (World.block_lt_of_cell? w _ hw140_2)).trans hw140_2)⟩ (fun hHeld => ?_); clear hK K; refine norm_ (a' := ?_) ?_ ?_; rotate_left
                              · show Act.put _ (some 40) _ = _; simp only [Act.put, List.setIfInBounds_toArray, List.set_cons_zero, List.set_cons_succ, i64_w, i32_w]; rfl
                              refine qp 11 41 ?_; refine qp 12 42 ?_; refine qp 13 43 ?_; refine qp 14 44 ?_; refine qp 15 45 ?_; refine qp 16 46 ?_; refine qp 17 47 ?_; refine qp 19 49 ?_; refine qp 20 50 ?_; refine qp 24 54 ?_; refine qt 18 48 ?_; refine qp 21 51 ?_; refine qp 22 52 ?_; refine qt 23 53 ?_; refine qt 25 55 ?_; refine qp 26 56 ?_; refine qp 27 57 ?_; refine qp 28 58 ?_; refine done_ (done_of HT_.out (by kernel_rfl)) ?_; (try go_wp2); go_roundg k2
                              case measure => have := HJ1.out; have := HK2.out; omega
                              case rel => exact ⟨(wrap64 (x25_2 + 1)), qS, H', ⟨by have := HJ1.out; have := HK2.out; omega⟩, ⟨by (with_reducible repeat (first | refine bdN ?_ _ | refine bkD ?_ | refine bkA ?_ _)); exact BK130.out⟩, ⟨qB⟩⟩
                            · rw [if_neg c25] at H; (have c25b0 : (Op.bytesLess (((rd_T61 l0_0 (ji22)).f0).toList) (((rd_T61 l0_0 x25_2).f0).toList)) = false := by simpa using c25); clear c25; obtain rfl := Option.some.inj H; have p136 : 0 ≤ (x25_2 : Int) := of_decide_eq_true qa; have q136 : x25_2 < (l0_0.length : Int) := of_decide_eq_true qa; obtain ⟨ad136, e136, hx136_0, hx136_1, hx136_2⟩ := at_T61 HR0_0.out x25_2 p136 q136; cases e136; replace hx136_0 := (HB.out.cell (World.block_lt_of_cell? w _ hx136_0)).trans hx136_0; replace hx136_1 := (HB.out.cell (World.block_lt_of_cell? w _ hx136_1)).trans hx136_1; replace hx136_2 := (HB.out.cell (World.block_lt_of_cell? w _ hx136_2)).trans hx136_2; replace p136 := eq_true p136; replace q136 := eq_true q136; (try go_wp2_with (first | ((with_reducible refine gds (N := 4) rfl ?_); (try (refine gate_guard (by rfl) ?_; dsimp only)); refine qbx 4 #[.string (⟨#[]⟩ : ByteArray), .string (⟨#[]⟩ : ByteArray), .int .i64 0] 61 ?_; intro gb137 hg w31 hbox hb; have BK137 := qK (hbox); have GW137 := qK ((qW : w.heap.size ≤ gb137)); have GE137 := GW137; replace HB := qHB HB hb; have NB130_137 := qK (qlt BK130 hg); have NB137_130 := qK (qgt BK130 hg); replace BK130 := qbb BK130 hb; clear hb hbox hg; have hnb32 := NB137_130.out; have hnc32 := NB130_137.out; have hz33 := qz3 BK137.out))); have n0_ : Aside0 ((((w31.setCell ⟨gb137, 0, none⟩ (.string ((rd_T61 l0_0 x25_2).f0))).setCell ⟨gb137, 1, none⟩ (.string ((rd_T61 l0_0 x25_2).f1))).setCell ⟨gb137, 2, none⟩ (.int .i64 ((rd_T61 l0_0 x25_2).f2))).heap[gb130]? = some (.cells #[.slice (some ad136) l0_0.length c0_0, .int .i64 a0_1, .int .i64 a0_2, .int .i64 a0_3, .int .i64 a0_4, .bool a0_5] 30 (0, 0))) := ⟨by (with_reducible repeat (first | refine bdN ?_ _ | refine bkD ?_ | refine bkA ?_ _)); refine bfa ?_ NB130_137.out _; refine bfa ?_ NB130_137.out _; refine bfa ?_ NB130_137.out _; exact BK130.out⟩; have n1_ : Aside0 ((((w31.setCell ⟨gb137, 0, none⟩ (.string ((rd_T61 l0_0 x25_2).f0))).setCell ⟨gb137, 1, none⟩ (.string ((rd_T61 l0_0 x25_2).f1))).setCell ⟨gb137, 2, none⟩ (.int .i64 ((rd_T61 l0_0 x25_2).f2))).heap[gb137]? = some (.cells #[.string ((rd_T61 l0_0 x25_2).f0), .string ((rd_T61 l0_0 x25_2).f1), .int .i64 ((rd_T61 l0_0 x25_2).f2)] 61 (0, 0))) := ⟨by (with_reducible repeat (first | refine bdN ?_ _ | refine bkD ?_ | refine bkA ?_ _)); refine bpu (cs := #[.string ((rd_T61 l0_0 x25_2).f0), .string ((rd_T61 l0_0 x25_2).f1), .int .i64 0]) ?_ 2 _ rfl; refine bpu (cs := #[.string ((rd_T61 l0_0 x25_2).f0), .string (⟨#[]⟩ : ByteArray), .int .i64 0]) ?_ 1 _ rfl; refine bpu (cs := #[.string (⟨#[]⟩ : ByteArray), .string (⟨#[]⟩ : ByteArray), .int .i64 0]) ?_ 0 _ rfl; exact BK137.out⟩; have n2_ : Aside0 (Below w.heap.size w (((w31.setCell ⟨gb137, 0, none⟩ (.string ((rd_T61 l0_0 x25_2).f0))).setCell ⟨gb137, 1, none⟩ (.string ((rd_T61 l0_0 x25_2).f1))).setCell ⟨gb137, 2, none⟩ (.int .i64 ((rd_T61 l0_0 x25_2).f2)))) := ⟨qB⟩; (try clear BK130); (try clear BK137); (try clear HB); generalize (((w31.setCell ⟨gb137, 0, none⟩ (.string ((rd_T61 l0_0 x25_2).f0))).setCell ⟨gb137, 1, none⟩ (.string ((rd_T61 l0_0 x25_2).f1))).setCell ⟨gb137, 2, none⟩ (.int .i64 ((rd_T61 l0_0 x25_2).f2))) = w34 at n0_ n1_ n2_ ⊢; have BK130 := n0_; have BK137 := n1_; have HB := n2_; clear n0_ n1_ n2_; replace BK130 := qK (bkD BK130.out); replace BK137 := qK (bkD BK137.out); replace HB := qK (bd1 HB.out); have p140 : 0 ≤ ((ji22) : Int) := of_decide_eq_true qa; have q140 : (ji22) < (l0_0.length : Int) := of_decide_eq_true qa; obtain ⟨ad140, e140, hx140_0, hx140_1, hx140_2⟩ := at_T61 HR0_0.out (ji22) p140 q140; have hw140_2 := hx140_2; have hw140_1 := hx140_1; have hw140_0 := hx140_0; obtain rfl : ad136 = ad140 := (by injection e140); replace hx140_0 := (HB.out.cell (World.block_lt_of_cell? w _ hx140_0)).trans hx140_0; replace hx140_1 := (HB.out.cell (World.block_lt_of_cell? w _ hx140_1)).trans hx140_1; replace hx140_2 := (HB.out.cell (World.block_lt_of_cell? w _ hx140_2)).trans hx140_2; replace p140 := eq_true p140; replace q140 := eq_true q140; refine qs 29 (fun w' => w'.cell? ⟨gb137, 0, none⟩ = some (.string ((rd_T61 l0_0 x25_2).f0)) ∧ w'.cell? ⟨gb137, 1, none⟩ = some (.string ((rd_T61 l0_0 x25_2).f1)) ∧ w'.cell? ⟨gb137, 2, none⟩ = some (.int .i64 ((rd_T61 l0_0 x25_2).f2)) ∧ w'.cell? ⟨gb130, 0, none⟩ = some (.slice (some ad136) l0_0.length c0_0) ∧ w'.cell? ⟨gb130, 1, none⟩ = some (.int .i64 a0_1) ∧ w'.cell? ⟨gb130, 2, none⟩ = some (.int .i64 a0_2) ∧ w'.cell? ⟨gb130, 3, none⟩ = some (.int .i64 a0_3) ∧ w'.cell? ⟨gb130, 4, none⟩ = some (.int .i64 a0_4) ∧ w'.cell? ⟨gb130, 5, none⟩ = some (.bool a0_5) ∧ w'.cell? (ad136.add (((ji22)).toNat * 3)) = some (.string ((rd_T61 l0_0 (ji22)).f0)) ∧ w'.cell? ⟨(ad136.add (((ji22)).toNat * 3)).block, (ad136.add (((ji22)).toNat * 3)).off + 1, none⟩ = some (.string ((rd_T61 l0_0 (ji22)).f1)) ∧ w'.cell? ⟨(ad136.add (((ji22)).toNat * 3)).block, (ad136.add (((ji22)).toNat * 3)).off + 2, none⟩ = some (.int .i64 ((rd_T61 l0_0 (ji22)).f2))) (ds := []) ⟨(bce BK137.out 0).trans rfl, (bce BK137.out 1).trans rfl, (bce BK137.out 2).trans rfl, (bce BK130.out 0).trans rfl, (bce BK130.out 1).trans rfl, (bce BK130.out 2).trans rfl, (bce BK130.out 3).trans rfl, (bce BK130.out 4).trans rfl, (bce BK130.out 5).trans rfl, ((HB.out.cell (World.block_lt_of_cell? w _ hw140_0)).trans hw140_0), ((HB.out.cell (World.block_lt_of_cell? w _ hw140_1)).trans hw140_1), ((HB.out.cell (World.block_lt_of_cell? w _ hw140_2)).trans hw140_2)⟩ (fun hHeld => ?_); refine with_tabW spec_FsValid.tab6 spec_FsValid.bits6 (fun HT_ HW_ => ?_); generalize w34.drew = w35 at BK130 BK137 HB hx140_0 hx140_1 hx140_2 hHeld ⊢; refine qp 0 30 ?_; refine qt 1 31 ?_; refine qo 2 32 (fun K hK => ?_); refine goes_ Tryz.func32 (by kernel_rfl) rfl #[.string ((rd_T61 l0_0 x25_2).f0)] (by rfl) rfl rfl qA ?_; (with_reducible refine (spec_l6FileName.calls k2 ((rd_T61 l0_0 x25_2).f0) true _ A17.out).mono ?_); rintro e w' ⟨rfl, ⟨nd, rfl⟩⟩; refine ⟨_, rfl, ?_⟩; refine hK.out _ _ ⟨(bce BK137.out 0).trans rfl, (bce BK137.out 1).trans rfl, (bce BK137.out 2).trans rfl, (bce BK130.out 0).trans rfl, (bce BK130.out 1).trans rfl, (bce BK130.out 2).trans rfl, (bce BK130.out 3).trans rfl, (bce BK130.out 4).trans rfl, (bce BK130.out 5).trans rfl, ((HB.out.cell (World.block_lt_of_cell? w _ hw140_0)).trans hw140_0), ((HB.out.cell (World.block_lt_of_cell? w _ hw140_1)).trans hw140_1), ((HB.out.cell (World.block_lt_of_cell? w _ hw140_2)).trans hw140_2)⟩ (fun hHeld => ?_); clear hK K; refine norm_ (a' := ?_) ?_ ?_; rotate_left
                              · show Act.put _ (some 32) _ = _; simp only [Act.put, List.setIfInBounds_toArray, List.set_cons_zero, List.set_cons_succ, i64_w, i32_w]; rfl
                              refine qp 3 33 ?_; refine qp 4 34 ?_; refine qp 5 35 ?_; refine qp 7 37 ?_; refine qt 6 36 ?_; refine qt 8 38 ?_; refine qp 9 39 ?_; refine qo 10 40 (fun K hK => ?_); refine goes_ Tryz.func15 (by kernel_rfl) rfl #[.int .i64 ((rd_T61 l0_0 x25_2).f2), .int .i64 0, .int .i64 (((rd_T61 l0_0 x25_2).f1).size : Int)] (by rfl) rfl rfl qA ?_; (with_reducible refine (spec_l1Between.calls ((rd_T61 l0_0 x25_2).f2) 0 (((rd_T61 l0_0 x25_2).f1).size : Int) true _ A19.out).mono ?_); rintro e w' ⟨rfl, ⟨nd, rfl⟩⟩; refine ⟨_, rfl, ?_⟩; refine hK.out _ _ ⟨(bce BK137.out 0).trans rfl, (bce BK137.out 1).trans rfl, (bce BK137.out 2).trans rfl, (bce BK130.out 0).trans rfl, (bce BK130.out 1).trans rfl, (bce BK130.out 2).trans rfl, (bce BK130.out 3).trans rfl, (bce BK130.out 4).trans rfl, (bce BK130.out 5).trans rfl, ((HB.out.cell (World.block_lt_of_cell? w _ hw140_0)).trans hw140_0), ((HB.out.cell (World.block_lt_of_cell? w _ hw140_1)).trans hw140_1), ((HB.out.cell (World.block_lt_of_cell? w _ hw140_2)).trans hw140_2)⟩ (fun hHeld => ?_); clear hK K; refine norm_ (a' := ?_) ?_ ?_; rotate_left
                              · show Act.put _ (some 40) _ = _; simp only [Act.put, List.setIfInBounds_toArray, List.set_cons_zero, List.set_cons_succ, i64_w, i32_w]; rfl
                              refine qp 11 41 ?_; refine qp 12 42 ?_; refine qp 13 43 ?_; refine qp 14 44 ?_; refine qp 15 45 ?_; refine qp 16 46 ?_; refine qp 17 47 ?_; refine qp 19 49 ?_; refine qp 20 50 ?_; refine qp 24 54 ?_; refine qt 18 48 ?_; refine qp 21 51 ?_; refine qp 22 52 ?_; refine qt 23 53 ?_; refine qt 25 55 ?_; refine qp 26 56 ?_; refine qp 27 57 ?_; refine qp 28 58 ?_; refine done_ (done_of HT_.out (by kernel_rfl)) ?_; (try go_wp2); go_ret; exact ⟨by first | rfl | (simp [eWn, eWs] <;> rfl) | (simp only [← hji22]; first | rfl | (simp [eWn, eWs] <;> rfl)) | (simp [*, eWn, eWs] <;> rfl), qB⟩
                          · rw [if_neg c24] at H; exact absurd H (by simp)
                        · rw [if_neg c23] at H; exact absurd H (by simp)
                      · rw [if_neg c21] at H; have c21b0 : decide (0 < x25_2) = false := decide_eq_false c21; clear c21; have H' := qK H; clear H; have p136 : 0 ≤ (x25_2 : Int) := of_decide_eq_true qa; have q136 : x25_2 < (l0_0.length : Int) := of_decide_eq_true qa; obtain ⟨ad136, e136, hx136_0, hx136_1, hx136_2⟩ := at_T61 HR0_0.out x25_2 p136 q136; cases e136; replace hx136_0 := (HB.out.cell (World.block_lt_of_cell? w _ hx136_0)).trans hx136_0; replace hx136_1 := (HB.out.cell (World.block_lt_of_cell? w _ hx136_1)).trans hx136_1; replace hx136_2 := (HB.out.cell (World.block_lt_of_cell? w _ hx136_2)).trans hx136_2; replace p136 := eq_true p136; replace q136 := eq_true q136; (try go_wp2_with (first | ((with_reducible refine gds (N := 4) rfl ?_); (try (refine gate_guard (by rfl) ?_; dsimp only)); refine qbx 4 #[.string (⟨#[]⟩ : ByteArray), .string (⟨#[]⟩ : ByteArray), .int .i64 0] 61 ?_; intro gb137 hg w36 hbox hb; have BK137 := qK (hbox); have GW137 := qK ((qW : w.heap.size ≤ gb137)); have GE137 := GW137; replace HB := qHB HB hb; have NB130_137 := qK (qlt BK130 hg); have NB137_130 := qK (qgt BK130 hg); replace BK130 := qbb BK130 hb; clear hb hbox hg; have hnb37 := NB137_130.out; have hnc37 := NB130_137.out; have hz38 := qz3 BK137.out))); have n0_ : Aside0 ((((w36.setCell ⟨gb137, 0, none⟩ (.string ((rd_T61 l0_0 x25_2).f0))).setCell ⟨gb137, 1, none⟩ (.string ((rd_T61 l0_0 x25_2).f1))).setCell ⟨gb137, 2, none⟩ (.int .i64 ((rd_T61 l0_0 x25_2).f2))).heap[gb130]? = some (.cells #[.slice (some ad136) l0_0.length c0_0, .int .i64 a0_1, .int .i64 a0_2, .int .i64 a0_3, .int .i64 a0_4, .bool a0_5] 30 (0, 0))) := ⟨by (with_reducible repeat (first | refine bdN ?_ _ | refine bkD ?_ | refine bkA ?_ _)); refine bfa ?_ NB130_137.out _; refine bfa ?_ NB130_137.out _; refine bfa ?_ NB130_137.out _; exact BK130.out⟩; have n1_ : Aside0 ((((w36.setCell ⟨gb137, 0, none⟩ (.string ((rd_T61 l0_0 x25_2).f0))).setCell ⟨gb137, 1, none⟩ (.string ((rd_T61 l0_0 x25_2).f1))).setCell ⟨gb137, 2, none⟩ (.int .i64 ((rd_T61 l0_0 x25_2).f2))).heap[gb137]? = some (.cells #[.string ((rd_T61 l0_0 x25_2).f0), .string ((rd_T61 l0_0 x25_2).f1), .int .i64 ((rd_T61 l0_0 x25_2).f2)] 61 (0, 0))) := ⟨by (with_reducible repeat (first | refine bdN ?_ _ | refine bkD ?_ | refine bkA ?_ _)); refine bpu (cs := #[.string ((rd_T61 l0_0 x25_2).f0), .string ((rd_T61 l0_0 x25_2).f1), .int .i64 0]) ?_ 2 _ rfl; refine bpu (cs := #[.string ((rd_T61 l0_0 x25_2).f0), .string (⟨#[]⟩ : ByteArray), .int .i64 0]) ?_ 1 _ rfl; refine bpu (cs := #[.string (⟨#[]⟩ : ByteArray), .string (⟨#[]⟩ : ByteArray), .int .i64 0]) ?_ 0 _ rfl; exact BK137.out⟩; have n2_ : Aside0 (Below w.heap.size w (((w36.setCell ⟨gb137, 0, none⟩ (.string ((rd_T61 l0_0 x25_2).f0))).setCell ⟨gb137, 1, none⟩ (.string ((rd_T61 l0_0 x25_2).f1))).setCell ⟨gb137, 2, none⟩ (.int .i64 ((rd_T61 l0_0 x25_2).f2)))) := ⟨qB⟩; (try clear BK130); (try clear BK137); (try clear HB); generalize (((w36.setCell ⟨gb137, 0, none⟩ (.string ((rd_T61 l0_0 x25_2).f0))).setCell ⟨gb137, 1, none⟩ (.string ((rd_T61 l0_0 x25_2).f1))).setCell ⟨gb137, 2, none⟩ (.int .i64 ((rd_T61 l0_0 x25_2).f2))) = w39 at n0_ n1_ n2_ ⊢; have BK130 := n0_; have BK137 := n1_; have HB := n2_; clear n0_ n1_ n2_; replace BK130 := qK (bkD BK130.out); replace BK137 := qK (bkD BK137.out); replace HB := qK (bd1 HB.out); refine qs 29 (fun w' => w'.cell? ⟨gb137, 0, none⟩ = some (.string ((rd_T61 l0_0 x25_2).f0)) ∧ w'.cell? ⟨gb137, 1, none⟩ = some (.string ((rd_T61 l0_0 x25_2).f1)) ∧ w'.cell? ⟨gb137, 2, none⟩ = some (.int .i64 ((rd_T61 l0_0 x25_2).f2))) (ds := []) (qy3 BK137.out) (fun hHeld => ?_); refine with_tabW spec_FsValid.tab6 spec_FsValid.bits6 (fun HT_ HW_ => ?_); generalize w39.drew = w40 at BK130 BK137 HB hHeld ⊢; refine qp 0 30 ?_; refine qt 1 31 ?_; refine qo 2 32 (fun K hK => ?_); refine goes_ Tryz.func32 (by kernel_rfl) rfl #[.string ((rd_T61 l0_0 x25_2).f0)] (by rfl) rfl rfl qA ?_; (with_reducible refine (spec_l6FileName.calls k2 ((rd_T61 l0_0 x25_2).f0) true _ A17.out).mono ?_); rintro e w' ⟨rfl, ⟨nd, rfl⟩⟩; refine ⟨_, rfl, ?_⟩; refine hK.out _ _ (qy3 BK137.out) (fun hHeld => ?_); clear hK K; refine norm_ (a' := ?_) ?_ ?_; rotate_left
                        · show Act.put _ (some 32) _ = _; simp only [Act.put, List.setIfInBounds_toArray, List.set_cons_zero, List.set_cons_succ, i64_w, i32_w]; rfl
                        refine qp 3 33 ?_; refine qp 4 34 ?_; refine qp 5 35 ?_; refine qp 7 37 ?_; refine qt 6 36 ?_; refine qt 8 38 ?_; refine qp 9 39 ?_; refine qo 10 40 (fun K hK => ?_); refine goes_ Tryz.func15 (by kernel_rfl) rfl #[.int .i64 ((rd_T61 l0_0 x25_2).f2), .int .i64 0, .int .i64 (((rd_T61 l0_0 x25_2).f1).size : Int)] (by rfl) rfl rfl qA ?_; (with_reducible refine (spec_l1Between.calls ((rd_T61 l0_0 x25_2).f2) 0 (((rd_T61 l0_0 x25_2).f1).size : Int) true _ A19.out).mono ?_); rintro e w' ⟨rfl, ⟨nd, rfl⟩⟩; refine ⟨_, rfl, ?_⟩; refine hK.out _ _ (qy3 BK137.out) (fun hHeld => ?_); clear hK K; refine norm_ (a' := ?_) ?_ ?_; rotate_left
                        · show Act.put _ (some 40) _ = _; simp only [Act.put, List.setIfInBounds_toArray, List.set_cons_zero, List.set_cons_succ, i64_w, i32_w]; rfl
                        refine qp 11 41 ?_; refine qp 12 42 ?_; refine qp 13 43 ?_; refine qp 14 44 ?_; refine qp 15 45 ?_; refine qp 16 46 ?_; refine qu 17 47 ?_; refine qu 18 48 ?_; refine qu 19 49 ?_; refine qu 20 50 ?_; refine qu 21 51 ?_; refine qu 22 52 ?_; refine qu 23 53 ?_; refine qu 24 54 ?_; refine qu 25 55 ?_; refine qu 26 56 ?_; refine qp 27 57 ?_; refine qp 28 58 ?_; refine done_ (done_of HT_.out (by kernel_rfl)) ?_; (try go_wp2); go_roundg k2
                        case measure => have := HJ1.out; have := HK2.out; omega
                        case rel => exact ⟨(wrap64 (x25_2 + 1)), qS, H', ⟨by have := HJ1.out; have := HK2.out; omega⟩, ⟨by (with_reducible repeat (first | refine bdN ?_ _ | refine bkD ?_ | refine bkA ?_ _)); exact BK130.out⟩, ⟨qB⟩⟩
                    · replace c20 := Bool.eq_false_iff.mpr c20; subst c20; rw [if_neg qff] at H; obtain rfl := Option.some.inj H; have p136 : 0 ≤ (x25_2 : Int) := of_decide_eq_true qa; have q136 : x25_2 < (l0_0.length : Int) := of_decide_eq_true qa; obtain ⟨ad136, e136, hx136_0, hx136_1, hx136_2⟩ := at_T61 HR0_0.out x25_2 p136 q136; cases e136; replace hx136_0 := (HB.out.cell (World.block_lt_of_cell? w _ hx136_0)).trans hx136_0; replace hx136_1 := (HB.out.cell (World.block_lt_of_cell? w _ hx136_1)).trans hx136_1; replace hx136_2 := (HB.out.cell (World.block_lt_of_cell? w _ hx136_2)).trans hx136_2; replace p136 := eq_true p136; replace q136 := eq_true q136; (try go_wp2_with (first | ((with_reducible refine gds (N := 4) rfl ?_); (try (refine gate_guard (by rfl) ?_; dsimp only)); refine qbx 4 #[.string (⟨#[]⟩ : ByteArray), .string (⟨#[]⟩ : ByteArray), .int .i64 0] 61 ?_; intro gb137 hg w41 hbox hb; have BK137 := qK (hbox); have GW137 := qK ((qW : w.heap.size ≤ gb137)); have GE137 := GW137; replace HB := qHB HB hb; have NB130_137 := qK (qlt BK130 hg); have NB137_130 := qK (qgt BK130 hg); replace BK130 := qbb BK130 hb; clear hb hbox hg; have hnb42 := NB137_130.out; have hnc42 := NB130_137.out; have hz43 := qz3 BK137.out))); have n0_ : Aside0 ((((w41.setCell ⟨gb137, 0, none⟩ (.string ((rd_T61 l0_0 x25_2).f0))).setCell ⟨gb137, 1, none⟩ (.string ((rd_T61 l0_0 x25_2).f1))).setCell ⟨gb137, 2, none⟩ (.int .i64 ((rd_T61 l0_0 x25_2).f2))).heap[gb130]? = some (.cells #[.slice (some ad136) l0_0.length c0_0, .int .i64 a0_1, .int .i64 a0_2, .int .i64 a0_3, .int .i64 a0_4, .bool a0_5] 30 (0, 0))) := ⟨by (with_reducible repeat (first | refine bdN ?_ _ | refine bkD ?_ | refine bkA ?_ _)); refine bfa ?_ NB130_137.out _; refine bfa ?_ NB130_137.out _; refine bfa ?_ NB130_137.out _; exact BK130.out⟩; have n1_ : Aside0 ((((w41.setCell ⟨gb137, 0, none⟩ (.string ((rd_T61 l0_0 x25_2).f0))).setCell ⟨gb137, 1, none⟩ (.string ((rd_T61 l0_0 x25_2).f1))).setCell ⟨gb137, 2, none⟩ (.int .i64 ((rd_T61 l0_0 x25_2).f2))).heap[gb137]? = some (.cells #[.string ((rd_T61 l0_0 x25_2).f0), .string ((rd_T61 l0_0 x25_2).f1), .int .i64 ((rd_T61 l0_0 x25_2).f2)] 61 (0, 0))) := ⟨by (with_reducible repeat (first | refine bdN ?_ _ | refine bkD ?_ | refine bkA ?_ _)); refine bpu (cs := #[.string ((rd_T61 l0_0 x25_2).f0), .string ((rd_T61 l0_0 x25_2).f1), .int .i64 0]) ?_ 2 _ rfl; refine bpu (cs := #[.string ((rd_T61 l0_0 x25_2).f0), .string (⟨#[]⟩ : ByteArray), .int .i64 0]) ?_ 1 _ rfl; refine bpu (cs := #[.string (⟨#[]⟩ : ByteArray), .string (⟨#[]⟩ : ByteArray), .int .i64 0]) ?_ 0 _ rfl; exact BK137.out⟩; have n2_ : Aside0 (Below w.heap.size w (((w41.setCell ⟨gb137, 0, none⟩ (.string ((rd_T61 l0_0 x25_2).f0))).setCell ⟨gb137, 1, none⟩ (.string ((rd_T61 l0_0 x25_2).f1))).setCell ⟨gb137, 2, none⟩ (.int .i64 ((rd_T61 l0_0 x25_2).f2)))) := ⟨qB⟩; (try clear BK130); (try clear BK137); (try clear HB); generalize (((w41.setCell ⟨gb137, 0, none⟩ (.string ((rd_T61 l0_0 x25_2).f0))).setCell ⟨gb137, 1, none⟩ (.string ((rd_T61 l0_0 x25_2).f1))).setCell ⟨gb137, 2, none⟩ (.int .i64 ((rd_T61 l0_0 x25_2).f2))) = w44 at n0_ n1_ n2_ ⊢; have BK130 := n0_; have BK137 := n1_; have HB := n2_; clear n0_ n1_ n2_; replace BK130 := qK (bkD BK130.out); replace BK137 := qK (bkD BK137.out); replace HB := qK (bd1 HB.out); refine qs 29 (fun w' => w'.cell? ⟨gb137, 0, none⟩ = some (.string ((rd_T61 l0_0 x25_2).f0)) ∧ w'.cell? ⟨gb137, 1, none⟩ = some (.string ((rd_T61 l0_0 x25_2).f1)) ∧ w'.cell? ⟨gb137, 2, none⟩ = some (.int .i64 ((rd_T61 l0_0 x25_2).f2))) (ds := []) (qy3 BK137.out) (fun hHeld => ?_); refine with_tabW spec_FsValid.tab6 spec_FsValid.bits6 (fun HT_ HW_ => ?_); generalize w44.drew = w45 at BK130 BK137 HB hHeld ⊢; refine qp 0 30 ?_; refine qt 1 31 ?_; refine qo 2 32 (fun K hK => ?_); refine goes_ Tryz.func32 (by kernel_rfl) rfl #[.string ((rd_T61 l0_0 x25_2).f0)] (by rfl) rfl rfl qA ?_; (with_reducible refine (spec_l6FileName.calls k2 ((rd_T61 l0_0 x25_2).f0) true _ A17.out).mono ?_); rintro e w' ⟨rfl, ⟨nd, rfl⟩⟩; refine ⟨_, rfl, ?_⟩; refine hK.out _ _ (qy3 BK137.out) (fun hHeld => ?_); clear hK K; refine norm_ (a' := ?_) ?_ ?_; rotate_left
                      · show Act.put _ (some 32) _ = _; simp only [Act.put, List.setIfInBounds_toArray, List.set_cons_zero, List.set_cons_succ, i64_w, i32_w]; rfl
                      refine qp 3 33 ?_; refine qp 4 34 ?_; refine qp 5 35 ?_; refine qp 7 37 ?_; refine qt 6 36 ?_; refine qt 8 38 ?_; refine qp 9 39 ?_; refine qo 10 40 (fun K hK => ?_); refine goes_ Tryz.func15 (by kernel_rfl) rfl #[.int .i64 ((rd_T61 l0_0 x25_2).f2), .int .i64 0, .int .i64 (((rd_T61 l0_0 x25_2).f1).size : Int)] (by rfl) rfl rfl qA ?_; (with_reducible refine (spec_l1Between.calls ((rd_T61 l0_0 x25_2).f2) 0 (((rd_T61 l0_0 x25_2).f1).size : Int) false _ A19.out).mono ?_); rintro e w' ⟨rfl, ⟨nd, rfl⟩⟩; refine ⟨_, rfl, ?_⟩; refine hK.out _ _ (qy3 BK137.out) (fun hHeld => ?_); clear hK K; refine norm_ (a' := ?_) ?_ ?_; rotate_left
                      · show Act.put _ (some 40) _ = _; simp only [Act.put, List.setIfInBounds_toArray, List.set_cons_zero, List.set_cons_succ, i64_w, i32_w]; rfl
                      refine qp 11 41 ?_; refine qp 12 42 ?_; refine qp 13 43 ?_; refine qu 14 44 ?_; refine qu 15 45 ?_; refine qu 16 46 ?_; refine qu 17 47 ?_; refine qu 18 48 ?_; refine qu 19 49 ?_; refine qu 20 50 ?_; refine qu 21 51 ?_; refine qu 22 52 ?_; refine qu 23 53 ?_; refine qu 24 54 ?_; refine qu 25 55 ?_; refine qu 26 56 ?_; refine qu 27 57 ?_; refine qp 28 58 ?_; refine done_ (done_of HT_.out (by kernel_rfl)) ?_; (try go_wp2); go_ret; exact ⟨qR, qB⟩
                  · replace c18 := Bool.eq_false_iff.mpr c18; subst c18; rw [if_neg qff] at H; obtain rfl := Option.some.inj H; have p136 : 0 ≤ (x25_2 : Int) := of_decide_eq_true qa; have q136 : x25_2 < (l0_0.length : Int) := of_decide_eq_true qa; obtain ⟨ad136, e136, hx136_0, hx136_1, hx136_2⟩ := at_T61 HR0_0.out x25_2 p136 q136; cases e136; replace hx136_0 := (HB.out.cell (World.block_lt_of_cell? w _ hx136_0)).trans hx136_0; replace hx136_1 := (HB.out.cell (World.block_lt_of_cell? w _ hx136_1)).trans hx136_1; replace hx136_2 := (HB.out.cell (World.block_lt_of_cell? w _ hx136_2)).trans hx136_2; replace p136 := eq_true p136; replace q136 := eq_true q136; (try go_wp2_with (first | ((with_reducible refine gds (N := 4) rfl ?_); (try (refine gate_guard (by rfl) ?_; dsimp only)); refine qbx 4 #[.string (⟨#[]⟩ : ByteArray), .string (⟨#[]⟩ : ByteArray), .int .i64 0] 61 ?_; intro gb137 hg w46 hbox hb; have BK137 := qK (hbox); have GW137 := qK ((qW : w.heap.size ≤ gb137)); have GE137 := GW137; replace HB := qHB HB hb; have NB130_137 := qK (qlt BK130 hg); have NB137_130 := qK (qgt BK130 hg); replace BK130 := qbb BK130 hb; clear hb hbox hg; have hnb47 := NB137_130.out; have hnc47 := NB130_137.out; have hz48 := qz3 BK137.out))); have n0_ : Aside0 ((((w46.setCell ⟨gb137, 0, none⟩ (.string ((rd_T61 l0_0 x25_2).f0))).setCell ⟨gb137, 1, none⟩ (.string ((rd_T61 l0_0 x25_2).f1))).setCell ⟨gb137, 2, none⟩ (.int .i64 ((rd_T61 l0_0 x25_2).f2))).heap[gb130]? = some (.cells #[.slice (some ad136) l0_0.length c0_0, .int .i64 a0_1, .int .i64 a0_2, .int .i64 a0_3, .int .i64 a0_4, .bool a0_5] 30 (0, 0))) := ⟨by (with_reducible repeat (first | refine bdN ?_ _ | refine bkD ?_ | refine bkA ?_ _)); refine bfa ?_ NB130_137.out _; refine bfa ?_ NB130_137.out _; refine bfa ?_ NB130_137.out _; exact BK130.out⟩; have n1_ : Aside0 ((((w46.setCell ⟨gb137, 0, none⟩ (.string ((rd_T61 l0_0 x25_2).f0))).setCell ⟨gb137, 1, none⟩ (.string ((rd_T61 l0_0 x25_2).f1))).setCell ⟨gb137, 2, none⟩ (.int .i64 ((rd_T61 l0_0 x25_2).f2))).heap[gb137]? = some (.cells #[.string ((rd_T61 l0_0 x25_2).f0), .string ((rd_T61 l0_0 x25_2).f1), .int .i64 ((rd_T61 l0_0 x25_2).f2)] 61 (0, 0))) := ⟨by (with_reducible repeat (first | refine bdN ?_ _ | refine bkD ?_ | refine bkA ?_ _)); refine bpu (cs := #[.string ((rd_T61 l0_0 x25_2).f0), .string ((rd_T61 l0_0 x25_2).f1), .int .i64 0]) ?_ 2 _ rfl; refine bpu (cs := #[.string ((rd_T61 l0_0 x25_2).f0), .string (⟨#[]⟩ : ByteArray), .int .i64 0]) ?_ 1 _ rfl; refine bpu (cs := #[.string (⟨#[]⟩ : ByteArray), .string (⟨#[]⟩ : ByteArray), .int .i64 0]) ?_ 0 _ rfl; exact BK137.out⟩; have n2_ : Aside0 (Below w.heap.size w (((w46.setCell ⟨gb137, 0, none⟩ (.string ((rd_T61 l0_0 x25_2).f0))).setCell ⟨gb137, 1, none⟩ (.string ((rd_T61 l0_0 x25_2).f1))).setCell ⟨gb137, 2, none⟩ (.int .i64 ((rd_T61 l0_0 x25_2).f2)))) := ⟨qB⟩; (try clear BK130); (try clear BK137); (try clear HB); generalize (((w46.setCell ⟨gb137, 0, none⟩ (.string ((rd_T61 l0_0 x25_2).f0))).setCell ⟨gb137, 1, none⟩ (.string ((rd_T61 l0_0 x25_2).f1))).setCell ⟨gb137, 2, none⟩ (.int .i64 ((rd_T61 l0_0 x25_2).f2))) = w49 at n0_ n1_ n2_ ⊢; have BK130 := n0_; have BK137 := n1_; have HB := n2_; clear n0_ n1_ n2_; replace BK130 := qK (bkD BK130.out); replace BK137 := qK (bkD BK137.out); replace HB := qK (bd1 HB.out); refine qs 29 (fun w' => w'.cell? ⟨gb137, 0, none⟩ = some (.string ((rd_T61 l0_0 x25_2).f0)) ∧ w'.cell? ⟨gb137, 1, none⟩ = some (.string ((rd_T61 l0_0 x25_2).f1)) ∧ w'.cell? ⟨gb137, 2, none⟩ = some (.int .i64 ((rd_T61 l0_0 x25_2).f2))) (ds := []) (qy3 BK137.out) (fun hHeld => ?_); refine with_tabW spec_FsValid.tab6 spec_FsValid.bits6 (fun HT_ HW_ => ?_); generalize w49.drew = w50 at BK130 BK137 HB hHeld ⊢; refine qp 0 30 ?_; refine qt 1 31 ?_; refine qo 2 32 (fun K hK => ?_); refine goes_ Tryz.func32 (by kernel_rfl) rfl #[.string ((rd_T61 l0_0 x25_2).f0)] (by rfl) rfl rfl qA ?_; (with_reducible refine (spec_l6FileName.calls k2 ((rd_T61 l0_0 x25_2).f0) false _ A17.out).mono ?_); rintro e w' ⟨rfl, ⟨nd, rfl⟩⟩; refine ⟨_, rfl, ?_⟩; refine hK.out _ _ (qy3 BK137.out) (fun hHeld => ?_); clear hK K; refine norm_ (a' := ?_) ?_ ?_; rotate_left
                    · show Act.put _ (some 32) _ = _; simp only [Act.put, List.setIfInBounds_toArray, List.set_cons_zero, List.set_cons_succ, i64_w, i32_w]; rfl
                    refine qp 3 33 ?_; refine qp 4 34 ?_; refine qu 5 35 ?_; refine qu 6 36 ?_; refine qu 7 37 ?_; refine qu 8 38 ?_; refine qu 9 39 ?_; refine qu 10 40 ?_; refine qu 11 41 ?_; refine qp 12 42 ?_; refine qp 13 43 ?_; refine qu 14 44 ?_; refine qu 15 45 ?_; refine qu 16 46 ?_; refine qu 17 47 ?_; refine qu 18 48 ?_; refine qu 19 49 ?_; refine qu 20 50 ?_; refine qu 21 51 ?_; refine qu 22 52 ?_; refine qu 23 53 ?_; refine qu 24 54 ?_; refine qu 25 55 ?_; refine qu 26 56 ?_; refine qu 27 57 ?_; refine qp 28 58 ?_; refine done_ (done_of HT_.out (by kernel_rfl)) ?_; (try go_wp2); go_ret; exact ⟨qR, qB⟩
                · rw [if_neg c16] at H; exact absurd H (by simp)
              · rw [if_neg c15] at H; exact absurd H (by simp)
            · rw [if_neg c14] at H; have c14b0 : decide (x25_2 < (l0_0.length : Int)) = false := decide_eq_false c14; clear c14; replace H := Option.bind_eq_some_iff.mp H; obtain ⟨t133, A510, H⟩ := H; have A51 := qK A510; clear A510; by_cases c52 : t133 = true
              · subst c52; rw [if_pos rfl] at H; replace H := Option.bind_eq_some_iff.mp H; obtain ⟨t134, A530, H⟩ := H; have A53 := qK A530; clear A530; by_cases c54 : t134 = true
                · subst c54; rw [if_pos rfl] at H; replace H := Option.bind_eq_some_iff.mp H; obtain ⟨t135, A550, H⟩ := H; have A55 := qK A550; clear A550; obtain rfl := Option.some.inj H; obtain ⟨hcz56_0, hcz56_1, hcz56_2, hcz56_3, hcz56_4, hcz56_5⟩ := zC6 BK130.out; obtain ⟨hfz56_0, hfz56_1, hfz56_2, hfz56_3, hfz56_4, hfz56_5⟩ := zF6 BK130.out; go_wp2_with (first | ((with_reducible refine gcl (f := 15) rfl ?_); refine goesL_ (some 62) rfl rfl Tryz.func15 (by kernel_rfl) rfl #[.int .i64 a0_2, .int .i64 0, .int .i64 1000000000000000] rfl qA ?_; (with_reducible refine (spec_l1Between.calls a0_2 0 1000000000000000 true _ A51.out).mono ?_); rintro e w' ⟨rfl, ⟨nd, rfl⟩⟩; refine ⟨_, rfl, ?_⟩) | (go_at_call 15; (with_reducible refine (spec_l1Between.calls a0_3 0 1000000000000000 true _ A53.out).mono ?_); rintro e w' ⟨rfl, ⟨nd, rfl⟩⟩) | (go_at_call 15; (with_reducible refine (spec_l1Between.calls a0_4 0 1000000000000000 t135 _ A55.out).mono ?_); rintro e w' ⟨rfl, ⟨nd, rfl⟩⟩)); go_ret; exact ⟨qR, qB⟩
                · replace c54 := Bool.eq_false_iff.mpr c54; subst c54; rw [if_neg qff] at H; obtain rfl := Option.some.inj H; obtain ⟨hcz57_0, hcz57_1, hcz57_2, hcz57_3, hcz57_4, hcz57_5⟩ := zC6 BK130.out; obtain ⟨hfz57_0, hfz57_1, hfz57_2, hfz57_3, hfz57_4, hfz57_5⟩ := zF6 BK130.out; go_wp2_with (first | ((with_reducible refine gcl (f := 15) rfl ?_); refine goesL_ (some 62) rfl rfl Tryz.func15 (by kernel_rfl) rfl #[.int .i64 a0_2, .int .i64 0, .int .i64 1000000000000000] rfl qA ?_; (with_reducible refine (spec_l1Between.calls a0_2 0 1000000000000000 true _ A51.out).mono ?_); rintro e w' ⟨rfl, ⟨nd, rfl⟩⟩; refine ⟨_, rfl, ?_⟩) | (go_at_call 15; (with_reducible refine (spec_l1Between.calls a0_3 0 1000000000000000 false _ A53.out).mono ?_); rintro e w' ⟨rfl, ⟨nd, rfl⟩⟩)); go_ret; exact ⟨qR, qB⟩
              · replace c52 := Bool.eq_false_iff.mpr c52; subst c52; rw [if_neg qff] at H; obtain rfl := Option.some.inj H; obtain ⟨hcz58_0, hcz58_1, hcz58_2, hcz58_3, hcz58_4, hcz58_5⟩ := zC6 BK130.out; obtain ⟨hfz58_0, hfz58_1, hfz58_2, hfz58_3, hfz58_4, hfz58_5⟩ := zF6 BK130.out; go_wp2_with (first | ((with_reducible refine gcl (f := 15) rfl ?_); refine goesL_ (some 62) rfl rfl Tryz.func15 (by kernel_rfl) rfl #[.int .i64 a0_2, .int .i64 0, .int .i64 1000000000000000] rfl qA ?_; (with_reducible refine (spec_l1Between.calls a0_2 0 1000000000000000 false _ A51.out).mono ?_); rintro e w' ⟨rfl, ⟨nd, rfl⟩⟩; refine ⟨_, rfl, ?_⟩)); go_ret; exact ⟨qR, qB⟩
end Go.Proofs.YtfknmohedlfmfaaGreatDoor.L
end
section
set_option linter.unusedVariables false
set_option linter.unusedSimpArgs false
namespace Go.Proofs.YtfknmohedlfmfaaGreatDoor.L
open Go.RowKit Go.Proofs.YtfknmohedlfmfaaGreatDoor Go.Proofs.YtfknmohedlfmfaaGreatDoorW.PrintWords Go.Proofs.YtfknmohedlfmfaaGreatDoorW.PrintLast Go.Proofs.YtfknmohedlfmfaaGreatDoorW.PrintMore
theorem drew_oneF (w : World) : ({ w with drawn := w.drawn + 1 } : World) = w.drewN 1 := rfl
theorem infoFs : (Tryz.prog.info? 30).map (·.size) = some 6 := by kernel_rfl
theorem heap_setRow_sameF {w : World} {g : Nat} {cs cs' : Array Value} {t : TypeId} {fr : Nat × Nat} (h : w.heap[g]? = some (.cells cs t fr)) : (w.setRow g cs').heap[g]? = some (.cells cs' t fr) := by
  simp [World.setRow, Array.getElem?_modify, h]
theorem below_setRowF {B g : Nat} {w w' : World} (h : Below B w w') (hg : B ≤ g) (c : Array Value) : Below B w (w'.setRow g c) := by
  refine ⟨h.os, h.tape, h.output, ?_, fun k hk => ?_⟩
  · simpa [World.setRow] using h.size
  · rw [← h.block k hk]
    simp only [World.setRow, Array.getElem?_modify]
    rw [if_neg (by omega)]
/-- The system's cells. -/
def sysRow (cnt cr fa : Int) (dn : Bool) (v : Value) (cap : Int) : Array Value := #[.int .i64 cnt, .int .i64 cr, .int .i64 fa, .bool dn, v, .int .i64 cap]
theorem sys_cells {w : World} {p : Nat} {cnt cr fa : Int} {dn : Bool} {v : Value} {cap : Int} {t : TypeId} (h : w.heap[p]? = some (.cells (sysRow cnt cr fa dn v cap) t (0, 0))) :
    w.cell? ⟨p, 0, none⟩ = some (.int .i64 cnt) ∧ w.cell? ⟨p, 1, none⟩ = some (.int .i64 cr) ∧ w.cell? ⟨p, 2, none⟩ = some (.int .i64 fa) ∧ w.cell? ⟨p, 3, none⟩ = some (.bool dn) ∧ w.cell? ⟨p, 4, none⟩ = some v ∧ w.cell? ⟨p, 5, none⟩ = some (.int .i64 cap) :=
  ⟨(bce h 0).trans rfl, (bce h 1).trans rfl, (bce h 2).trans rfl, (bce h 3).trans rfl, (bce h 4).trans rfl, (bce h 5).trans rfl⟩
set_option maxHeartbeats 4000000 in
set_option maxRecDepth 100000 in
theorem systemOf_any (A : Option Addr) (c : Nat) (l : List (S61)) (cap cnt cr fa : Int) (dn : Bool) (w : World)
    (hr : Kd.C k61 w A l.length l) (hc : l.length ≤ c) (hl : l.length ≤ 2000000) :
    Calls Tryz.prog 35 #[.agg #[.slice A l.length c, .int .i64 cap, .int .i64 cnt, .int .i64 cr, .int .i64 fa, .bool dn]] w fun e w' =>
      ∃ (p : Nat) (v : Value), e = .returned (.pointer (some ⟨p, 0, none⟩)) ∧ w.heap.size ≤ p ∧ w'.heap[p]? = some (.cells (sysRow cnt cr fa dn v cap) 76 (0, 0)) ∧
        Kd.R k61 61 w' w.heap.size (fun k => k ≠ p) v l ∧ Below w.heap.size w w' := by
  have HR := Aside0.mk hr
  have HC := Aside0.mk hc
  clear hr hc
  go_enter Tryz.func35, Tryz.ntmps35
  go_upto_region 1 with (first | ((with_reducible refine gds (N := 1) rfl ?_); refine bxe ?hg (N := 1) ?hd (cs := #[.slice A l.length c, .int .i64 cap, .int .i64 cnt, .int .i64 cr, .int .i64 fa, .bool dn]) (t := 30) ?hr ?_; (case hd => rfl); (case hg => rfl); (case hr => first | (go_simp; done) | (go_simp; rfl)); intro gb hg w5 hbox hb; have HB := Aside0.mk hb; have HX := Aside0.mk hbox; clear hb hbox hg))
  have SF : ∀ W : World, W.heap[gb]? = some (.cells #[.slice A l.length c, .int .i64 cap, .int .i64 cnt, .int .i64 cr, .int .i64 fa, .bool dn] 30 (0, 0)) → W.cell? ⟨gb, 0, none⟩ = some (.slice A l.length c) ∧ W.cell? ⟨gb, 1, none⟩ = some (.int .i64 cap) ∧ W.cell? ⟨gb, 2, none⟩ = some (.int .i64 cnt) ∧ W.cell? ⟨gb, 3, none⟩ = some (.int .i64 cr) ∧ W.cell? ⟨gb, 4, none⟩ = some (.int .i64 fa) ∧ W.cell? ⟨gb, 5, none⟩ = some (.bool dn) :=
    fun W h => ⟨(bce h 0).trans rfl, (bce h 1).trans rfl, (bce h 2).trans rfl, (bce h 3).trans rfl, (bce h 4).trans rfl, (bce h 5).trans rfl⟩
  have HSF := Aside0.mk SF
  clear SF
  refine start_ (n := 18) (S := (fun w' => w'.cell? ⟨gb, 0, none⟩ = some (.slice A l.length c) ∧ w'.cell? ⟨gb, 1, none⟩ = some (.int .i64 cap) ∧ w'.cell? ⟨gb, 2, none⟩ = some (.int .i64 cnt) ∧ w'.cell? ⟨gb, 3, none⟩ = some (.int .i64 cr) ∧ w'.cell? ⟨gb, 4, none⟩ = some (.int .i64 fa) ∧ w'.cell? ⟨gb, 5, none⟩ = some (.bool dn))) (ds := []) #[false, false, false, false, false, false, false, false, false, false, false, false, false, false, false, false, false, false] (by kernel_rfl) rfl rfl (HSF.out _ HX.out) (fun hHeld => ?_)
  refine pure_ (i := 0) (N := some 3) (v := ?_) (a' := ?_) #[true, false, false, false, false, false, false, false, false, false, false, false, false, false, false, false, false, false] rfl rfl (by kernel_rfl) (fun _ _ _ h => h) (Or.inl ⟨by rfl, ?_⟩) ?_ ?_
  rotate_left
  · intro w'
    go_simp
    with_reducible rfl
  rotate_left
  · simp only [Act.put, List.setIfInBounds_toArray, List.set_cons_zero, List.set_cons_succ, i64_w, i32_w]
    rfl
  refine take_ (i := 1) (N := some 4) (v := ?_) (a' := ?_) #[true, true, false, false, false, false, false, false, false, false, false, false, false, false, false, false, false, false] rfl rfl (by kernel_rfl) (fun _ _ _ h => h) (Or.inl ⟨by rfl, ?_⟩) hHeld ?_ ?_
  rotate_left
  · rintro w' ⟨s0,s1,s2,s3,s4,s5⟩
    go_simp
    with_reducible rfl
  rotate_left
  · simp only [Act.put, List.setIfInBounds_toArray, List.set_cons_zero, List.set_cons_succ, i64_w, i32_w]
    rfl
  refine pure_ (i := 2) (N := some 5) (v := ?_) (a' := ?_) #[true, true, true, false, false, false, false, false, false, false, false, false, false, false, false, false, false, false] rfl rfl (by kernel_rfl) (fun _ _ _ h => h) (Or.inl ⟨by rfl, ?_⟩) ?_ ?_
  rotate_left
  · intro w'
    go_simp
    with_reducible rfl
  rotate_left
  · simp only [Act.put, List.setIfInBounds_toArray, List.set_cons_zero, List.set_cons_succ, i64_w, i32_w]
    rfl
  refine take_ (i := 3) (N := some 6) (v := ?_) (a' := ?_) #[true, true, true, true, false, false, false, false, false, false, false, false, false, false, false, false, false, false] rfl rfl (by kernel_rfl) (fun _ _ _ h => h) (Or.inl ⟨by rfl, ?_⟩) hHeld ?_ ?_
  rotate_left
  · rintro w' ⟨s0,s1,s2,s3,s4,s5⟩
    go_simp
    with_reducible rfl
  rotate_left
  · simp only [Act.put, List.setIfInBounds_toArray, List.set_cons_zero, List.set_cons_succ, i64_w, i32_w]
    rfl
  refine pure_ (i := 4) (N := some 7) (v := ?_) (a' := ?_) #[true, true, true, true, true, false, false, false, false, false, false, false, false, false, false, false, false, false] rfl rfl (by kernel_rfl) (fun _ _ _ h => h) (Or.inl ⟨by rfl, ?_⟩) ?_ ?_
  rotate_left
  · intro w'
    go_simp
    with_reducible rfl
  rotate_left
  · simp only [Act.put, List.setIfInBounds_toArray, List.set_cons_zero, List.set_cons_succ, i64_w, i32_w]
    rfl
  refine take_ (i := 5) (N := some 8) (v := ?_) (a' := ?_) #[true, true, true, true, true, true, false, false, false, false, false, false, false, false, false, false, false, false] rfl rfl (by kernel_rfl) (fun _ _ _ h => h) (Or.inl ⟨by rfl, ?_⟩) hHeld ?_ ?_
  rotate_left
  · rintro w' ⟨s0,s1,s2,s3,s4,s5⟩
    go_simp
    with_reducible rfl
  rotate_left
  · simp only [Act.put, List.setIfInBounds_toArray, List.set_cons_zero, List.set_cons_succ, i64_w, i32_w]
    rfl
  refine pure_ (i := 6) (N := some 9) (v := ?_) (a' := ?_) #[true, true, true, true, true, true, true, false, false, false, false, false, false, false, false, false, false, false] rfl rfl (by kernel_rfl) (fun _ _ _ h => h) (Or.inl ⟨by rfl, ?_⟩) ?_ ?_
  rotate_left
  · intro w'
    go_simp
    with_reducible rfl
  rotate_left
  · simp only [Act.put, List.setIfInBounds_toArray, List.set_cons_zero, List.set_cons_succ, i64_w, i32_w]
    rfl
  refine take_ (i := 7) (N := some 10) (v := ?_) (a' := ?_) #[true, true, true, true, true, true, true, true, false, false, false, false, false, false, false, false, false, false] rfl rfl (by kernel_rfl) (fun _ _ _ h => h) (Or.inl ⟨by rfl, ?_⟩) hHeld ?_ ?_
  rotate_left
  · rintro w' ⟨s0,s1,s2,s3,s4,s5⟩
    go_simp
    with_reducible rfl
  rotate_left
  · simp only [Act.put, List.setIfInBounds_toArray, List.set_cons_zero, List.set_cons_succ, i64_w, i32_w]
    rfl
  refine pure_ (i := 8) (N := some 11) (v := ?_) (a' := ?_) #[true, true, true, true, true, true, true, true, true, false, false, false, false, false, false, false, false, false] rfl rfl (by kernel_rfl) (fun _ _ _ h => h) (Or.inl ⟨by rfl, ?_⟩) ?_ ?_
  rotate_left
  · intro w'
    go_simp
    with_reducible rfl
  rotate_left
  · simp only [Act.put, List.setIfInBounds_toArray, List.set_cons_zero, List.set_cons_succ, i64_w, i32_w]
    rfl
  refine pure_ (i := 10) (N := some 13) (v := ?_) (a' := ?_) #[true, true, true, true, true, true, true, true, true, false, true, false, false, false, false, false, false, false] rfl rfl (by kernel_rfl) (fun _ _ _ h => h) (Or.inl ⟨by rfl, ?_⟩) ?_ ?_
  rotate_left
  · intro w'
    go_simp
    with_reducible rfl
  rotate_left
  · simp only [Act.put, List.setIfInBounds_toArray, List.set_cons_zero, List.set_cons_succ, i64_w, i32_w]
    rfl
  refine take_ (i := 11) (N := some 14) (v := ?_) (a' := ?_) #[true, true, true, true, true, true, true, true, true, false, true, true, false, false, false, false, false, false] rfl rfl (by kernel_rfl) (fun _ _ _ h => h) (Or.inl ⟨by rfl, ?_⟩) hHeld ?_ ?_
  rotate_left
  · rintro w' ⟨s0,s1,s2,s3,s4,s5⟩
    go_simp
    with_reducible rfl
  rotate_left
  · simp only [Act.put, List.setIfInBounds_toArray, List.set_cons_zero, List.set_cons_succ, i64_w, i32_w]
    rfl
  refine pure_ (i := 13) (N := some 16) (v := ?_) (a' := ?_) #[true, true, true, true, true, true, true, true, true, false, true, true, false, true, false, false, false, false] rfl rfl (by kernel_rfl) (fun _ _ _ h => h) (Or.inl ⟨by rfl, ?_⟩) ?_ ?_
  rotate_left
  · intro w'
    go_simp
    with_reducible rfl
  rotate_left
  · simp only [Act.put, List.setIfInBounds_toArray, List.set_cons_zero, List.set_cons_succ, i64_w, i32_w]
    rfl
  refine take_ (i := 14) (N := some 17) (v := ?_) (a' := ?_) #[true, true, true, true, true, true, true, true, true, false, true, true, false, true, true, false, false, false] rfl rfl (by kernel_rfl) (fun _ _ _ h => h) (Or.inl ⟨by rfl, ?_⟩) hHeld ?_ ?_
  rotate_left
  · rintro w' ⟨s0,s1,s2,s3,s4,s5⟩
    go_simp
    with_reducible rfl
  rotate_left
  · simp only [Act.put, List.setIfInBounds_toArray, List.set_cons_zero, List.set_cons_succ, i64_w, i32_w]
    rfl
  refine one_ (i := 9) (N := some 12) #[true, true, true, true, true, true, true, true, true, true, true, true, false, true, true, false, false, false] rfl rfl (by kernel_rfl) (by decide) (fun K hK => ?_)
  refine Kd.R_lit_step k61 (w0 := w) w.heap.size 61 ?hg (N := 12) ?hd (xs := ([] : List (S61))) (inner := []) (ok := fun _ => True) (okp := fun _ => True) ?hr ?hp (fun _ hk => hk) trivial ?hb ?hz (by simp) ?_; (case hd => rfl); (case hg => rfl); (case hr => first | (go_simp; done) | (go_simp; rfl)); (case hp => exact (Reps.none _ _)); (case hb => exact bd1 HB.out); (case hz => exact HB.out.size)
  intro v1 w6 ho1 hb1 hg1 hn1
  have HX6 := Aside0.mk (bgr (bkD HX.out) hg1 (by simp))
  have HO1 := Aside0.mk ho1
  have HB6 := Aside0.mk hb1
  clear ho1 hb1 hg1 hn1
  refine hK.out _ _ (HSF.out _ HX6.out) (fun hHeld => ?_)
  clear hK K
  refine norm_ (a' := ?_) ?_ ?_
  rotate_left
  · show Act.put _ (some 12) _ = _
    simp only [Act.put, List.setIfInBounds_toArray, List.set_cons_zero, List.set_cons_succ, i64_w, i32_w]
    rfl
  refine one_ (i := 12) (N := some 15) #[true, true, true, true, true, true, true, true, true, true, true, true, true, true, true, false, false, false] rfl rfl (by kernel_rfl) (by decide) (fun K hK => ?_)
  refine Kd.Rars k61 (w0 := w) w.heap.size (by rfl) (.tmp 12) (.tmp 14) 28 61 (.agg #[(.string ⟨#[]⟩), (.string ⟨#[]⟩), (.int .i64 0)]) 40 rfl Tryz.underlying28 info61 rfl (by decide) (by omega) v1 [] l _ _ _ (fun _ => True) (fun _ => False) rfl rfl ?aO ?aR (fun _ _ h => h) (fun _ h => h.elim) ?aF ?aB ?aS ?aL ?_
  (case aR => exact Kd.Cbe HR.out HB6.out)
  (case aB => exact HB6.out)
  (case aF => exact (fun _ _ => trivial))
  (case aO => exact HO1.out)
  (case aS => exact HB6.out.size)
  (case aL => show (0 + l.length) * 40 ≤ _; omega)
  intro v2 w7 ho2 hb2 hg2 hat2
  have HX7 := Aside0.mk (bgr HX6.out hg2 (Kd.R_ne HO1.out HX6.out (by decide)))
  have HO2 := Aside0.mk ho2
  have HB7 := Aside0.mk hb2
  clear ho2 hb2 hg2 hat2
  obtain ⟨A2, c2, rfl⟩ := Kd.R_slice HO2.out
  refine hK.out _ _ (HSF.out _ HX7.out) (fun hHeld => ?_)
  clear hK K
  refine norm_ (a' := ?_) ?_ ?_
  rotate_left
  · show Act.put _ (some 15) _ = _
    simp only [Act.put, List.setIfInBounds_toArray, List.set_cons_zero, List.set_cons_succ, i64_w, i32_w]
    rfl
  refine pure_ (i := 15) (N := some 18) (v := ?_) (a' := ?_) #[true, true, true, true, true, true, true, true, true, true, true, true, true, true, true, true, false, false] rfl rfl (by kernel_rfl) (fun _ _ _ h => h) (Or.inl ⟨by rfl, ?_⟩) ?_ ?_
  rotate_left
  · intro w'
    go_simp
    with_reducible rfl
  rotate_left
  · simp only [Act.put, List.setIfInBounds_toArray, List.set_cons_zero, List.set_cons_succ, i64_w, i32_w]
    rfl
  refine one_ (i := 16) (N := some 19) #[true, true, true, true, true, true, true, true, true, true, true, true, true, true, true, true, true, false] rfl rfl (by kernel_rfl) (by decide) (fun K hK => ?_)
  refine bxs ?hg (N := 19) ?hd (cs := sysRow cnt cr fa dn (.slice A2 ([] ++ l).length c2) cap) (t := 76) ?hr ?_; (case hd => rfl); (case hg => rfl); (case hr => first | (go_simp; done) | (go_simp; rfl))
  intro p hp w8 hbox8 hb8
  have HX8 := Aside0.mk (bbe HX7.out hb8)
  have HP := Aside0.mk hp
  have HS := Aside0.mk hbox8
  have HO3 := Aside0.mk (Kd.Rbe (Kd.Rmo (Kd.R_bound HO2.out) (fun k hk => (by rw [hp]; exact Nat.ne_of_lt hk.2.2.1 : k ≠ p))) hb8)
  have HB8 := Aside0.mk (bst HB7.out hb8)
  clear hp hbox8 hb8
  refine hK.out _ _ (HSF.out _ HX8.out) (fun hHeld => ?_)
  clear hK K
  refine norm_ (a' := ?_) ?_ ?_
  rotate_left
  · show Act.put _ (some 19) _ = _
    simp only [Act.put, List.setIfInBounds_toArray, List.set_cons_zero, List.set_cons_succ, i64_w, i32_w]
    rfl
  refine pure_ (i := 17) (N := some 2) (v := ?_) (a' := ?_) #[true, true, true, true, true, true, true, true, true, true, true, true, true, true, true, true, true, true] rfl rfl (by kernel_rfl) (fun _ _ _ h => h) (Or.inl ⟨by rfl, ?_⟩) ?_ ?_
  rotate_left
  · intro w'
    go_simp
    with_reducible rfl
  rotate_left
  · simp only [Act.put, List.setIfInBounds_toArray, List.set_cons_zero, List.set_cons_succ, i64_w, i32_w]
    rfl
  refine done_ (by kernel_rfl) ?_
  go_wp2
  go_ret
  refine ⟨p, _, rfl, ?_, HS.out, ?_, HB8.out⟩
  · rw [HP.out]; exact HB7.out.size
  · have h := HO3.out
    rw [List.nil_append] at h
    exact h
set_option maxHeartbeats 4000000 in
set_option maxRecDepth 100000 in
theorem fs_any (p : Nat) (A : Option Addr) (n c : Nat) (cap cnt cr fa : Int) (dn : Bool) (w : World) (hS : w.heap[p]? = some (.cells (sysRow cnt cr fa dn (.slice A n c) cap) 76 (0, 0))) :
    Calls Tryz.prog 36 #[.pointer (some ⟨p, 0, none⟩)] w fun e w' => e = .returned (.agg #[.slice A n c, .int .i64 cap, .int .i64 cnt, .int .i64 cr, .int .i64 fa, .bool dn]) ∧ Below w.heap.size w w' := by
  have HS := Aside0.mk hS
  clear hS
  go_enter Tryz.func36, Tryz.ntmps36
  go_upto_region 1 with (first | ((with_reducible refine gds (N := 2) rfl ?_); refine bxe ?hg (N := 2) ?hd (cs := #[.slice none 0 0, .int .i64 0, .int .i64 0, .int .i64 0, .int .i64 0, .bool false]) (t := 30) ?hr ?_; (case hd => rfl); (case hg => rfl); (case hr => first | (go_simp; done) | (go_simp; rfl)); intro gb hg w5 hbox hb; have HX := Aside0.mk hbox; have HN := Aside0.mk (And.intro hg (Nat.ne_of_lt (hg ▸ blt HS.out : p < gb))); have HB := Aside0.mk hb; clear hbox hb hg))
  obtain ⟨h0, h1, h2, h3, h4, h5⟩ := sys_cells (bdN (bbe HS.out HB.out) 1)
  have hf := fun i => bfz (bdN HX.out 1) i
  refine wp_region_still_tail 29 (by kernel_rfl) (by kernel_rfl) ?_
  rw [drew_oneF]
  simp only [List.take_succ_cons, List.take_zero, List.drop_succ_cons, List.drop_zero]
  repeat still_step
  try refine wpStill_nil ?_
  refine wpList_store_row rfl 30 (.tmp 2) (.tmp 31) rfl gb #[.slice A n c, .int .i64 cap, .int .i64 cnt, .int .i64 cr, .int .i64 fa, .bool dn] ?hx ?hy 30 #[.slice none 0 0, .int .i64 0, .int .i64 0, .int .i64 0, .int .i64 0, .bool false] ?hg ?hi ?ho ?h1 ?_; (case hx => rfl); (case hy => rfl); (case hg => exact HX.out); (case hi => exact infoFs); (case ho => rfl); (case h1 => simp [Value.oneCell'])
  go_wp2
  refine bodyPost_ret (v := .agg #[.slice A n c, .int .i64 cap, .int .i64 cnt, .int .i64 cr, .int .i64 fa, .bool dn]) (results_cell_row rfl _ _ gb 30 #[.slice A n c, .int .i64 cap, .int .i64 cnt, .int .i64 cr, .int .i64 fa, .bool dn] (0, 0) _ rfl (heap_setRow_sameF (bdN HX.out 1)) Tryz.underlying30 rfl infoFs) rfl ⟨rfl, ?_⟩
  exact below_setRowF (pbd HB.out 1) (by rw [HN.out.1]; exact Nat.le_refl _) _
set_option maxHeartbeats 4000000 in
set_option maxRecDepth 100000 in
theorem sync_any (g o : Nat) (d : ByteArray) (s : Int) (w : World) (h1 : w.cell? ⟨g, o + 1, none⟩ = some (.string d)) (h2 : w.cell? ⟨g, o + 2, none⟩ = some (.int .i64 s)) (hf : w.frozen? ⟨g, o + 2, none⟩ = false) :
    Calls Tryz.prog 60 #[.pointer (some ⟨g, o, none⟩)] w fun e w' => e = .returned (.tuple #[]) ∧ ∃ m, w' = (w.setCell ⟨g, o + 2, none⟩ (.int .i64 d.size)).drewN m := by
  go_enter Tryz.func60, Tryz.ntmps60
  go_wp2
  exact bodyPost_end (results_none rfl _ _ _) rfl ⟨rfl, 0, rfl⟩
end Go.Proofs.YtfknmohedlfmfaaGreatDoor.L
end
section
set_option linter.unusedVariables false
set_option linter.unusedSimpArgs false
namespace Go.Proofs.YtfknmohedlfmfaaGreatDoor.L
open Go.RowKit Go.Proofs.YtfknmohedlfmfaaGreatDoor Go.Proofs.YtfknmohedlfmfaaGreatDoorW.PrintWords Go.Proofs.YtfknmohedlfmfaaGreatDoorW.PrintLast Go.Proofs.YtfknmohedlfmfaaGreatDoorW.PrintMore
theorem elemF {base : Nat} {ok : Nat → Prop} {W : World} {g n c : Nat} {xs : List (S61)} (HO : Kd.R k61 61 W base ok (.slice (some ⟨g, 0, none⟩) n c) xs) (i : Nat) (hi : i < n) :
    W.cell? ⟨g, i * 3, none⟩ = some (.string (xs.getD i z61).f0) ∧ W.cell? ⟨g, i * 3 + 1, none⟩ = some (.string (xs.getD i z61).f1) ∧ W.cell? ⟨g, i * 3 + 2, none⟩ = some (.int .i64 (xs.getD i z61).f2) ∧ ∀ j, W.frozen? ⟨g, i * 3 + j, none⟩ = false := by
  obtain ⟨cs, hcl, hM, hcc, hfz⟩ := Kd.R_elem HO z61 (i : Int) (by omega) (by omega)
  obtain rfl := k61_openM hM
  exact ⟨hcc 0 _ rfl, hcc 1 _ rfl, hcc 2 _ rfl, hfz⟩
theorem putF1 {base : Nat} {ok : Nat → Prop} {W : World} {g n c : Nat} {xs : List (S61)} (HO : Kd.R k61 61 W base ok (.slice (some ⟨g, 0, none⟩) n c) xs) (i : Nat) (hi : i < n) (d : ByteArray) :
    Kd.R k61 61 (W.setCell ⟨g, i * 3 + 1, none⟩ (.string d)) base ok (.slice (some ⟨g, 0, none⟩) n c) (xs.set i ⟨(xs.getD i z61).f0, d, (xs.getD i z61).f2⟩) ∧ W.grownBy (W.setCell ⟨g, i * 3 + 1, none⟩ (.string d)) (some g) := by
  obtain ⟨cs, hcl, hM, hcc, hfz⟩ := Kd.R_elem HO z61 (i : Int) (by omega) (by omega)
  obtain rfl := k61_openM hM
  exact Kd.R_seg (seg := [.string d]) (j := 1) HO (i : Int) (by omega) (by omega) hcl hcc (by show 1 + 1 ≤ 3; omega) (x' := ⟨(xs.getD i z61).f0, d, (xs.getD i z61).f2⟩) (okp := fun _ => False) (k61_mkM _ _ _ _) (fun _ h => h.elim)
theorem putF2 {base : Nat} {ok : Nat → Prop} {W : World} {g n c : Nat} {xs : List (S61)} (HO : Kd.R k61 61 W base ok (.slice (some ⟨g, 0, none⟩) n c) xs) (i : Nat) (hi : i < n) (s : Int) :
    Kd.R k61 61 (W.setCell ⟨g, i * 3 + 2, none⟩ (.int .i64 s)) base ok (.slice (some ⟨g, 0, none⟩) n c) (xs.set i ⟨(xs.getD i z61).f0, (xs.getD i z61).f1, s⟩) ∧ W.grownBy (W.setCell ⟨g, i * 3 + 2, none⟩ (.int .i64 s)) (some g) := by
  obtain ⟨cs, hcl, hM, hcc, hfz⟩ := Kd.R_elem HO z61 (i : Int) (by omega) (by omega)
  obtain rfl := k61_openM hM
  exact Kd.R_seg (seg := [.int .i64 s]) (j := 2) HO (i : Int) (by omega) (by omega) hcl hcc (by show 2 + 1 ≤ 3; omega) (x' := ⟨(xs.getD i z61).f0, (xs.getD i z61).f1, s⟩) (okp := fun _ => False) (k61_mkM _ _ _ _) (fun _ h => h.elim)
theorem exec_store_run {P : Program} {o : Oper} {a : Act} {w : World} (ty : TypeId) (x y : Operand) (ho : o.op = .store ty x y) (g off : Nat) (u : Value) (seg : List Value)
    (hx : a.eval x = .pointer (some ⟨g, off, none⟩)) (hy : a.eval y = u) (hu : u.cells.toList = seg) {cur : Array Value} {e : TypeId} (hh : w.heap[g]? = some (.cells cur e (0, 0))) (ht : (P.info? ty).map (·.size) = some seg.length)
    (hfit : off + seg.length ≤ cur.size) (h1 : ∀ q ∈ seg, q.oneCell' = true) : (execOp a.eval o).run P w = .ok .skip (w.setCells g off seg) := by
  unfold execOp
  simp only [ho, hx, hy, Sem.run_bind, Sem.run_pure, Result.andThen_ok, run_store_run ty u seg hh hu ht hfit h1]
end Go.Proofs.YtfknmohedlfmfaaGreatDoor.L
end
section
set_option linter.unusedVariables false
set_option linter.unusedSimpArgs false
namespace Go.Proofs.YtfknmohedlfmfaaGreatDoor.L
open Go Go.RowKit Go.Proofs.YtfknmohedlfmfaaGreatDoor Go.Proofs.YtfknmohedlfmfaaGreatDoorW.PrintWords Go.Proofs.YtfknmohedlfmfaaGreatDoorW.PrintLast Go.Proofs.YtfknmohedlfmfaaGreatDoorW.PrintMore
attribute [local go_sem] max2_int min2_int max_two min_two max_three min_three max_four min_four
abbrev FileT := S61
abbrev FileK := k61
/-- The meter behind one more operation: the code, the count, down. -/
def tickR (cnt cr fa : Int) (dn : Bool) : Int × Int × Bool :=
  if dn = true then (11, cnt, dn) else if cnt = 1000000000000000 then (12, cnt, dn) else if cr ≠ 0 ∧ cnt + 1 = cr then (11, cnt + 1, true) else if fa ≠ 0 ∧ cnt + 1 = fa then (12, cnt + 1, dn) else (0, cnt + 1, dn)
/-- The system's block, its row of files; the blocks that were there by w stand. -/
def SySt (w : World) (p : Nat) (v : Value) (cnt cr fa : Int) (dn : Bool) (cap : Int) (W : World) (l : List FileT) : Prop :=
  W.heap[p]? = some (.cells (sysRow cnt cr fa dn v cap) 76 (0, 0)) ∧ w.heap.size ≤ p ∧ FileK.R 61 W w.heap.size (fun k => k ≠ p) v l ∧ Below w.heap.size w W
section
variable {w : World} {p : Nat} {v : Value} {cnt cr fa : Int} {dn : Bool} {cap : Int} {W : World} {l : List FileT}
theorem SySt.drew (h : SySt w p v cnt cr fa dn cap W l) (m : Nat) : SySt w p v cnt cr fa dn cap (W.drewN m) l :=
  ⟨bdN h.1 m, h.2.1, Kd.RdN h.2.2.1 m, pbd h.2.2.2 m⟩
theorem SySt.drew1 (h : SySt w p v cnt cr fa dn cap W l) : SySt w p v cnt cr fa dn cap W.drew l := h.drew 1
theorem SySt.row (h : SySt w p v cnt cr fa dn cap W l) (j : Nat) (u : Value) : FileK.R 61 (W.setCell ⟨p, j, none⟩ u) w.heap.size (fun k => k ≠ p) v l :=
  Kd.R_step h.2.2.1 fun k hk _ => Below.heap_setCell W ⟨p, j, none⟩ u k hk
theorem SySt.setCnt (h : SySt w p v cnt cr fa dn cap W l) (x : Int) : SySt w p v x cr fa dn cap (W.setCell ⟨p, 0, none⟩ (.int .i64 x)) l :=
  ⟨by simpa [sysRow] using blk_set h.1 0 (.int .i64 x), h.2.1, h.row 0 _, bse h.2.2.2 h.2.1⟩
theorem SySt.setDn (h : SySt w p v cnt cr fa dn cap W l) (x : Bool) : SySt w p v cnt cr fa x cap (W.setCell ⟨p, 3, none⟩ (.bool x)) l :=
  ⟨by simpa [sysRow] using blk_set h.1 3 (.bool x), h.2.1, h.row 3 _, bse h.2.2.2 h.2.1⟩
theorem SySt.cells (h : SySt w p v cnt cr fa dn cap W l) : (W.cell? ⟨p, 0, none⟩ = some (.int .i64 cnt) ∧ W.cell? ⟨p, 1, none⟩ = some (.int .i64 cr) ∧ W.cell? ⟨p, 2, none⟩ = some (.int .i64 fa) ∧ W.cell? ⟨p, 3, none⟩ = some (.bool dn) ∧ W.cell? ⟨p, 4, none⟩ = some v ∧ W.cell? ⟨p, 5, none⟩ = some (.int .i64 cap)) ∧
    ∀ j, W.frozen? ⟨p, j, none⟩ = false := ⟨sys_cells h.1, fun j => bfz h.1 j⟩
end
theorem grown_set (W : World) (p j : Nat) (u : Value) : W.grownBy (W.setCell ⟨p, j, none⟩ u) (some p) :=
  ⟨rfl, rfl, rfl, by simp [World.setCell], fun k _ hk => Below.heap_setCell W ⟨p, j, none⟩ u k (fun e => hk (by rw [e]))⟩
theorem grown_drew (W : World) (m : Nat) (row : Option Nat) : W.grownBy (W.drewN m) row := grown_of_below (pbd (Below.refl _ _) m) row
set_option maxHeartbeats 1000000 in
set_option maxRecDepth 100000 in
theorem tick_any {w : World} {p : Nat} {v : Value} {cnt cr fa : Int} {dn : Bool} {cap : Int} {W : World} {l : List FileT} (h : SySt w p v cnt cr fa dn cap W l) (hc : 0 ≤ cnt ∧ cnt ≤ 1000000000000000) :
    Calls Tryz.prog 56 #[.pointer (some ⟨p, 0, none⟩)] W fun e w' => e = .returned (.int .i64 (tickR cnt cr fa dn).1) ∧ SySt w p v (tickR cnt cr fa dn).2.1 cr fa (tickR cnt cr fa dn).2.2 cap w' l ∧ W.grownBy w' (some p) := by
  have HS := Aside0.mk h
  obtain ⟨⟨h0, h1, h2, h3, h4, h5⟩, hf⟩ := h.cells
  have hf0 := hf 0
  have hf3 := hf 3
  clear h hf
  cases dn with
  | true =>
    have HT := Aside0.mk (show tickR cnt cr fa true = (11, cnt, true) from by unfold tickR; rw [if_pos rfl])
    go_enter Tryz.func56, Tryz.ntmps56
    go_wp2
    go_ret
    rw [HT.out]
    exact ⟨rfl, HS.out, World.grownBy.refl W _⟩
  | false =>
    by_cases c1 : cnt = 1000000000000000
    · subst c1
      have HT := Aside0.mk (show tickR 1000000000000000 cr fa false = (12, 1000000000000000, false) from by unfold tickR; rw [if_neg (by decide), if_pos rfl])
      go_enter Tryz.func56, Tryz.ntmps56
      go_wp2
      go_ret
      rw [HT.out]
      exact ⟨rfl, HS.out, World.grownBy.refl W _⟩
    · have c1b : (cnt == 1000000000000000) = false := beq_eq_false_iff_ne.mpr c1
      have hw : wrap64 (cnt + 1) = cnt + 1 := by unfold wrap64; omega
      go_enter Tryz.func56, Tryz.ntmps56
      go_upto_region 6 with fail
      have H1 := Aside0.mk (HS.out.setCnt (cnt + 1))
      have HG1 := Aside0.mk (grown_set W p 0 (.int .i64 (cnt + 1)))
      obtain ⟨W1, hW1⟩ : ∃ X, W.setCell ⟨p, 0, none⟩ (.int .i64 (cnt + 1)) = X := ⟨_, rfl⟩
      rw [hW1] at H1 HG1 ⊢
      clear hW1 HS h0 h1 h2 h3 h4 h5 hf0 hf3
      obtain ⟨⟨h0, h1, h2, h3, h4, h5⟩, hf⟩ := H1.out.cells
      have hf3 := hf 3
      clear hf
      by_cases c2 : cr ≠ 0 ∧ cnt + 1 = cr
      · have HT := Aside0.mk (show tickR cnt cr fa false = (11, cnt + 1, true) from by unfold tickR; rw [if_neg (by decide), if_neg c1, if_pos c2])
        have c2b : (cr != 0) = true := bne_iff_ne.mpr c2.1
        have c3b : (cnt + 1 == cr) = true := beq_iff_eq.mpr c2.2
        clear c2
        go_wp2
        go_quiet (fail)
        go_wp2
        go_ret
        rw [HT.out]
        exact ⟨rfl, (H1.out.drew _).setDn true, (HG1.out.trans (grown_drew _ _ _)).trans (grown_set _ p 3 _)⟩
      · have C2 := c2
        have key : (cr != 0) = false ∨ ((cr != 0) = true ∧ (cnt + 1 == cr) = false) := by
          by_cases e : cr = 0
          · exact .inl (bne_eq_false_iff_eq.mpr e)
          · exact .inr ⟨bne_iff_ne.mpr e, beq_eq_false_iff_ne.mpr fun h => c2 ⟨e, h⟩⟩
        by_cases c4 : fa ≠ 0 ∧ cnt + 1 = fa
        · have HT := Aside0.mk (show tickR cnt cr fa false = (12, cnt + 1, false) from by unfold tickR; rw [if_neg (by decide), if_neg c1, if_neg c2, if_pos c4])
          have c4b : (fa != 0) = true := bne_iff_ne.mpr c4.1
          have c5b : (cnt + 1 == fa) = true := beq_iff_eq.mpr c4.2
          clear c4 c2 C2
          rcases key with c2b | ⟨c2b, c3b⟩
          all_goals
            go_wp2
            go_quiet (fail)
            go_wp2
            go_quiet (fail)
            go_wp2
            go_ret
            rw [HT.out]
            exact ⟨rfl, (H1.out.drew _).drew _, (HG1.out.trans (grown_drew _ _ _)).trans (grown_drew _ _ _)⟩
        · have HT := Aside0.mk (show tickR cnt cr fa false = (0, cnt + 1, false) from by unfold tickR; rw [if_neg (by decide), if_neg c1, if_neg c2, if_neg c4])
          have key2 : (fa != 0) = false ∨ ((fa != 0) = true ∧ (cnt + 1 == fa) = false) := by
            by_cases e : fa = 0
            · exact .inl (bne_eq_false_iff_eq.mpr e)
            · exact .inr ⟨bne_iff_ne.mpr e, beq_eq_false_iff_ne.mpr fun h => c4 ⟨e, h⟩⟩
          clear c4 c2 C2
          rcases key with c2b | ⟨c2b, c3b⟩ <;> rcases key2 with c4b | ⟨c4b, c5b⟩
          all_goals
            go_wp2
            go_quiet (fail)
            go_wp2
            go_quiet (fail)
            go_wp2
            go_ret
            rw [HT.out]
            exact ⟨rfl, (H1.out.drew _).drew _, (HG1.out.trans (grown_drew _ _ _)).trans (grown_drew _ _ _)⟩
/-- The first file of this name. -/
def findN (name : ByteArray) : List FileT → Nat → Option Nat
  | [], _ => none
  | x :: r, i => if x.f0.toList = name.toList then some i else findN name r (i + 1)
theorem SySt.below {w : World} {p : Nat} {v : Value} {cnt cr fa : Int} {dn : Bool} {cap : Int} {W W' : World} {l : List FileT} (h : SySt w p v cnt cr fa dn cap W l) (hb : Below W.heap.size W W') : SySt w p v cnt cr fa dn cap W' l :=
  ⟨bbe h.1 hb, h.2.1, Kd.Rbe h.2.2.1 hb, bst h.2.2.2 hb⟩
theorem SySt.form {w : World} {p : Nat} {v : Value} {cnt cr fa : Int} {dn : Bool} {cap : Int} {W : World} {l : List FileT} (h : SySt w p v cnt cr fa dn cap W l) (hl : 0 < l.length) : ∃ g c, v = .slice (some ⟨g, 0, none⟩) l.length c := by
  obtain ⟨g, c, hv, _⟩ := Kd.R_form h.2.2.1 hl
  exact ⟨g, c, hv⟩
theorem SySt.slice {w : World} {p : Nat} {v : Value} {cnt cr fa : Int} {dn : Bool} {cap : Int} {W : World} {l : List FileT} (h : SySt w p v cnt cr fa dn cap W l) : ∃ A c, v = .slice A l.length c := by
  obtain ⟨A, c, hv⟩ := Kd.R_slice h.2.2.1
  exact ⟨A, c, hv⟩
theorem SySt.elem {w : World} {p g c : Nat} {cnt cr fa : Int} {dn : Bool} {cap : Int} {W : World} {l : List FileT} (h : SySt w p (.slice (some ⟨g, 0, none⟩) l.length c) cnt cr fa dn cap W l) (i : Nat) (hi : i < l.length) :
    W.cell? ⟨g, i * 3, none⟩ = some (.string l[i].f0) ∧ W.cell? ⟨g, i * 3 + 1, none⟩ = some (.string l[i].f1) ∧ W.cell? ⟨g, i * 3 + 2, none⟩ = some (.int .i64 l[i].f2) ∧ ∀ j, W.frozen? ⟨g, i * 3 + j, none⟩ = false := by
  have := elemF h.2.2.1 i hi
  rw [show l.getD i z61 = l[i] by simp [List.getD_eq_getElem?_getD, hi]] at this
  exact this
/-- What find tells: no file, or the first one of this name. -/
def FindR (name : ByteArray) (v : Value) (l : List FileT) (e : Ending) : Prop :=
  (findN name l 0 = none ∧ e = .returned (.pointer none)) ∨ ∃ i g c, findN name l 0 = some i ∧ i < l.length ∧ v = .slice (some ⟨g, 0, none⟩) l.length c ∧ e = .returned (.pointer (some ⟨g, i * 3, none⟩))
set_option maxHeartbeats 1000000 in
set_option maxRecDepth 100000 in
theorem find_any {w : World} {p : Nat} {v : Value} {cnt cr fa : Int} {dn : Bool} {cap : Int} {W : World} {l : List FileT} (h : SySt w p v cnt cr fa dn cap W l) (hl : l.length ≤ 1000000) (name : ByteArray) :
    Calls Tryz.prog 58 #[.pointer (some ⟨p, 0, none⟩), .string name] W fun e w' => w' = W ∧ FindR name v l e := by
  obtain ⟨A, c, rfl⟩ := h.slice
  have HS := Aside0.mk h
  have HL := Aside0.mk hl
  obtain ⟨⟨_, _, _, _, h4, _⟩, _⟩ := h.cells
  clear h hl
  go_enter Tryz.func58, Tryz.ntmps58
  go_wp2
  go_loopg [11] l.length (fun k s11 wx => ∃ i : Nat, i + k = l.length ∧ s11 = .int .i64 i ∧ Aside0 (findN name (l.drop i) i = findN name l 0) ∧ wx = W)
  case atStart => exact ⟨0, by omega, rfl, ⟨rfl⟩, rfl⟩
  case round =>
    obtain ⟨i, hig, rfl, HF, rfl⟩ := hrel
    cases gk with
    | zero =>
      obtain rfl : i = l.length := by omega
      go_wp2
      go_ret
      refine ⟨rfl, .inl ⟨?_, rfl⟩⟩
      rw [← HF.out, List.drop_length]
      rfl
    | succ k1 =>
      have hi : i < l.length := by omega
      have hiz : (i : Int) < (l.length : Int) := by omega
      have hi0 : (0 : Int) ≤ (i : Int) := by omega
      have hlim : (i : Int) ≤ 1000000 := by have := HL.out; omega
      obtain ⟨g, c', hv⟩ := HS.out.form (by omega)
      injection hv with hA _ hc
      subst hA
      subst hc
      have hx := (HS.out.elem i hi).1
      have HD := Aside0.mk (show l.drop i = l[i] :: l.drop (i + 1) from List.drop_eq_getElem_cons hi)
      by_cases ce : l[i].f0.toList = name.toList
      · have c0 : (l[i].f0.toList == name.toList) = true := beq_iff_eq.mpr ce
        have HE := Aside0.mk ce
        clear ce
        go_wp2
        go_ret
        refine ⟨rfl, .inr ⟨i, g, c, ?_, hi, rfl, rfl⟩⟩
        rw [← HF.out, HD.out, findN, if_pos HE.out]
      · have c0 : (l[i].f0.toList == name.toList) = false := beq_eq_false_iff_ne.mpr ce
        have HE := Aside0.mk ce
        clear ce
        go_wp2
        go_roundg k1
        case measure => omega
        case rel =>
          refine ⟨i + 1, by omega, by simp, ⟨?_⟩, rfl⟩
          rw [← HF.out, HD.out, findN, if_neg HE.out]
def sumF (l : List FileT) : Nat := (l.map fun x => x.f1.size).sum
set_option maxHeartbeats 1000000 in
set_option maxRecDepth 100000 in
theorem room_any {w : World} {p : Nat} {v : Value} {cnt cr fa : Int} {dn : Bool} {cap : Int} {W : World} {l : List FileT} (h : SySt w p v cnt cr fa dn cap W l) (hl : l.length ≤ 1000000) (hcap : (sumF l : Int) ≤ cap) (hcap2 : cap ≤ 1000000000) :
    Calls Tryz.prog 59 #[.pointer (some ⟨p, 0, none⟩)] W fun e w' => e = .returned (.int .i64 (cap - (sumF l : Int))) ∧ Below W.heap.size W w' := by
  obtain ⟨A, c, rfl⟩ := h.slice
  have HS := Aside0.mk h
  have HL := Aside0.mk (And.intro hl (And.intro hcap hcap2))
  obtain ⟨⟨_, _, _, _, h4, h5⟩, _⟩ := h.cells
  have HB := Aside0.mk (Below.refl W.heap.size W)
  clear h hl hcap hcap2
  go_enter Tryz.func59, Tryz.ntmps59
  go_wp2
  go_loopg [3, 15] l.length (fun k s3 s15 wx => ∃ i : Nat, i + k = l.length ∧ s15 = .int .i64 i ∧ s3 = .int .i64 (cap - (sumF l : Int) + (sumF (l.drop i) : Int)) ∧ Aside0 (Below W.heap.size W wx))
  case atStart => exact ⟨0, by omega, rfl, by rw [List.drop_zero]; congr 1; omega, HB⟩
  case round =>
    clear HB h4 h5
    obtain ⟨i, hig, rfl, rfl, HB⟩ := hrel
    cases gk with
    | zero =>
      obtain rfl : i = l.length := by omega
      go_wp2
      go_ret
      refine ⟨?_, HB.out⟩
      rw [List.drop_length]
      simp [sumF]
    | succ k1 =>
      have hi : i < l.length := by omega
      have hiz : (i : Int) < (l.length : Int) := by omega
      have hi0 : (0 : Int) ≤ (i : Int) := by omega
      have hlim : (i : Int) ≤ 1000000 := by have := HL.out; omega
      obtain ⟨g, c', hv⟩ := HS.out.form (by omega)
      injection hv with hA _ hc
      subst hA
      subst hc
      obtain ⟨hx0, hx1, hx2, _⟩ := HS.out.elem i hi
      replace hx0 := (HB.out.cell (World.block_lt_of_cell? W _ hx0)).trans hx0
      replace hx1 := (HB.out.cell (World.block_lt_of_cell? W _ hx1)).trans hx1
      replace hx2 := (HB.out.cell (World.block_lt_of_cell? W _ hx2)).trans hx2
      have HD := Aside0.mk (show l.drop i = l[i] :: l.drop (i + 1) from List.drop_eq_getElem_cons hi)
      have hsum : sumF (l.drop i) = l[i].f1.size + sumF (l.drop (i + 1)) := by unfold sumF; rw [HD.out, List.map_cons, List.sum_cons]
      have hle : sumF (l.drop i) ≤ sumF l := by
        have h1 : (l.take i).map (fun x => x.f1.size) ++ (l.drop i).map (fun x => x.f1.size) = l.map (fun x => x.f1.size) := by rw [← List.map_append, List.take_append_drop]
        unfold sumF
        rw [← h1, List.sum_append]
        omega
      have HW := Aside0.mk (show wrap64 (cap - (sumF l : Int) + (sumF (l.drop i) : Int) - (l[i].f1.size : Int)) = cap - (sumF l : Int) + (sumF (l.drop (i + 1)) : Int) by
        have := HL.out
        unfold wrap64
        omega)
      clear hsum hle
      go_wp2_with (first | ((with_reducible refine gds (N := 5) rfl ?_); refine qbx 5 #[.string (⟨#[]⟩ : ByteArray), .string (⟨#[]⟩ : ByteArray), .int .i64 0] 61 ?_; intro gb hg w7 hbox hb; have BK := qK (hbox); have GW := qK ((qW : W.heap.size ≤ gb)); replace HB := qHB HB hb; clear hb hbox hg; have hz9 := qz3 BK.out))
      go_roundg k1
      case measure => omega
      case rel =>
        refine ⟨i + 1, by omega, by simp, ?_, ⟨qB⟩⟩
        rw [HW.out]
end Go.Proofs.YtfknmohedlfmfaaGreatDoor.L
end
section
set_option linter.unusedVariables false
namespace Go.Proofs.YtfknmohedlfmfaaGreatDoor.L
open Go Go.RowKit Go.Proofs.YtfknmohedlfmfaaGreatDoor
def srtF : Nat → Nat
  | 6 => 69
  | 10 => 77
  | 11 => 78
  | 12 => 79
  | 13 => 80
  | 14 => 81
  | 24 => 97
  | 25 => 98
  | 26 => 99
  | 27 => 100
  | 28 => 101
  | 29 => 102
  | 30 => 103
  | 31 => 104
  | 32 => 105
  | 33 => 106
  | 34 => 111
  | 35 => 112
  | 36 => 113
  | 37 => 114
  | 38 => 115
  | 39 => 118
  | _ => 0
def srtT : Nat → Nat
  | 0 => 0
  | 3 => 3
  | 4 => 4
  | 5 => 5
  | 9 => 9
  | 12 => 12
  | 17 => 17
  | 20 => 20
  | 26 => 100
  | 32 => 108
  | 33 => 109
  | 35 => 111
  | 37 => 113
  | 41 => 68
  | 44 => 118
  | 49 => 77
  | 51 => 104
  | 53 => 131
  | 54 => 132
  | 58 => 136
  | 60 => 142
  | 64 => 146
  | 66 => 148
  | 67 => 149
  | 75 => 158
  | 76 => 159
  | 77 => 160
  | 78 => 107
  | 79 => 161
  | 80 => 162
  | 82 => 164
  | _ => 0
noncomputable def srtRen : Go.Shelf.Ren := ⟨srtF, srtT, fun _ => 0⟩
set_option maxRecDepth 100000 in
theorem srtLays : LaysGg.n6 Tryz.prog srtRen := by
  constructor <;> first | kernel_rfl | (intro w; kernel_rfl)
end Go.Proofs.YtfknmohedlfmfaaGreatDoor.L
end
section
set_option linter.unusedVariables false
set_option linter.unusedSimpArgs false
namespace Go.Proofs.YtfknmohedlfmfaaGreatDoor.L
open Go Go.RowKit Go.Shelf Go.Lib Go.Sort Go.Proofs Go.Proofs.YtfknmohedlfmfaaGreatDoor Go.Proofs.YtfknmohedlfmfaaGreatDoorW.PrintWords Go.Proofs.YtfknmohedlfmfaaGreatDoorW.PrintLast Go.Proofs.YtfknmohedlfmfaaGreatDoorW.PrintMore
attribute [local go_sem] max2_int min2_int max_two min_two max_three min_three max_four min_four
instance : Inhabited FileT := ⟨z61⟩
def fileE (x : FileT) : List Value := [.string x.f0, .string x.f1, .int .i64 x.f2]
def fileLt (x y : FileT) : Bool := Op.bytesLess x.f0.toList y.f0.toList
theorem swo_file : SWO fileLt := by
  have h := swo_ltStr
  have e : ∀ x y : FileT, fileLt x y = ltStr x.f0.toList y.f0.toList := fun x y => by unfold fileLt; rw [bytesLess_eq]; rfl
  exact ⟨fun x => by rw [e]; exact h.irrefl _, fun x y z => by rw [e, e, e]; exact h.trans _ _ _, fun x y z => by rw [e, e, e]; exact h.ntrans _ _ _⟩
set_option maxHeartbeats 1000000 in
set_option maxRecDepth 100000 in
/-- The closure. -/
theorem less_any (p g n c Bs : Nat) (W : World) (G : Nat → ByteArray) (hs : W.cell? ⟨Bs, 0, none⟩ = some (.pointer (some ⟨p, 0, none⟩))) (h4 : W.cell? ⟨p, 4, none⟩ = some (.slice (some ⟨g, 0, none⟩) n c))
    (hc : ∀ t, t < n → W.cell? ⟨g, t * 3, none⟩ = some (.string (G t))) (i j : Nat) (hi : i < n) (hj : j < n) (hn : n < 4611686018427387904) :
    Calls Tryz.prog 70 #[.int .i64 i, .int .i64 j, .pointer (some ⟨Bs, 0, none⟩)] W fun e w' => e = .returned (.bool (Op.bytesLess (G i).toList (G j).toList)) ∧ ∃ q, w' = W.drewN q := by
  have ci := hc i hi
  have cj := hc j hj
  have hi0 : (0 : Int) ≤ (i : Int) := by omega
  have hj0 : (0 : Int) ≤ (j : Int) := by omega
  have hi1 : (i : Int) < (n : Int) := by omega
  have hj1 : (j : Int) < (n : Int) := by omega
  clear hc
  go_enter Tryz.func70, Tryz.ntmps70
  go_wp2
  go_quiet (fail)
  go_wp2
  go_ret
  exact ⟨rfl, nq, rfl⟩
theorem below_grow (w : World) (os : Array Obj) : RowKit.Below w.heap.size w (grow w os) :=
  ⟨rfl, rfl, rfl, by simp [grow], fun k hk => by simp only [grow]; exact Array.getElem?_append_left hk⟩
theorem setCells_append (w : World) (g : Nat) : ∀ (a b : List Value) (o : Nat), w.setCells g o (a ++ b) = (w.setCells g o a).setCells g (o + a.length) b
  | [], b, o => by simp [World.setCells]
  | x :: a, b, o => by
    rw [List.cons_append, World.setCells, World.setCells, setCells_append _ g a b (o + 1), List.length_cons]
    congr 1
    omega
/-- A row of files laid anew, element by element. -/
theorem R_all {base : Nat} {ok : Nat → Prop} {W : World} {g c : Nat} (l l' : List FileT) (hll : l'.length = l.length) (HO : FileK.R 61 W base ok (.slice (some ⟨g, 0, none⟩) l.length c) l) :
    ∀ j : Nat, j ≤ l.length → FileK.R 61 (W.setCells g 0 ((l'.take j).flatMap fileE)) base ok (.slice (some ⟨g, 0, none⟩) l.length c) (l'.take j ++ l.drop j) ∧ W.grownBy (W.setCells g 0 ((l'.take j).flatMap fileE)) (some g) := by
  intro j
  induction j with
  | zero => intro _; simpa [World.setCells] using ⟨HO, World.grownBy.refl W _⟩
  | succ j ih =>
    intro hj
    obtain ⟨hR, hG⟩ := ih (by omega)
    have hj' : j < l'.length := by omega
    obtain ⟨cs, hcl, hM, hcc, hfz⟩ := Kd.R_elem hR z61 (j : Int) (by omega) (by omega)
    have hlen : ((l'.take j).flatMap fileE).length = j * 3 := by
      have : ∀ q : List FileT, (q.flatMap fileE).length = q.length * 3 := fun q => by
        induction q with
        | nil => rfl
        | cons x q ih => rw [List.flatMap_cons, List.length_append, ih, List.length_cons]; simp [fileE]; omega
      rw [this, List.length_take]
      congr 1
      omega
    have e1 : (l'.take (j + 1)).flatMap fileE = (l'.take j).flatMap fileE ++ fileE l'[j] := by
      rw [List.take_add_one, List.getElem?_eq_getElem hj', Option.toList_some, List.flatMap_append, List.flatMap_singleton]
    have e2 : (l'.take j ++ l.drop j).set j l'[j] = l'.take (j + 1) ++ l.drop (j + 1) := by
      have hd : l.drop j = l[j]'(by omega) :: l.drop (j + 1) := List.drop_eq_getElem_cons (by omega)
      rw [List.take_add_one, List.getElem?_eq_getElem hj', Option.toList_some, hd, List.set_append_right _ _ (by rw [List.length_take]; omega)]
      have : j - (l'.take j).length = 0 := by rw [List.length_take]; omega
      rw [this, List.set_cons_zero, List.append_assoc, List.singleton_append]
    obtain rfl := k61_openM hM
    have hs := Kd.R_seg (seg := fileE l'[j]) (j := 0) hR (j : Int) (by omega) (by omega) hcl hcc (by show 0 + 3 ≤ 3; omega) (x' := l'[j]) (okp := fun _ => False) (k61_mkM _ _ _ _) (fun _ h => h.elim)
    have e3 : (j : Int).toNat = j := by omega
    rw [e3] at hs
    have e4 : ((W.setCells g 0 ((l'.take j).flatMap fileE)).setCells g (j * FileK.sz + 0) (fileE l'[j])) = W.setCells g 0 ((l'.take (j + 1)).flatMap fileE) := by
      rw [e1, setCells_append, hlen, Nat.zero_add]
      rfl
    rw [e2, e4] at hs
    exact ⟨hs.1, hG.trans hs.2⟩
theorem flatK_list (d : Array FileT) : (flatK fileE 3 d).toList = d.toList.flatMap fileE := by
  have hl : ∀ q : List FileT, (q.flatMap fileE).length = q.length * 3 := fun q => by
    induction q with
    | nil => rfl
    | cons x q ih => rw [List.flatMap_cons, List.length_append, ih, List.length_cons]; simp [fileE]; omega
  have hg : ∀ (q : List FileT) (t : Nat), t < q.length * 3 → (q.flatMap fileE)[t]? = (fileE (q.getD (t / 3) default))[t % 3]? := by
    intro q
    induction q with
    | nil => intro t h; simp at h
    | cons x q ih =>
      intro t h
      rw [List.flatMap_cons]
      by_cases h3 : t < 3
      · rw [List.getElem?_append_left (by simp [fileE]; omega), show t / 3 = 0 by omega, show t % 3 = t by omega]
        rfl
      · have h4 : (fileE x).length = 3 := rfl
        rw [List.getElem?_append_right (by omega), h4, ih (t - 3) (by simp at h; omega)]
        have e1 : t / 3 = (t - 3) / 3 + 1 := by omega
        have e2 : t % 3 = (t - 3) % 3 := by omega
        rw [e1, e2]
        rfl
  apply List.ext_getElem?
  intro t
  by_cases ht : t < d.size * 3
  · rw [hg d.toList t (by simpa using ht)]
    have hs : t < (flatK fileE 3 d).size := by rw [size_flatK]; exact ht
    have h1 := get_flatK fileE 3 d t ht
    rw [Array.getElem?_toList, Array.getElem?_eq_getElem hs]
    rw [getElem!_pos _ t hs] at h1
    rw [h1]
    have hd : t / 3 < d.size := by omega
    have e2 : d.toList.getD (t / 3) default = d[t / 3]! := by
      rw [List.getD_eq_getElem?_getD, Array.getElem?_toList, Array.getElem?_eq_getElem hd, getElem!_pos d (t / 3) hd]
      rfl
    rw [e2]
    have h5 : t % 3 < (fileE d[t / 3]!).length := by show t % 3 < 3; omega
    rw [List.getElem?_eq_getElem h5, getElem!_pos (fileE d[t / 3]!) (t % 3) h5]
  · rw [List.getElem?_eq_none (by rw [Array.length_toList, size_flatK]; omega), List.getElem?_eq_none (by rw [hl, Array.length_toList]; omega)]
theorem holds_files {w : World} {p g c : Nat} {cnt cr fa : Int} {dn : Bool} {cap : Int} {W : World} {l : List FileT} (h : SySt w p (.slice (some ⟨g, 0, none⟩) l.length c) cnt cr fa dn cap W l) : HoldsK fileE 3 W g 0 l.toArray := by
  intro t ht
  rw [size_flatK] at ht
  have ht' : t < l.length * 3 := by simpa using ht
  have hi : t / 3 < l.length := by omega
  obtain ⟨h0, h1, h2, hf⟩ := h.elem (t / 3) hi
  rw [get_flatK fileE 3 _ t ht]
  have e2 : l.toArray[t / 3]! = l[t / 3] := by rw [getElem!_pos _ _ (by simpa using hi)]; simp
  rw [e2]
  have hr : t % 3 = 0 ∨ t % 3 = 1 ∨ t % 3 = 2 := by omega
  have ee : ∀ r, t % 3 = r → 0 + t = t / 3 * 3 + r := fun r hr => by omega
  rcases hr with hr | hr | hr
  · rw [ee 0 hr, hr]
    exact ⟨h0, hf 0⟩
  · rw [ee 1 hr, hr]
    exact ⟨h1, hf 1⟩
  · rw [ee 2 hr, hr]
    exact ⟨h2, hf 2⟩
noncomputable def svT : TypeInfo := (Tryz.prog.info? 28).get (by kernel_rfl)
noncomputable def svE : TypeInfo := (Tryz.prog.info? 61).get (by kernel_rfl)
theorem svK (n : Nat) (h2 : 2 ≤ n) : Lib.swapperK n svE 25 = 9 := by
  have a : svE.hasPointers = true := by kernel_rfl
  have b : svE.bytes = 40 := by kernel_rfl
  have c : (n == 0) = false := by simp; omega
  have d : (n == 1) = false := by simp; omega
  simp [Lib.swapperK, a, b, c, d]
/-- What stays of the system where its row is laid anew. -/
theorem SySt.laid {w : World} {p g c : Nat} {cnt cr fa : Int} {dn : Bool} {cap : Int} {W W' : World} {l l' : List FileT} (h : SySt w p (.slice (some ⟨g, 0, none⟩) l.length c) cnt cr fa dn cap W l)
    (hR : FileK.R 61 W' w.heap.size (fun k => k ≠ p) (.slice (some ⟨g, 0, none⟩) l.length c) l') (hG : W.grownBy W' (some g)) : SySt w p (.slice (some ⟨g, 0, none⟩) l.length c) cnt cr fa dn cap W' l' := by
  have hgp : g ≠ p := h.2.2.1.1 g rfl
  exact ⟨bgr h.1 hG (fun e => hgp (Option.some.inj e).symm), h.2.1, hR, pw_below_grown h.2.2.2 (some g) h.2.2.2.size hG (fun k hk => by cases hk; exact Kd.R_base h.2.2.1 g rfl)⟩
/-- sort.Slice as create calls it. -/
theorem sort_files {w : World} {p g c : Nat} {cnt cr fa : Int} {dn : Bool} {cap : Int} {W : World} {l : List FileT} (h : SySt w p (.slice (some ⟨g, 0, none⟩) l.length c) cnt cr fa dn cap W l) (h1 : 1 ≤ l.length) (h2 : l.length ≤ 1000000)
    (Bs : Nat) (hBs : W.cell? ⟨Bs, 0, none⟩ = some (.pointer (some ⟨p, 0, none⟩))) (hB1 : Bs < W.heap.size) (hB2 : Bs ≠ g) :
    Calls Tryz.prog 69 #[.iface 28 (.slice (some ⟨g, 0, none⟩) l.length c), .func (.func 70) #[] #[.pointer (some ⟨Bs, 0, none⟩)]] W fun e w' =>
      e = .returned (.tuple #[]) ∧ ∃ l', l'.Perm l ∧ l'.Pairwise (fun x y => fileLt y x = false) ∧ SySt w p (.slice (some ⟨g, 0, none⟩) l.length c) cnt cr fa dn cap w' l' := by
  have hblk : g < W.heap.size := Kd.R_lt h.2.2.1 g rfl
  have hgp : g ≠ p := h.2.2.1.1 g rfl
  have hH := holds_files h
  rcases Nat.lt_or_ge l.length 2 with hlt | hge
  · refine (Any.sort_Slice_tiny srtLays 28 61 svT svE (by kernel_rfl) (by kernel_rfl) (by kernel_rfl) (by kernel_rfl) 25 (fun _ => by kernel_rfl) (some ⟨g, 0, none⟩) l.length c (by omega) 89
      (by
        have hf : Tryz.prog.funcs.findIdx? (·.name == "internal/reflectlite" ++ ".Swapper$" ++ toString (Lib.swapperK 1 svE 25)) = some 89 := by kernel_rfl
        have h1' : l.length = 1 := by omega
        rw [h1']
        exact hf) _ _ _ W).mono ?_
    rintro e w' ⟨rfl, os, rfl⟩
    refine ⟨rfl, l, List.Perm.refl _, ?_, h.below (below_grow W os)⟩
    obtain ⟨x, rfl⟩ : ∃ x, l = [x] := List.length_eq_one_iff.1 (by omega)
    exact List.pairwise_singleton _ _
  · have hless : LessReadsK Tryz.prog 70 #[.pointer (some ⟨Bs, 0, none⟩)] fileE 3 fileLt g 0 l.toArray.size W := by
      intro m os dk hs i j hi hj
      have e : sortWorldK fileE 3 W g 0 m dk os = putRowK fileE 3 (grow (Sort.ahead W m) os) g 0 dk := by
        unfold sortWorldK; rw [putRowK_grow _ _ (Sort.ahead W m) _ g 0 _ hblk]
      have hHg : HoldsK fileE 3 (grow (Sort.ahead W m) os) g 0 l.toArray := holdsK_grow _ _ _ _ g 0 _ hblk (holdsK_ahead _ _ _ _ _ _ _ hH)
      refine less_any p g l.length c Bs _ (fun t => dk[t]!.f0) ?_ ?_ (fun t ht => ?_) i j (by simpa using hi) (by simpa using hj) (by omega)
      · rw [e, cell?_putRowK_other _ _ _ g 0 dk _ (by exact hB2), cell?_grow _ _ _ (by exact hB1)]; exact hBs
      · rw [e, cell?_putRowK_other _ _ _ g 0 dk _ (by exact fun q => hgp q.symm), cell?_grow _ _ _ (by exact blt h.1)]; exact (h.cells.1).2.2.2.2.1
      · rw [e]
        have := ((holdsK_putRowK _ _ _ g 0 _ dk hHg hs).cell (i := t) (c := 0) (by rw [hs]; simpa using ht) (by omega)).1
        rw [Nat.zero_add, Nat.add_zero] at this
        exact this
    have hS := Any.sort_Slice_cells_sorted srtLays 28 61 svT svE (by kernel_rfl) (by kernel_rfl) (by kernel_rfl) (by kernel_rfl) 25 (fun _ => by kernel_rfl) fileE 3 (fun _ => rfl) (by kernel_rfl) (fun _ => by kernel_rfl)
      (fun x v hv => by simp [fileE] at hv; rcases hv with rfl | rfl | rfl <;> rfl) fileLt swo_file 70 _
      (enters_of Tryz.func70 (by kernel_rfl) rfl) g 0 c l.toArray (by simpa using hge) (by simp; omega) 96 (by rw [svK _ (by simpa using hge)]; kernel_rfl) false
      (fun args W => run_callFunc_extern Tryz.func96 (by kernel_rfl) (by kernel_rfl) (by kernel_rfl) (e := Extern.ReflectliteSwapper.swap false) (by kernel_rfl) args W) W hless hH hblk
    change Calls Tryz.prog 69 _ _ _ at hS
    rw [show l.toArray.size = l.length from by simp] at hS
    refine hS.mono ?_
    rintro e w' ⟨rfl, d', q, os, hp, hso, rfl⟩
    have hsz : d'.size = l.length := by have := hp.1; simpa using this
    have hperm : d'.toList.Perm l := by
      have h3 := hp.2.2
      have e1 : d'.extract 0 l.length = d' := by rw [← hsz]; exact Array.extract_size
      have e2 : l.toArray.extract 0 l.length = l.toArray := by
        have : l.toArray.size = l.length := by simp
        rw [← this]; exact Array.extract_size
      rw [e1, e2] at h3
      exact h3
    refine ⟨rfl, d'.toList, hperm, ?_, ?_⟩
    · rw [List.pairwise_iff_getElem]
      intro i j hi hj hij
      have := hso i j (Nat.zero_le _) hij (by rw [← hsz]; simpa using hj)
      rw [getElem!_pos d' j (by simpa using hj), getElem!_pos d' i (by simpa using hi)] at this
      simpa using this
    · have e1 : putRowK fileE 3 (Sort.ahead W q) g 0 d' = (W.drewN q).setCells g 0 (d'.toList.flatMap fileE) := by
        have := putRow_eq_setCells id W g 0 (flatK fileE 3 l.toArray) (d'.toList.flatMap fileE) q hH (by rw [size_flatK, ← flatK_list, Array.length_toList, size_flatK, hsz]; simp)
        rw [List.map_id] at this
        rw [← this]
        unfold putRowK
        congr 1
        rw [← flatK_list]
      rw [e1]
      have hS2 := h.drew q
      have hl' : d'.toList.length = l.length := by simpa using hsz
      obtain ⟨hR, hG⟩ := R_all l d'.toList hl' hS2.2.2.1 l.length (Nat.le_refl _)
      rw [List.take_of_length_le (by omega), List.drop_length, List.append_nil] at hR
      rw [List.take_of_length_le (by omega)] at hG
      exact (hS2.laid hR hG).below (below_grow _ os)
end Go.Proofs.YtfknmohedlfmfaaGreatDoor.L
end
section
set_option linter.unusedVariables false
set_option linter.unusedSimpArgs false
namespace Go.Proofs.YtfknmohedlfmfaaGreatDoor.L
open Go Go.RowKit Go.Proofs.YtfknmohedlfmfaaGreatDoor Go.Proofs.YtfknmohedlfmfaaGreatDoorW.PrintWords Go.Proofs.YtfknmohedlfmfaaGreatDoorW.PrintLast Go.Proofs.YtfknmohedlfmfaaGreatDoorW.PrintMore
attribute [local go_sem] max2_int min2_int max_two min_two max_three min_three max_four min_four
theorem find_none {w : World} {p : Nat} {v : Value} {cnt cr fa : Int} {dn : Bool} {cap : Int} {W : World} {l : List FileT} (h : SySt w p v cnt cr fa dn cap W l) (hl : l.length ≤ 1000000) (name : ByteArray) (hn : findN name l 0 = none) :
    Calls Tryz.prog 58 #[.pointer (some ⟨p, 0, none⟩), .string name] W fun e w' => w' = W ∧ e = .returned (.pointer none) :=
  (find_any h hl name).mono fun e w' ⟨h1, h2⟩ => ⟨h1, by
    rcases h2 with h2 | ⟨i, g, c, h3, _⟩
    · exact h2.2
    · rw [hn] at h3; cases h3⟩
theorem find_some {w : World} {p g c : Nat} {n : Nat} {cnt cr fa : Int} {dn : Bool} {cap : Int} {W : World} {l : List FileT} (h : SySt w p (.slice (some ⟨g, 0, none⟩) l.length c) cnt cr fa dn cap W l) (hl : l.length ≤ 1000000) (name : ByteArray) (i : Nat) (hn : findN name l 0 = some i) :
    Calls Tryz.prog 58 #[.pointer (some ⟨p, 0, none⟩), .string name] W fun e w' => w' = W ∧ e = .returned (.pointer (some ⟨g, i * 3, none⟩)) :=
  (find_any h hl name).mono fun e w' ⟨h1, h2⟩ => ⟨h1, by
    rcases h2 with h2 | ⟨j, g', c', h3, _, h4, h5⟩
    · rw [hn] at h2; cases h2.1
    · rw [hn] at h3
      cases h3
      cases h4
      exact h5⟩
theorem findN_lt {name : ByteArray} : ∀ {l : List FileT} {k i : Nat}, findN name l k = some i → k ≤ i ∧ i < k + l.length
  | [], k, i, h => by cases h
  | x :: r, k, i, h => by
    rw [findN] at h
    by_cases c : x.f0.toList = name.toList
    · rw [if_pos c] at h
      cases h
      simp
    · rw [if_neg c] at h
      have := findN_lt h
      rw [List.length_cons]
      omega
theorem SySt.grown0 {w : World} {p : Nat} {v : Value} {cnt cr fa : Int} {dn : Bool} {cap : Int} {W W' : World} {l : List FileT} (h : SySt w p v cnt cr fa dn cap W l) (hg : W.grownBy W' none) : SySt w p v cnt cr fa dn cap W' l :=
  ⟨bgr h.1 hg (by simp), h.2.1, Kd.R_grown h.2.2.1 hg (fun _ _ => by simp), pw_below_grown h.2.2.2 none h.2.2.2.size hg (fun k hk => by cases hk)⟩
/-- The row behind an append, stored. -/
theorem SySt.stored {w : World} {p : Nat} {v v2 : Value} {cnt cr fa : Int} {dn : Bool} {cap : Int} {W W' : World} {l l2 : List FileT} (h : SySt w p v cnt cr fa dn cap W l) (hG : W.grownBy W' v.ownBlock)
    (hR : FileK.R 61 W' w.heap.size (fun k => k ≠ p) v2 l2) (hB : Below w.heap.size w W') : W'.heap[p]? = some (.cells (sysRow cnt cr fa dn v cap) 76 (0, 0)) ∧ SySt w p v2 cnt cr fa dn cap (W'.setCell ⟨p, 4, none⟩ v2) l2 := by
  have hb := bgr h.1 hG (fun e => h.2.2.1.1 p e.symm rfl)
  exact ⟨hb, by simpa [sysRow] using blk_set hb 4 v2, h.2.1, Kd.R_step hR fun k hk _ => Below.heap_setCell W' ⟨p, 4, none⟩ v2 k hk, bse hB h.2.1⟩
/-- What create comes to. -/
def CrR (name : ByteArray) (l l' : List FileT) (code : Int) : Prop :=
  (findN name l 0 ≠ none ∧ code = 15 ∧ l' = l) ∨ (findN name l 0 = none ∧ 300 ≤ l.length ∧ code = 13 ∧ l' = l) ∨
    (findN name l 0 = none ∧ l.length < 300 ∧ code = 0 ∧ l'.Perm (l ++ [(⟨name, (⟨#[]⟩ : ByteArray), 0⟩ : FileT)]) ∧ l'.Pairwise (fun x y => fileLt y x = false))
def CrPost (w : World) (p : Nat) (cnt cr fa : Int) (dn : Bool) (cap : Int) (name : ByteArray) (l : List FileT) (e : Ending) (w' : World) : Prop :=
  ∃ (code : Int) (l' : List FileT) (v' : Value), e = .returned (.int .i64 code) ∧ CrR name l l' code ∧ SySt w p v' cnt cr fa dn cap w' l'
set_option maxHeartbeats 2000000 in
set_option maxRecDepth 100000 in
theorem create_any {w : World} {p : Nat} {v : Value} {cnt cr fa : Int} {dn : Bool} {cap : Int} {W : World} {l : List FileT} (h : SySt w p v cnt cr fa dn cap W l) (hl : l.length ≤ 1000000) (name : ByteArray) :
    Calls Tryz.prog 57 #[.pointer (some ⟨p, 0, none⟩), .string name] W (CrPost w p cnt cr fa dn cap name l) := by
  obtain ⟨A, c, rfl⟩ := h.slice
  have HS := Aside0.mk h
  have HL := Aside0.mk hl
  have HB := Aside0.mk (Below.refl W.heap.size W)
  have hpW : p < W.heap.size := blt h.1
  have HP := Aside0.mk hpW
  clear h hl hpW
  cases hfn : findN name l 0 with
  | some i =>
    have hi := findN_lt hfn
    obtain ⟨g, c', hv⟩ := HS.out.form (by omega)
    injection hv with hA _ hc
    subst hA
    subst hc
    have HF := Aside0.mk hfn
    clear hfn hi
    go_enter Tryz.func57, Tryz.ntmps57
    go_wp2_with (first | ((with_reducible refine gds (N := 2) rfl ?_); refine qbx 2 #[.pointer (some ⟨p, 0, none⟩)] 63 ?_; intro Bs hg w1 hbox hb; have BK := qK (hbox); have HS1 := Aside0.mk (HS.out.below hb); clear hb hbox hg; have hz := qz1 BK.out) | (go_at_call 58; (with_reducible refine (find_some (n := 0) HS1.out HL.out name i HF.out).mono ?_); rintro e w2 ⟨rfl, rfl⟩))
    go_ret
    exact ⟨15, l, _, rfl, .inl ⟨by rw [HF.out]; simp, rfl, rfl⟩, HS1.out⟩
  | none =>
    have HF := Aside0.mk hfn
    clear hfn
    by_cases h3 : 300 ≤ l.length
    · have h3z : (300 : Int) ≤ (l.length : Int) := by omega
      go_enter Tryz.func57, Tryz.ntmps57
      go_wp2_with (first | ((with_reducible refine gds (N := 2) rfl ?_); refine qbx 2 #[.pointer (some ⟨p, 0, none⟩)] 63 ?_; intro Bs hg w1 hbox hb; have BK := qK (hbox); have HS1 := Aside0.mk (HS.out.below hb); clear hb hbox hg; have hz := qz1 BK.out; have h4 := (HS1.out.cells.1).2.2.2.2.1) | (go_at_call 58; (with_reducible refine (find_none HS1.out HL.out name HF.out).mono ?_); rintro e w2 ⟨rfl, rfl⟩))
      go_ret
      exact ⟨13, l, _, rfl, .inr (.inl ⟨HF.out, h3, rfl, rfl⟩), HS1.out⟩
    · have h3z : ¬ (300 : Int) ≤ (l.length : Int) := by omega
      go_enter Tryz.func57, Tryz.ntmps57
      go_upto_region 5 with (first | ((with_reducible refine gds (N := 2) rfl ?_); refine qbx 2 #[.pointer (some ⟨p, 0, none⟩)] 63 ?_; intro Bs hg w1 hbox hb; have BK := qK (hbox); have HS1 := Aside0.mk (HS.out.below hb); have HG := Aside0.mk hg; clear hb hbox hg; have hz := qz1 BK.out; have h4 := (HS1.out.cells.1).2.2.2.2.1) | (go_at_call 58; (with_reducible refine (find_none HS1.out HL.out name HF.out).mono ?_); rintro e w2 ⟨rfl, rfl⟩))
      have HBs := Aside0.mk (show Bs ≠ p by have := HG.out; have := HP.out; omega)
      obtain ⟨X, hX⟩ : ∃ X : FileT, (⟨name, (⟨#[]⟩ : ByteArray), 0⟩ : FileT) = X := ⟨_, rfl⟩
      have hX0 : X.f0 = name := by rw [← hX]
      have hX1 : X.f1 = (⟨#[]⟩ : ByteArray) := by rw [← hX]
      have hX2 : X.f2 = 0 := by rw [← hX]
      have HX := Aside0.mk (And.intro hX (And.intro hX0 (And.intro hX1 hX2)))
      clear hX hX0 hX1 hX2
      refine start_ (n := 12) (S := (fun w' => w'.cell? ⟨Bs, 0, none⟩ = some (.pointer (some ⟨p, 0, none⟩)) ∧ w'.cell? ⟨p, 4, none⟩ = some (.slice A l.length c))) (ds := [11]) #[false, false, false, false, false, false, false, false, false, false, false, false] (by kernel_rfl) rfl rfl ⟨hz.1, h4⟩ (fun hHeld => ?_)
      refine take_ (i := 0) (N := some 15) (v := ?_) (a' := ?_) #[true, false, false, false, false, false, false, false, false, false, false, false] rfl rfl (by kernel_rfl) (fun _ _ _ h => h) (Or.inl ⟨by rfl, ?_⟩) hHeld ?_ ?_
      rotate_left
      · rintro w' ⟨s0,s1⟩
        go_simp
        with_reducible rfl
      rotate_left
      · simp only [Act.put, List.setIfInBounds_toArray, List.set_cons_zero, List.set_cons_succ, i64_w, i32_w]
        rfl
      refine take_ (i := 1) (N := some 16) (v := ?_) (a' := ?_) #[true, true, false, false, false, false, false, false, false, false, false, false] rfl rfl (by kernel_rfl) (fun _ _ _ h => h) (Or.inl ⟨by rfl, ?_⟩) hHeld ?_ ?_
      rotate_left
      · rintro w' ⟨s0,s1⟩
        go_simp
        with_reducible rfl
      rotate_left
      · simp only [Act.put, List.setIfInBounds_toArray, List.set_cons_zero, List.set_cons_succ, i64_w, i32_w]
        rfl
      refine pure_ (i := 2) (N := some 17) (v := ?_) (a' := ?_) #[true, true, true, false, false, false, false, false, false, false, false, false] rfl rfl (by kernel_rfl) (fun _ _ _ h => h) (Or.inl ⟨by rfl, ?_⟩) ?_ ?_
      rotate_left
      · intro w'
        go_simp
        with_reducible rfl
      rotate_left
      · simp only [Act.put, List.setIfInBounds_toArray, List.set_cons_zero, List.set_cons_succ, i64_w, i32_w]
        rfl
      refine pure_ (i := 3) (N := some 18) (v := ?_) (a' := ?_) #[true, true, true, true, false, false, false, false, false, false, false, false] rfl rfl (by kernel_rfl) (fun _ _ _ h => h) (Or.inl ⟨by rfl, ?_⟩) ?_ ?_
      rotate_left
      · intro w'
        go_simp
        with_reducible rfl
      rotate_left
      · simp only [Act.put, List.setIfInBounds_toArray, List.set_cons_zero, List.set_cons_succ, i64_w, i32_w]
        rfl
      refine take_ (i := 4) (N := some 19) (v := ?_) (a' := ?_) #[true, true, true, true, true, false, false, false, false, false, false, false] rfl rfl (by kernel_rfl) (fun _ _ _ h => h) (Or.inl ⟨by rfl, ?_⟩) hHeld ?_ ?_
      rotate_left
      · rintro w' ⟨s0,s1⟩
        go_simp
        with_reducible rfl
      rotate_left
      · simp only [Act.put, List.setIfInBounds_toArray, List.set_cons_zero, List.set_cons_succ, i64_w, i32_w]
        rfl
      refine pure_ (i := 5) (N := some 20) (v := ?_) (a' := ?_) #[true, true, true, true, true, true, false, false, false, false, false, false] rfl rfl (by kernel_rfl) (fun _ _ _ h => h) (Or.inl ⟨by rfl, ?_⟩) ?_ ?_
      rotate_left
      · intro w'
        go_simp
        with_reducible rfl
      rotate_left
      · simp only [Act.put, List.setIfInBounds_toArray, List.set_cons_zero, List.set_cons_succ, i64_w, i32_w]
        rfl
      refine pure_ (i := 6) (N := some 21) (v := ?_) (a' := ?_) #[true, true, true, true, true, true, true, false, false, false, false, false] rfl rfl (by kernel_rfl) (fun _ _ _ h => h) (Or.inl ⟨by rfl, ?_⟩) ?_ ?_
      rotate_left
      · intro w'
        go_simp
        with_reducible rfl
      rotate_left
      · simp only [Act.put, List.setIfInBounds_toArray, List.set_cons_zero, List.set_cons_succ, i64_w, i32_w]
        rfl
      refine one_ (i := 7) (N := some 22) #[true, true, true, true, true, true, true, true, false, false, false, false] rfl rfl (by kernel_rfl) (by decide) (fun K hK => ?_)
      refine Kd.R_lit_step FileK (w0 := w) w.heap.size 61 ?hg (N := 22) ?hd (xs := [(⟨name, (⟨#[]⟩ : ByteArray), 0⟩ : FileT)]) (inner := [.string name, .string (⟨#[]⟩ : ByteArray), .int .i64 0]) (ok := fun _ => True) (okp := fun _ => True) ?hr ?hp (fun _ hk => hk) trivial ?hb ?hz (by simp) ?_; (case hd => rfl); (case hg => rfl); (case hr => first | (go_simp; done) | (go_simp; rfl)); (case hp => exact (Reps.snoc (Reps.none _ _) (k61_mkM _ _ _ ⟨name, (⟨#[]⟩ : ByteArray), 0⟩) rfl)); (case hb => exact bd1 HS1.out.2.2.2); (case hz => exact HS1.out.2.2.2.size)
      intro v1 w6 ho1 hb1 hg1 hn1
      obtain ⟨A1, c1, rfl⟩ := Kd.R_slice ho1
      have HO1 := Aside0.mk (Kd.R_reads' ho1).2.2
      have HS6 := Aside0.mk (HS1.out.drew1.grown0 hg1)
      have BK6 := Aside0.mk (bgr (bkD BK.out) hg1 (by simp))
      have HP6 := Aside0.mk (show p < w6.heap.size from blt HS6.out.1)
      clear ho1 hb1 hg1 hn1
      refine hK.out _ _ ⟨(qz1 BK6.out).1, (HS6.out.cells.1).2.2.2.2.1⟩ (fun hHeld => ?_)
      clear hK K
      refine norm_ (a' := ?_) ?_ ?_
      rotate_left
      · show Act.put _ (some 22) _ = _
        simp only [Act.put, List.setIfInBounds_toArray, List.set_cons_zero, List.set_cons_succ, i64_w, i32_w]
        rfl
      refine one_ (i := 8) (N := some 23) #[true, true, true, true, true, true, true, true, true, false, false, false] rfl rfl (by kernel_rfl) (by decide) (fun K hK => ?_)
      refine Kd.Rars FileK (w0 := w) w.heap.size (by rfl) (.tmp 19) (.tmp 22) 28 61 (.agg #[(.string ⟨#[]⟩), (.string ⟨#[]⟩), (.int .i64 0)]) 40 rfl Tryz.underlying28 info61 rfl (by decide) (by omega) (.slice A l.length c) l [(⟨name, (⟨#[]⟩ : ByteArray), 0⟩ : FileT)] _ _ _ (fun k => k ≠ p) (fun _ => False) rfl rfl ?aO ?aR (fun _ _ h => h) (fun _ h => h.elim) ?aF ?aB ?aS ?aL ?_
      (case aR => exact HO1.out)
      (case aB => exact HS6.out.2.2.2)
      (case aF => exact (fun k hk => by have := HP6.out; omega))
      (case aO => exact HS6.out.2.2.1)
      (case aS => exact HS6.out.2.2.2.size)
      (case aL => have := HL.out; show (l.length + 1) * 40 ≤ _; omega)
      intro v2 w7 ho2 hb2 hg2 hat2
      obtain ⟨A2, c2, rfl⟩ := Kd.R_slice ho2
      have BK7 := Aside0.mk (bgr BK6.out hg2 (Kd.R_ne HS6.out.2.2.1 BK6.out (by decide)))
      obtain ⟨h7p, hs7⟩ := HS6.out.stored hg2 ho2 hb2
      have HS7 := Aside0.mk hs7
      have HP7 := Aside0.mk h7p
      clear ho2 hb2 hg2 hat2 h7p hs7
      refine hK.out _ _ ⟨(qz1 BK7.out).1, (sys_cells HP7.out).2.2.2.2.1⟩ (fun hHeld => ?_)
      clear hK K
      refine norm_ (a' := ?_) ?_ ?_
      rotate_left
      · show Act.put _ (some 23) _ = _
        simp only [Act.put, List.setIfInBounds_toArray, List.set_cons_zero, List.set_cons_succ, i64_w, i32_w]
        rfl
      refine pure_ (i := 9) (N := some 24) (v := ?_) (a' := ?_) #[true, true, true, true, true, true, true, true, true, true, false, false] rfl rfl (by kernel_rfl) (fun _ _ _ h => h) (Or.inl ⟨by rfl, ?_⟩) ?_ ?_
      rotate_left
      · intro w'
        go_simp
        with_reducible rfl
      rotate_left
      · simp only [Act.put, List.setIfInBounds_toArray, List.set_cons_zero, List.set_cons_succ, i64_w, i32_w]
        rfl
      refine pure_ (i := 10) (N := some 25) (v := ?_) (a' := ?_) #[true, true, true, true, true, true, true, true, true, true, true, false] rfl rfl (by kernel_rfl) (fun _ _ _ h => h) (Or.inl ⟨by rfl, ?_⟩) ?_ ?_
      rotate_left
      · intro w'
        go_simp
        with_reducible rfl
      rotate_left
      · simp only [Act.put, List.setIfInBounds_toArray, List.set_cons_zero, List.set_cons_succ, i64_w, i32_w]
        rfl
      refine last_ (i := 11) (N := none) #[true, true, true, true, true, true, true, true, true, true, true, true] rfl rfl (by kernel_rfl) (by decide) (fun K hK => ?_)
      refine skip_ (by rfl) rfl (exec_store_run 28 (.tmp 25) (.tmp 23) rfl p 4 _ [.slice A2 (l ++ [(⟨name, (⟨#[]⟩ : ByteArray), 0⟩ : FileT)]).length c2] rfl rfl rfl HP7.out (by kernel_rfl) (by show 4 + 1 ≤ 6; omega) (by simp [Value.oneCell'])) ?_
      refine hK.out _ _ ?_
      clear hK K
      refine done_ (by kernel_rfl) ?_
      have BK8 := Aside0.mk (bfa BK7.out (p := ⟨p, 4, none⟩) HBs.out (.slice A2 (l ++ [(⟨name, (⟨#[]⟩ : ByteArray), 0⟩ : FileT)]).length c2))
      have e8 : w7.setCells p 4 [.slice A2 (l ++ [(⟨name, (⟨#[]⟩ : ByteArray), 0⟩ : FileT)]).length c2] = w7.setCell ⟨p, 4, none⟩ (.slice A2 (l ++ [(⟨name, (⟨#[]⟩ : ByteArray), 0⟩ : FileT)]).length c2) := rfl
      rw [e8]
      obtain ⟨W8, hW8⟩ : ∃ X, w7.setCell ⟨p, 4, none⟩ (.slice A2 (l ++ [(⟨name, (⟨#[]⟩ : ByteArray), 0⟩ : FileT)]).length c2) = X := ⟨_, rfl⟩
      rw [hW8] at HS7 BK8 ⊢
      clear hW8 e8 hz h4
      obtain ⟨L2, hL2⟩ : ∃ X, l ++ [(⟨name, (⟨#[]⟩ : ByteArray), 0⟩ : FileT)] = X := ⟨_, rfl⟩
      have HL2 := Aside0.mk (show L2.length = l.length + 1 by rw [← hL2]; simp)
      rw [hL2] at HS7
      have HE2 := Aside0.mk hL2
      clear hL2
      obtain ⟨g, c', hv⟩ := HS7.out.form (by have := HL2.out; omega)
      injection hv with hA _ hc
      subst hA
      subst hc
      have hz := qz1 BK8.out
      have h4 := (HS7.out.cells.1).2.2.2.2.1
      have HQ := Aside0.mk (show Bs ≠ g by
        intro e
        have := Kd.R_ne HS7.out.2.2.1 BK8.out (by decide)
        rw [e] at this
        exact this rfl)
      go_wp2_with (first | (go_at_call 69; (with_reducible refine (sort_files HS7.out (by have := HL2.out; omega) (by have := HL2.out; have := h3; omega) Bs hz.1 (blt BK8.out) HQ.out).mono ?_); rintro e w9 ⟨rfl, l', hp, hs, hS⟩; have HP9 := Aside0.mk hp; have HQ9 := Aside0.mk hs; have HS9 := Aside0.mk hS; clear hp hs hS))
      go_ret
      exact ⟨0, l', _, rfl, .inr (.inr ⟨HF.out, by omega, rfl, by rw [HE2.out]; exact HP9.out, HQ9.out⟩), HS9.out⟩
end Go.Proofs.YtfknmohedlfmfaaGreatDoor.L
end
section
set_option linter.unusedVariables false
set_option linter.unusedSimpArgs false
namespace Go.Proofs.YtfknmohedlfmfaaGreatDoor.L
open Go Go.RowKit Go.Proofs.YtfknmohedlfmfaaGreatDoor Go.Proofs.YtfknmohedlfmfaaGreatDoorW.PrintWords Go.Proofs.YtfknmohedlfmfaaGreatDoorW.PrintLast Go.Proofs.YtfknmohedlfmfaaGreatDoorW.PrintMore
attribute [local go_sem] max2_int min2_int max_two min_two max_three min_three max_four min_four
/-- What the call's own block for the operation keeps while the system is turned. -/
theorem opBox {p go_ : Nat} {W1 W2 : World} {o : Obj} (hb : W1.heap[go_]? = some o) (hne : go_ ≠ p) (hg : W1.grownBy W2 (some p)) : W2.heap[go_]? = some o :=
  bgr hb hg (fun e => hne (Option.some.inj e))
section
variable {w : World} {p g c : Nat} {cnt cr fa : Int} {dn : Bool} {cap : Int} {W : World} {l : List FileT} {i : Nat} {X : FileT}
theorem getD_files (hX : l[i]? = some X) : i < l.length ∧ l.getD i z61 = X := by
  obtain ⟨hi, e⟩ := List.getElem?_eq_some_iff.1 hX
  exact ⟨hi, by simp [List.getD_eq_getElem?_getD, hX]⟩
theorem SySt.elemX (h : SySt w p (.slice (some ⟨g, 0, none⟩) l.length c) cnt cr fa dn cap W l) (hX : l[i]? = some X) :
    W.cell? ⟨g, i * 3, none⟩ = some (.string X.f0) ∧ W.cell? ⟨g, i * 3 + 1, none⟩ = some (.string X.f1) ∧ W.cell? ⟨g, i * 3 + 2, none⟩ = some (.int .i64 X.f2) ∧ ∀ j, W.frozen? ⟨g, i * 3 + j, none⟩ = false := by
  have := elemF h.2.2.1 i (getD_files hX).1
  rw [(getD_files hX).2] at this
  exact this
theorem SySt.put1 (h : SySt w p (.slice (some ⟨g, 0, none⟩) l.length c) cnt cr fa dn cap W l) (hX : l[i]? = some X) (d : ByteArray) : SySt w p (.slice (some ⟨g, 0, none⟩) l.length c) cnt cr fa dn cap (W.setCell ⟨g, i * 3 + 1, none⟩ (.string d)) (l.set i ⟨X.f0, d, X.f2⟩) := by
  have := putF1 h.2.2.1 i (getD_files hX).1 d
  rw [(getD_files hX).2] at this
  exact h.laid this.1 this.2
theorem SySt.put2 (h : SySt w p (.slice (some ⟨g, 0, none⟩) l.length c) cnt cr fa dn cap W l) (hX : l[i]? = some X) (s : Int) : SySt w p (.slice (some ⟨g, 0, none⟩) l.length c) cnt cr fa dn cap (W.setCell ⟨g, i * 3 + 2, none⟩ (.int .i64 s)) (l.set i ⟨X.f0, X.f1, s⟩) := by
  have := putF2 h.2.2.1 i (getD_files hX).1 s
  rw [(getD_files hX).2] at this
  exact h.laid this.1 this.2
end
/-- The file's text cut: the two stores. -/
theorem SySt.put12 {w : World} {p g c : Nat} {cnt cr fa : Int} {dn : Bool} {cap : Int} {W : World} {l : List FileT} {i : Nat} {X : FileT} (h : SySt w p (.slice (some ⟨g, 0, none⟩) l.length c) cnt cr fa dn cap W l) (hX : l[i]? = some X) (d : ByteArray) (s : Int) :
    SySt w p (.slice (some ⟨g, 0, none⟩) l.length c) cnt cr fa dn cap ((W.setCell ⟨g, i * 3 + 1, none⟩ (.string d)).setCell ⟨g, i * 3 + 2, none⟩ (.int .i64 s)) (l.set i ⟨X.f0, d, s⟩) := by
  have h1 := h.put1 hX d
  have hX1 : (l.set i ⟨X.f0, d, X.f2⟩)[i]? = some (⟨X.f0, d, X.f2⟩ : FileT) := by
    rw [List.getElem?_set_self (getD_files hX).1]
  have hl : l.length = (l.set i (⟨X.f0, d, X.f2⟩ : FileT)).length := by rw [List.length_set]
  rw [hl] at h1
  have h2 := h1.put2 hX1 s
  rw [List.set_set, ← hl] at h2
  exact h2
set_option maxHeartbeats 1000000 in
set_option maxRecDepth 100000 in
theorem trunc_bad (g o : Nat) (d : ByteArray) (size : Int) (W : World) (h1 : W.cell? ⟨g, o + 1, none⟩ = some (.string d)) (hb : size < 0 ∨ (d.size : Int) < size) :
    Calls Tryz.prog 61 #[.pointer (some ⟨g, o, none⟩), .int .i64 size] W fun e w' => e = .returned (.int .i64 16) ∧ w' = W := by
  by_cases c0 : size < 0
  · have c0b : decide (size < 0) = true := decide_eq_true c0
    clear c0 hb
    go_enter Tryz.func61, Tryz.ntmps61
    go_wp2
    go_ret
    exact ⟨rfl, rfl⟩
  · have c0b : decide (size < 0) = false := decide_eq_false c0
    have c1 : (d.size : Int) < size := by omega
    have c1b : decide ((d.size : Int) < size) = true := decide_eq_true c1
    clear hb
    go_enter Tryz.func61, Tryz.ntmps61
    go_wp2
    go_ret
    exact ⟨rfl, rfl⟩
set_option maxHeartbeats 1000000 in
set_option maxRecDepth 100000 in
theorem trunc_ok (g o : Nat) (d : ByteArray) (s size : Int) (W : World) (h1 : W.cell? ⟨g, o + 1, none⟩ = some (.string d)) (h2 : W.cell? ⟨g, o + 2, none⟩ = some (.int .i64 s)) (hf1 : W.frozen? ⟨g, o + 1, none⟩ = false) (hf2 : W.frozen? ⟨g, o + 2, none⟩ = false) (h0 : 0 ≤ size) (hs : size ≤ (d.size : Int)) :
    Calls Tryz.prog 61 #[.pointer (some ⟨g, o, none⟩), .int .i64 size] W fun e w' => e = .returned (.int .i64 0) ∧ w' = (W.setCell ⟨g, o + 1, none⟩ (.string (d.extract 0 size.toNat))).setCell ⟨g, o + 2, none⟩ (.int .i64 size) := by
  have c0 : ¬ size < 0 := by omega
  have c1 : ¬ (d.size : Int) < size := by omega
  have c0b : decide (size < 0) = false := decide_eq_false c0
  have c1b : decide ((d.size : Int) < size) = false := decide_eq_false c1
  go_enter Tryz.func61, Tryz.ntmps61
  go_wp2
  go_ret
  exact ⟨rfl, rfl⟩
set_option maxHeartbeats 2000000 in
set_option maxRecDepth 100000 in
theorem do_tick {w : World} {p : Nat} {v : Value} {cnt cr fa : Int} {dn : Bool} {cap : Int} {W : World} {l : List FileT} (h : SySt w p v cnt cr fa dn cap W l) (hl : l.length ≤ 1000000) (hcn : 0 ≤ cnt ∧ cnt ≤ 1000000000000000) (kind : Int) (name data : ByteArray) (size : Int) (tc tn : Int) (td : Bool) (ht : tickR cnt cr fa dn = (tc, tn, td)) (h0 : tc ≠ 0) :
    Calls Tryz.prog 41 #[.pointer (some ⟨p, 0, none⟩), .agg #[.int .i64 kind, .string name, .string data, .int .i64 size]] W fun e w' => e = .returned (.int .i64 tc) ∧ SySt w p v tn cr fa td cap w' l := by
  have HS := Aside0.mk h
  have HL := Aside0.mk hl
  have HC := Aside0.mk hcn
  have HT := Aside0.mk ht
  clear h hl hcn ht
  have c0 : (tc != 0) = true := bne_iff_ne.mpr h0
  have HZ := Aside0.mk h0
  clear h0
  go_enter Tryz.func41, Tryz.ntmps41
  go_wp2_with (first | ((with_reducible refine gds (N := 3) rfl ?_); refine qbx 3 #[.int .i64 kind, .string name, .string data, .int .i64 size] 48 ?_; intro go_ hg w1 hbox hb; have BK := qK (hbox); have HS1 := Aside0.mk (HS.out.below hb); have HG := Aside0.mk (show go_ ≠ p by have := blt HS.out.1; omega); clear hb hbox hg; have hz := qz4 BK.out) | (go_at_call 56; (with_reducible refine (tick_any HS1.out HC.out).mono ?_); rintro e w2 ⟨rfl, hS2, hG2⟩; have HS2 := Aside0.mk hS2; have BK2 := qK (opBox BK.out HG.out hG2); clear hS2 hG2; rw [HT.out]; have hz2 := qz4 BK2.out))
  go_ret
  have h9 := HS2.out
  rw [HT.out] at h9
  exact ⟨rfl, h9⟩
set_option maxHeartbeats 2000000 in
set_option maxRecDepth 100000 in
theorem do_create {w : World} {p : Nat} {v : Value} {cnt cr fa : Int} {dn : Bool} {cap : Int} {W : World} {l : List FileT} (h : SySt w p v cnt cr fa dn cap W l) (hl : l.length ≤ 1000000) (hcn : 0 ≤ cnt ∧ cnt ≤ 1000000000000000) (kind : Int) (name data : ByteArray) (size : Int) (tn : Int) (td : Bool) (ht : tickR cnt cr fa dn = (0, tn, td)) (hk : kind = 1) :
    Calls Tryz.prog 41 #[.pointer (some ⟨p, 0, none⟩), .agg #[.int .i64 kind, .string name, .string data, .int .i64 size]] W fun e w' => CrPost w p tn cr fa td cap name l e w' := by
  have HS := Aside0.mk h
  have HL := Aside0.mk hl
  have HC := Aside0.mk hcn
  have HT := Aside0.mk ht
  clear h hl hcn ht
  have c0 : (kind == 1) = true := beq_iff_eq.mpr hk
  clear hk
  go_enter Tryz.func41, Tryz.ntmps41
  go_wp2_with (first | ((with_reducible refine gds (N := 3) rfl ?_); refine qbx 3 #[.int .i64 kind, .string name, .string data, .int .i64 size] 48 ?_; intro go_ hg w1 hbox hb; have BK := qK (hbox); have HS1 := Aside0.mk (HS.out.below hb); have HG := Aside0.mk (show go_ ≠ p by have := blt HS.out.1; omega); clear hb hbox hg; have hz := qz4 BK.out) | (go_at_call 56; (with_reducible refine (tick_any HS1.out HC.out).mono ?_); rintro e w2 ⟨rfl, hS2, hG2⟩; have HS2 := Aside0.mk hS2; have BK2 := qK (opBox BK.out HG.out hG2); clear hS2 hG2; rw [HT.out]; have hz2 := qz4 BK2.out) | (go_at_call 57; (with_reducible refine (create_any HS2.out HL.out name).mono ?_); rintro e w3 ⟨code, l', v', rfl, hr, hs⟩; have H9 := Aside0.mk (And.intro hr hs); clear hr hs))
  go_ret
  have h9 := H9.out
  rw [HT.out] at h9
  exact ⟨code, l', v', rfl, h9.1, h9.2⟩
set_option maxHeartbeats 2000000 in
set_option maxRecDepth 100000 in
theorem do_none {w : World} {p : Nat} {v : Value} {cnt cr fa : Int} {dn : Bool} {cap : Int} {W : World} {l : List FileT} (h : SySt w p v cnt cr fa dn cap W l) (hl : l.length ≤ 1000000) (hcn : 0 ≤ cnt ∧ cnt ≤ 1000000000000000) (kind : Int) (name data : ByteArray) (size : Int) (tn : Int) (td : Bool) (ht : tickR cnt cr fa dn = (0, tn, td)) (hk : kind ≠ 1) (hf : findN name l 0 = none) :
    Calls Tryz.prog 41 #[.pointer (some ⟨p, 0, none⟩), .agg #[.int .i64 kind, .string name, .string data, .int .i64 size]] W fun e w' => e = .returned (.int .i64 14) ∧ SySt w p v tn cr fa td cap w' l := by
  have HS := Aside0.mk h
  have HL := Aside0.mk hl
  have HC := Aside0.mk hcn
  have HT := Aside0.mk ht
  clear h hl hcn ht
  have c0 : (kind == 1) = false := beq_eq_false_iff_ne.mpr hk
  have HF := Aside0.mk hf
  clear hk hf
  go_enter Tryz.func41, Tryz.ntmps41
  go_wp2_with (first | ((with_reducible refine gds (N := 3) rfl ?_); refine qbx 3 #[.int .i64 kind, .string name, .string data, .int .i64 size] 48 ?_; intro go_ hg w1 hbox hb; have BK := qK (hbox); have HS1 := Aside0.mk (HS.out.below hb); have HG := Aside0.mk (show go_ ≠ p by have := blt HS.out.1; omega); clear hb hbox hg; have hz := qz4 BK.out) | (go_at_call 56; (with_reducible refine (tick_any HS1.out HC.out).mono ?_); rintro e w2 ⟨rfl, hS2, hG2⟩; have HS2 := Aside0.mk hS2; have BK2 := qK (opBox BK.out HG.out hG2); clear hS2 hG2; rw [HT.out]; have hz2 := qz4 BK2.out) | (go_at_call 58; (with_reducible refine (find_none HS2.out HL.out name HF.out).mono ?_); rintro e w3 ⟨rfl, rfl⟩))
  go_ret
  have h9 := HS2.out
  rw [HT.out] at h9
  exact ⟨rfl, h9⟩
set_option maxHeartbeats 2000000 in
set_option maxRecDepth 100000 in
theorem do_sync {w : World} {p : Nat} {v : Value} {cnt cr fa : Int} {dn : Bool} {cap : Int} {W : World} {l : List FileT} (h : SySt w p v cnt cr fa dn cap W l) (hl : l.length ≤ 1000000) (hcn : 0 ≤ cnt ∧ cnt ≤ 1000000000000000) (kind : Int) (name data : ByteArray) (size : Int) (tn : Int) (td : Bool) (ht : tickR cnt cr fa dn = (0, tn, td)) (i : Nat) (g c : Nat) (hv : v = .slice (some ⟨g, 0, none⟩) l.length c) (hf : findN name l 0 = some i) (X : FileT) (hX : l[i]? = some X) (hk : kind = 3) :
    Calls Tryz.prog 41 #[.pointer (some ⟨p, 0, none⟩), .agg #[.int .i64 kind, .string name, .string data, .int .i64 size]] W fun e w' => e = .returned (.int .i64 0) ∧ SySt w p (.slice (some ⟨g, 0, none⟩) l.length c) tn cr fa td cap w' (l.set i ⟨X.f0, X.f1, (X.f1.size : Int)⟩) := by
  subst hv
  have HF := Aside0.mk hf
  have HI := Aside0.mk hX
  clear hf hX
  have k1 : (kind == 1) = false := by rw [hk]; rfl
  have k2 : (kind == 2) = false := by rw [hk]; rfl
  have k3 : (kind == 3) = true := by rw [hk]; rfl
  have k4 : (kind == 4) = false := by rw [hk]; rfl
  have k5 : (kind == 5) = false := by rw [hk]; rfl
  clear hk
  have HS := Aside0.mk h
  have HL := Aside0.mk hl
  have HC := Aside0.mk hcn
  have HT := Aside0.mk ht
  clear h hl hcn ht
  go_enter Tryz.func41, Tryz.ntmps41
  go_wp2_with (first | ((with_reducible refine gds (N := 3) rfl ?_); refine qbx 3 #[.int .i64 kind, .string name, .string data, .int .i64 size] 48 ?_; intro go_ hg w1 hbox hb; have BK := qK (hbox); have HS1 := Aside0.mk (HS.out.below hb); have HG := Aside0.mk (show go_ ≠ p by have := blt HS.out.1; omega); clear hb hbox hg; have hz := qz4 BK.out) | (go_at_call 56; (with_reducible refine (tick_any HS1.out HC.out).mono ?_); rintro e w2 ⟨rfl, hS2, hG2⟩; have HS2 := Aside0.mk hS2; have BK2 := qK (opBox BK.out HG.out hG2); clear hS2 hG2; rw [HT.out]; have hz2 := qz4 BK2.out) | (go_at_call 58; (with_reducible refine (find_some (n := 0) HS2.out HL.out name i HF.out).mono ?_); rintro e w3 ⟨rfl, rfl⟩) | (go_at_call 60; (with_reducible refine (sync_any g (i * 3) X.f1 X.f2 _ (HS2.out.elemX HI.out).2.1 (HS2.out.elemX HI.out).2.2.1 ((HS2.out.elemX HI.out).2.2.2 2)).mono ?_); rintro e w4 ⟨rfl, m, rfl⟩; have h9 := (HS2.out.put2 HI.out (X.f1.size : Int)).drew m; rw [HT.out] at h9; have H9 := Aside0.mk h9; clear h9))
  go_ret
  exact ⟨rfl, H9.out⟩
set_option maxHeartbeats 2000000 in
set_option maxRecDepth 100000 in
theorem do_trunc_bad {w : World} {p : Nat} {v : Value} {cnt cr fa : Int} {dn : Bool} {cap : Int} {W : World} {l : List FileT} (h : SySt w p v cnt cr fa dn cap W l) (hl : l.length ≤ 1000000) (hcn : 0 ≤ cnt ∧ cnt ≤ 1000000000000000) (kind : Int) (name data : ByteArray) (size : Int) (tn : Int) (td : Bool) (ht : tickR cnt cr fa dn = (0, tn, td)) (i : Nat) (g c : Nat) (hv : v = .slice (some ⟨g, 0, none⟩) l.length c) (hf : findN name l 0 = some i) (X : FileT) (hX : l[i]? = some X) (hk : kind = 4) (hb : size < 0 ∨ (X.f1.size : Int) < size):
    Calls Tryz.prog 41 #[.pointer (some ⟨p, 0, none⟩), .agg #[.int .i64 kind, .string name, .string data, .int .i64 size]] W fun e w' => e = .returned (.int .i64 16) ∧ SySt w p (.slice (some ⟨g, 0, none⟩) l.length c) tn cr fa td cap w' l := by
  subst hv
  have HF := Aside0.mk hf
  have HI := Aside0.mk hX
  clear hf hX
  have k1 : (kind == 1) = false := by rw [hk]; rfl
  have k2 : (kind == 2) = false := by rw [hk]; rfl
  have k3 : (kind == 3) = false := by rw [hk]; rfl
  have k4 : (kind == 4) = true := by rw [hk]; rfl
  have k5 : (kind == 5) = false := by rw [hk]; rfl
  clear hk
  have HS := Aside0.mk h
  have HL := Aside0.mk hl
  have HC := Aside0.mk hcn
  have HT := Aside0.mk ht
  clear h hl hcn ht
  have HD := Aside0.mk hb
  clear hb
  go_enter Tryz.func41, Tryz.ntmps41
  go_wp2_with (first | ((with_reducible refine gds (N := 3) rfl ?_); refine qbx 3 #[.int .i64 kind, .string name, .string data, .int .i64 size] 48 ?_; intro go_ hg w1 hbox hb; have BK := qK (hbox); have HS1 := Aside0.mk (HS.out.below hb); have HG := Aside0.mk (show go_ ≠ p by have := blt HS.out.1; omega); clear hb hbox hg; have hz := qz4 BK.out) | (go_at_call 56; (with_reducible refine (tick_any HS1.out HC.out).mono ?_); rintro e w2 ⟨rfl, hS2, hG2⟩; have HS2 := Aside0.mk hS2; have BK2 := qK (opBox BK.out HG.out hG2); clear hS2 hG2; rw [HT.out]; have hz2 := qz4 BK2.out) | (go_at_call 58; (with_reducible refine (find_some (n := 0) HS2.out HL.out name i HF.out).mono ?_); rintro e w3 ⟨rfl, rfl⟩) | (go_at_call 61; (with_reducible refine (trunc_bad g (i * 3) X.f1 size _ (HS2.out.elemX HI.out).2.1 HD.out).mono ?_); rintro e w4 ⟨rfl, rfl⟩; skip))
  go_ret
  have h9 := HS2.out
  rw [HT.out] at h9
  exact ⟨rfl, h9⟩
set_option maxHeartbeats 2000000 in
set_option maxRecDepth 100000 in
theorem do_trunc {w : World} {p : Nat} {v : Value} {cnt cr fa : Int} {dn : Bool} {cap : Int} {W : World} {l : List FileT} (h : SySt w p v cnt cr fa dn cap W l) (hl : l.length ≤ 1000000) (hcn : 0 ≤ cnt ∧ cnt ≤ 1000000000000000) (kind : Int) (name data : ByteArray) (size : Int) (tn : Int) (td : Bool) (ht : tickR cnt cr fa dn = (0, tn, td)) (i : Nat) (g c : Nat) (hv : v = .slice (some ⟨g, 0, none⟩) l.length c) (hf : findN name l 0 = some i) (X : FileT) (hX : l[i]? = some X) (hk : kind = 4) (h0 : 0 ≤ size) (hs : size ≤ (X.f1.size : Int)):
    Calls Tryz.prog 41 #[.pointer (some ⟨p, 0, none⟩), .agg #[.int .i64 kind, .string name, .string data, .int .i64 size]] W fun e w' => e = .returned (.int .i64 0) ∧ SySt w p (.slice (some ⟨g, 0, none⟩) l.length c) tn cr fa td cap w' (l.set i ⟨X.f0, X.f1.extract 0 size.toNat, size⟩) := by
  subst hv
  have HF := Aside0.mk hf
  have HI := Aside0.mk hX
  clear hf hX
  have k1 : (kind == 1) = false := by rw [hk]; rfl
  have k2 : (kind == 2) = false := by rw [hk]; rfl
  have k3 : (kind == 3) = false := by rw [hk]; rfl
  have k4 : (kind == 4) = true := by rw [hk]; rfl
  have k5 : (kind == 5) = false := by rw [hk]; rfl
  clear hk
  have HS := Aside0.mk h
  have HL := Aside0.mk hl
  have HC := Aside0.mk hcn
  have HT := Aside0.mk ht
  clear h hl hcn ht
  have HD := Aside0.mk (And.intro h0 hs)
  clear h0 hs
  go_enter Tryz.func41, Tryz.ntmps41
  go_wp2_with (first | ((with_reducible refine gds (N := 3) rfl ?_); refine qbx 3 #[.int .i64 kind, .string name, .string data, .int .i64 size] 48 ?_; intro go_ hg w1 hbox hb; have BK := qK (hbox); have HS1 := Aside0.mk (HS.out.below hb); have HG := Aside0.mk (show go_ ≠ p by have := blt HS.out.1; omega); clear hb hbox hg; have hz := qz4 BK.out) | (go_at_call 56; (with_reducible refine (tick_any HS1.out HC.out).mono ?_); rintro e w2 ⟨rfl, hS2, hG2⟩; have HS2 := Aside0.mk hS2; have BK2 := qK (opBox BK.out HG.out hG2); clear hS2 hG2; rw [HT.out]; have hz2 := qz4 BK2.out) | (go_at_call 58; (with_reducible refine (find_some (n := 0) HS2.out HL.out name i HF.out).mono ?_); rintro e w3 ⟨rfl, rfl⟩) | (go_at_call 61; (with_reducible refine (trunc_ok g (i * 3) X.f1 X.f2 size _ (HS2.out.elemX HI.out).2.1 (HS2.out.elemX HI.out).2.2.1 ((HS2.out.elemX HI.out).2.2.2 1) ((HS2.out.elemX HI.out).2.2.2 2) HD.out.1 HD.out.2).mono ?_); rintro e w4 ⟨rfl, rfl⟩; have h9 := HS2.out.put12 HI.out (X.f1.extract 0 size.toNat) size; rw [HT.out] at h9; have H9 := Aside0.mk h9; clear h9))
  go_ret
  exact ⟨rfl, H9.out⟩
set_option maxHeartbeats 2000000 in
set_option maxRecDepth 100000 in
theorem do_append_full {w : World} {p : Nat} {v : Value} {cnt cr fa : Int} {dn : Bool} {cap : Int} {W : World} {l : List FileT} (h : SySt w p v cnt cr fa dn cap W l) (hl : l.length ≤ 1000000) (hcn : 0 ≤ cnt ∧ cnt ≤ 1000000000000000) (kind : Int) (name data : ByteArray) (size : Int) (tn : Int) (td : Bool) (ht : tickR cnt cr fa dn = (0, tn, td)) (i : Nat) (g c : Nat) (hv : v = .slice (some ⟨g, 0, none⟩) l.length c) (hf : findN name l 0 = some i) (X : FileT) (hX : l[i]? = some X) (hk : kind = 2) (hcap : (sumF l : Int) ≤ cap) (hcap2 : cap ≤ 1000000000) (hd2 : data.size ≤ 1000000000) (hX2 : X.f1.size ≤ 1000000000) (R : Nat) (hR : cap - (sumF l : Int) = R) (hr : R < data.size):
    Calls Tryz.prog 41 #[.pointer (some ⟨p, 0, none⟩), .agg #[.int .i64 kind, .string name, .string data, .int .i64 size]] W fun e w' => e = .returned (.int .i64 13) ∧ SySt w p (.slice (some ⟨g, 0, none⟩) l.length c) tn cr fa td cap w' (l.set i ⟨X.f0, (X.f1 ++ data.extract 0 (R)), X.f2⟩) := by
  subst hv
  have HF := Aside0.mk hf
  have HI := Aside0.mk hX
  clear hf hX
  have k1 : (kind == 1) = false := by rw [hk]; rfl
  have k2 : (kind == 2) = true := by rw [hk]; rfl
  have k3 : (kind == 3) = false := by rw [hk]; rfl
  have k4 : (kind == 4) = false := by rw [hk]; rfl
  have k5 : (kind == 5) = false := by rw [hk]; rfl
  clear hk
  have HS := Aside0.mk h
  have HL := Aside0.mk hl
  have HC := Aside0.mk hcn
  have HT := Aside0.mk ht
  clear h hl hcn ht
  have HD := Aside0.mk (And.intro hcap (And.intro hcap2 (And.intro hd2 (And.intro hX2 hr))))
  have r1 : decide ((R : Int) < (data.size : Int)) = true := decide_eq_true (by omega)
  have HR := Aside0.mk hR
  have r2 : (0 : Int) ≤ (R : Int) := by omega
  have r3 : (0 : Int) ≤ (data.size : Int) := by omega
  have r4 : (9223372036854775807 < X.f1.size + data.size) = False := eq_false (by omega)
  have r7 : data.extract 0 data.size = data := ByteArray.extract_zero_size
  have HD7 := Aside0.mk r7
  have r5 : (R : Int) ≤ (data.size : Int) := by omega
  have r9 : (R : Int) < (data.size : Int) := by omega
  have r6 : (9223372036854775807 < X.f1.size + (data.extract 0 R).size) = False := eq_false (by rw [ByteArray.size_extract]; omega)
  have r8 : (9223372036854775807 < X.f1.size + min R data.size) = False := eq_false (by omega)
  have r11 : (9223372036854775807 < X.f1.size + R) = False := eq_false (by omega)
  have r12 : min R data.size = R := by omega
  clear hcap hcap2 hd2 hX2 hR hr
  go_enter Tryz.func41, Tryz.ntmps41
  go_upto_region 11 with (first | ((with_reducible refine gds (N := 3) rfl ?_); refine qbx 3 #[.int .i64 kind, .string name, .string data, .int .i64 size] 48 ?_; intro go_ hg w1 hbox hb; have BK := qK (hbox); have HS1 := Aside0.mk (HS.out.below hb); have HG := Aside0.mk (show go_ ≠ p by have := blt HS.out.1; omega); clear hb hbox hg; have hz := qz4 BK.out) | (go_at_call 56; (with_reducible refine (tick_any HS1.out HC.out).mono ?_); rintro e w2 ⟨rfl, hS2, hG2⟩; have HS2 := Aside0.mk hS2; have BK2 := qK (opBox BK.out HG.out hG2); clear hS2 hG2; rw [HT.out]; have hz2 := qz4 BK2.out) | (go_at_call 58; (with_reducible refine (find_some (n := 0) HS2.out HL.out name i HF.out).mono ?_); rintro e w3 ⟨rfl, rfl⟩))
  refine start_ (n := 7) (S := (fun w' => w'.cell? ⟨go_, 2, none⟩ = some (.string data))) (ds := []) #[false, false, false, false, false, false, false] (by kernel_rfl) rfl rfl hz2.2.2.1 (fun hHeld => ?_)
  refine pure_ (i := 0) (N := some 35) (v := ?_) (a' := ?_) #[true, false, false, false, false, false, false] rfl rfl (by kernel_rfl) (fun _ _ _ h => h) (Or.inl ⟨by rfl, ?_⟩) ?_ ?_
  rotate_left
  · intro w'
    go_simp
    with_reducible rfl
  rotate_left
  · simp only [Act.put, List.setIfInBounds_toArray, List.set_cons_zero, List.set_cons_succ, i64_w, i32_w]
    rfl
  refine take_ (i := 1) (N := some 36) (v := ?_) (a' := ?_) #[true, true, false, false, false, false, false] rfl rfl (by kernel_rfl) (fun _ _ _ h => h) (Or.inl ⟨by rfl, ?_⟩) hHeld ?_ ?_
  rotate_left
  · rintro w' s0
    go_simp
    with_reducible rfl
  rotate_left
  · simp only [Act.put, List.setIfInBounds_toArray, List.set_cons_zero, List.set_cons_succ, i64_w, i32_w]
    rfl
  refine pure_ (i := 2) (N := some 37) (v := ?_) (a' := ?_) #[true, true, true, false, false, false, false] rfl rfl (by kernel_rfl) (fun _ _ _ h => h) (Or.inl ⟨by rfl, ?_⟩) ?_ ?_
  rotate_left
  · intro w'
    go_simp
    with_reducible rfl
  rotate_left
  · simp only [Act.put, List.setIfInBounds_toArray, List.set_cons_zero, List.set_cons_succ, i64_w, i32_w]
    rfl
  refine pure_ (i := 3) (N := some 38) (v := ?_) (a' := ?_) #[true, true, true, true, false, false, false] rfl rfl (by kernel_rfl) (fun _ _ _ h => h) (Or.inl ⟨by rfl, ?_⟩) ?_ ?_
  rotate_left
  · intro w'
    go_simp
    with_reducible rfl
  rotate_left
  · simp only [Act.put, List.setIfInBounds_toArray, List.set_cons_zero, List.set_cons_succ, i64_w, i32_w]
    rfl
  refine one_ (i := 4) (N := some 39) #[true, true, true, true, true, false, false] rfl rfl (by kernel_rfl) (by decide) (fun K hK => ?_)
  refine goes_ Tryz.func59 (by kernel_rfl) rfl #[.pointer (some ⟨p, 0, none⟩)] (by rfl) rfl rfl qA ?_
  (with_reducible refine (room_any HS2.out.drew1 HL.out HD.out.1 HD.out.2.1).mono ?_)
  rintro e w4 ⟨rfl, hb4⟩
  rw [HR.out]
  refine ⟨_, rfl, ?_⟩
  have HS4 := Aside0.mk (HS2.out.drew1.below hb4)
  have BK4 := qK (bbe (bkD BK2.out) hb4)
  have HG4 := Aside0.mk (fun e_ : go_ = g => by
    have := Kd.R_ne HS4.out.2.2.1 BK4.out (by decide)
    rw [e_] at this
    exact this rfl)
  clear hb4
  refine hK.out _ _ (qz4 BK4.out).2.2.1 (fun hHeld => ?_)
  clear hK K
  refine norm_ (a' := ?_) ?_ ?_
  rotate_left
  · show Act.put _ (some 39) _ = _
    simp only [Act.put, List.setIfInBounds_toArray, List.set_cons_zero, List.set_cons_succ, i64_w, i32_w]
    rfl
  refine pure_ (i := 5) (N := some 40) (v := ?_) (a' := ?_) #[true, true, true, true, true, true, false] rfl rfl (by kernel_rfl) (fun _ _ _ h => h) (Or.inl ⟨by rfl, ?_⟩) ?_ ?_
  rotate_left
  · intro w'
    go_simp
    with_reducible rfl
  rotate_left
  · simp only [Act.put, List.setIfInBounds_toArray, List.set_cons_zero, List.set_cons_succ, i64_w, i32_w]
    rfl
  refine pure_ (i := 6) (N := some 7) (v := ?_) (a' := ?_) #[true, true, true, true, true, true, true] rfl rfl (by kernel_rfl) (fun _ _ _ h => h) (Or.inl ⟨by rfl, ?_⟩) ?_ ?_
  rotate_left
  · intro w'
    go_simp
    with_reducible rfl
  rotate_left
  · simp only [Act.put, List.setIfInBounds_toArray, List.set_cons_zero, List.set_cons_succ, i64_w, i32_w]
    rfl
  refine done_ (by kernel_rfl) ?_
  try simp only [if_pos r9]
  try simp only [if_pos HD.out.2.2.2.2]
  clear hz2
  go_upto_region 12 with fail
  obtain ⟨_, d1, _, d3⟩ := (HS4.out.drew 1).elemX HI.out
  have d4 := d3 1
  have hz4 := qz4 (bdN BK4.out 1)
  clear d3
  refine wp_region_still_tail 11 (by kernel_rfl) (by kernel_rfl) ?_
  rw [drew_oneF]
  simp only [List.take_succ_cons, List.take_zero, List.drop_succ_cons, List.drop_zero]
  repeat still_step
  try refine wpStill_nil ?_
  go_upto_region 13 with fail
  have h5 := (HS4.out.drew 1).put1 HI.out (X.f1 ++ data.extract 0 R)
  rw [HT.out] at h5
  have H5 := Aside0.mk h5
  have BK5 := qK (bfa (bdN BK4.out 1) (p := ⟨g, i * 3 + 1, none⟩) HG4.out (.string (X.f1 ++ data.extract 0 R)))
  obtain ⟨W5, hW5⟩ : ∃ x, (w4.drewN 1).setCell ⟨g, i * 3 + 1, none⟩ (.string (X.f1 ++ data.extract 0 R)) = x := ⟨_, rfl⟩
  rw [hW5] at H5 BK5 ⊢
  clear h5 hW5 d1 d4 hz4
  have hz5 := qz4 BK5.out
  go_wp2
  go_ret
  exact ⟨rfl, H5.out⟩
set_option maxHeartbeats 2000000 in
set_option maxRecDepth 100000 in
theorem do_append_fits {w : World} {p : Nat} {v : Value} {cnt cr fa : Int} {dn : Bool} {cap : Int} {W : World} {l : List FileT} (h : SySt w p v cnt cr fa dn cap W l) (hl : l.length ≤ 1000000) (hcn : 0 ≤ cnt ∧ cnt ≤ 1000000000000000) (kind : Int) (name data : ByteArray) (size : Int) (tn : Int) (td : Bool) (ht : tickR cnt cr fa dn = (0, tn, td)) (i : Nat) (g c : Nat) (hv : v = .slice (some ⟨g, 0, none⟩) l.length c) (hf : findN name l 0 = some i) (X : FileT) (hX : l[i]? = some X) (hk : kind = 2) (hcap : (sumF l : Int) ≤ cap) (hcap2 : cap ≤ 1000000000) (hd2 : data.size ≤ 1000000000) (hX2 : X.f1.size ≤ 1000000000) (R : Nat) (hR : cap - (sumF l : Int) = R) (hr : ¬ R < data.size):
    Calls Tryz.prog 41 #[.pointer (some ⟨p, 0, none⟩), .agg #[.int .i64 kind, .string name, .string data, .int .i64 size]] W fun e w' => e = .returned (.int .i64 0) ∧ SySt w p (.slice (some ⟨g, 0, none⟩) l.length c) tn cr fa td cap w' (l.set i ⟨X.f0, (X.f1 ++ data.extract 0 (data.size)), X.f2⟩) := by
  subst hv
  have HF := Aside0.mk hf
  have HI := Aside0.mk hX
  clear hf hX
  have k1 : (kind == 1) = false := by rw [hk]; rfl
  have k2 : (kind == 2) = true := by rw [hk]; rfl
  have k3 : (kind == 3) = false := by rw [hk]; rfl
  have k4 : (kind == 4) = false := by rw [hk]; rfl
  have k5 : (kind == 5) = false := by rw [hk]; rfl
  clear hk
  have HS := Aside0.mk h
  have HL := Aside0.mk hl
  have HC := Aside0.mk hcn
  have HT := Aside0.mk ht
  clear h hl hcn ht
  have HD := Aside0.mk (And.intro hcap (And.intro hcap2 (And.intro hd2 (And.intro hX2 hr))))
  have r1 : decide ((R : Int) < (data.size : Int)) = false := decide_eq_false (by omega)
  have HR := Aside0.mk hR
  have r2 : (0 : Int) ≤ (R : Int) := by omega
  have r3 : (0 : Int) ≤ (data.size : Int) := by omega
  have r4 : (9223372036854775807 < X.f1.size + data.size) = False := eq_false (by omega)
  have r7 : data.extract 0 data.size = data := ByteArray.extract_zero_size
  have HD7 := Aside0.mk r7
  have r9 : ¬ (R : Int) < (data.size : Int) := by omega
  have r5 : (data.size : Int) ≤ (data.size : Int) := by omega
  clear hcap hcap2 hd2 hX2 hR hr
  go_enter Tryz.func41, Tryz.ntmps41
  go_upto_region 11 with (first | ((with_reducible refine gds (N := 3) rfl ?_); refine qbx 3 #[.int .i64 kind, .string name, .string data, .int .i64 size] 48 ?_; intro go_ hg w1 hbox hb; have BK := qK (hbox); have HS1 := Aside0.mk (HS.out.below hb); have HG := Aside0.mk (show go_ ≠ p by have := blt HS.out.1; omega); clear hb hbox hg; have hz := qz4 BK.out) | (go_at_call 56; (with_reducible refine (tick_any HS1.out HC.out).mono ?_); rintro e w2 ⟨rfl, hS2, hG2⟩; have HS2 := Aside0.mk hS2; have BK2 := qK (opBox BK.out HG.out hG2); clear hS2 hG2; rw [HT.out]; have hz2 := qz4 BK2.out) | (go_at_call 58; (with_reducible refine (find_some (n := 0) HS2.out HL.out name i HF.out).mono ?_); rintro e w3 ⟨rfl, rfl⟩))
  refine start_ (n := 7) (S := (fun w' => w'.cell? ⟨go_, 2, none⟩ = some (.string data))) (ds := []) #[false, false, false, false, false, false, false] (by kernel_rfl) rfl rfl hz2.2.2.1 (fun hHeld => ?_)
  refine pure_ (i := 0) (N := some 35) (v := ?_) (a' := ?_) #[true, false, false, false, false, false, false] rfl rfl (by kernel_rfl) (fun _ _ _ h => h) (Or.inl ⟨by rfl, ?_⟩) ?_ ?_
  rotate_left
  · intro w'
    go_simp
    with_reducible rfl
  rotate_left
  · simp only [Act.put, List.setIfInBounds_toArray, List.set_cons_zero, List.set_cons_succ, i64_w, i32_w]
    rfl
  refine take_ (i := 1) (N := some 36) (v := ?_) (a' := ?_) #[true, true, false, false, false, false, false] rfl rfl (by kernel_rfl) (fun _ _ _ h => h) (Or.inl ⟨by rfl, ?_⟩) hHeld ?_ ?_
  rotate_left
  · rintro w' s0
    go_simp
    with_reducible rfl
  rotate_left
  · simp only [Act.put, List.setIfInBounds_toArray, List.set_cons_zero, List.set_cons_succ, i64_w, i32_w]
    rfl
  refine pure_ (i := 2) (N := some 37) (v := ?_) (a' := ?_) #[true, true, true, false, false, false, false] rfl rfl (by kernel_rfl) (fun _ _ _ h => h) (Or.inl ⟨by rfl, ?_⟩) ?_ ?_
  rotate_left
  · intro w'
    go_simp
    with_reducible rfl
  rotate_left
  · simp only [Act.put, List.setIfInBounds_toArray, List.set_cons_zero, List.set_cons_succ, i64_w, i32_w]
    rfl
  refine pure_ (i := 3) (N := some 38) (v := ?_) (a' := ?_) #[true, true, true, true, false, false, false] rfl rfl (by kernel_rfl) (fun _ _ _ h => h) (Or.inl ⟨by rfl, ?_⟩) ?_ ?_
  rotate_left
  · intro w'
    go_simp
    with_reducible rfl
  rotate_left
  · simp only [Act.put, List.setIfInBounds_toArray, List.set_cons_zero, List.set_cons_succ, i64_w, i32_w]
    rfl
  refine one_ (i := 4) (N := some 39) #[true, true, true, true, true, false, false] rfl rfl (by kernel_rfl) (by decide) (fun K hK => ?_)
  refine goes_ Tryz.func59 (by kernel_rfl) rfl #[.pointer (some ⟨p, 0, none⟩)] (by rfl) rfl rfl qA ?_
  (with_reducible refine (room_any HS2.out.drew1 HL.out HD.out.1 HD.out.2.1).mono ?_)
  rintro e w4 ⟨rfl, hb4⟩
  rw [HR.out]
  refine ⟨_, rfl, ?_⟩
  have HS4 := Aside0.mk (HS2.out.drew1.below hb4)
  have BK4 := qK (bbe (bkD BK2.out) hb4)
  have HG4 := Aside0.mk (fun e_ : go_ = g => by
    have := Kd.R_ne HS4.out.2.2.1 BK4.out (by decide)
    rw [e_] at this
    exact this rfl)
  clear hb4
  refine hK.out _ _ (qz4 BK4.out).2.2.1 (fun hHeld => ?_)
  clear hK K
  refine norm_ (a' := ?_) ?_ ?_
  rotate_left
  · show Act.put _ (some 39) _ = _
    simp only [Act.put, List.setIfInBounds_toArray, List.set_cons_zero, List.set_cons_succ, i64_w, i32_w]
    rfl
  refine pure_ (i := 5) (N := some 40) (v := ?_) (a' := ?_) #[true, true, true, true, true, true, false] rfl rfl (by kernel_rfl) (fun _ _ _ h => h) (Or.inl ⟨by rfl, ?_⟩) ?_ ?_
  rotate_left
  · intro w'
    go_simp
    with_reducible rfl
  rotate_left
  · simp only [Act.put, List.setIfInBounds_toArray, List.set_cons_zero, List.set_cons_succ, i64_w, i32_w]
    rfl
  refine pure_ (i := 6) (N := some 7) (v := ?_) (a' := ?_) #[true, true, true, true, true, true, true] rfl rfl (by kernel_rfl) (fun _ _ _ h => h) (Or.inl ⟨by rfl, ?_⟩) ?_ ?_
  rotate_left
  · intro w'
    go_simp
    with_reducible rfl
  rotate_left
  · simp only [Act.put, List.setIfInBounds_toArray, List.set_cons_zero, List.set_cons_succ, i64_w, i32_w]
    rfl
  refine done_ (by kernel_rfl) ?_
  try simp only [if_neg (Int.not_lt.mpr r9)]
  try simp only [if_neg HD.out.2.2.2.2]
  clear hz2 r9 r2 r1
  go_upto_region 12 with fail
  obtain ⟨_, d1, _, d3⟩ := (HS4.out.drew 1).elemX HI.out
  have d4 := d3 1
  have hz4 := qz4 (bdN BK4.out 1)
  clear d3
  refine wp_region_still_tail 11 (by kernel_rfl) (by kernel_rfl) ?_
  rw [drew_oneF]
  simp only [List.take_succ_cons, List.take_zero, List.drop_succ_cons, List.drop_zero]
  repeat still_step
  try refine wpStill_nil ?_
  go_upto_region 13 with fail
  have h5 := (HS4.out.drew 1).put1 HI.out (X.f1 ++ data)
  rw [HT.out] at h5
  have H5 := Aside0.mk h5
  have BK5 := qK (bfa (bdN BK4.out 1) (p := ⟨g, i * 3 + 1, none⟩) HG4.out (.string (X.f1 ++ data)))
  obtain ⟨W5, hW5⟩ : ∃ x, (w4.drewN 1).setCell ⟨g, i * 3 + 1, none⟩ (.string (X.f1 ++ data)) = x := ⟨_, rfl⟩
  rw [hW5] at H5 BK5 ⊢
  clear h5 hW5 d1 d4 hz4
  have hz5 := qz4 BK5.out
  go_wp2
  go_ret
  first | exact ⟨rfl, H5.out⟩ | (rw [HD7.out]; exact ⟨rfl, H5.out⟩)
def keepN (name : ByteArray) (l : List FileT) : List FileT := l.filter fun x => !(x.f0.toList == name.toList)
set_option maxHeartbeats 2000000 in
set_option maxRecDepth 100000 in
theorem do_delete {w : World} {p : Nat} {v : Value} {cnt cr fa : Int} {dn : Bool} {cap : Int} {W : World} {l : List FileT} (h : SySt w p v cnt cr fa dn cap W l) (hl : l.length ≤ 1000000) (hcn : 0 ≤ cnt ∧ cnt ≤ 1000000000000000) (kind : Int) (name data : ByteArray) (size : Int) (tn : Int) (td : Bool) (ht : tickR cnt cr fa dn = (0, tn, td)) (i : Nat) (g c : Nat) (hv : v = .slice (some ⟨g, 0, none⟩) l.length c) (hf : findN name l 0 = some i) (X : FileT) (hX : l[i]? = some X) (hk : kind = 5) :
    Calls Tryz.prog 41 #[.pointer (some ⟨p, 0, none⟩), .agg #[.int .i64 kind, .string name, .string data, .int .i64 size]] W fun e w' => ∃ v', e = .returned (.int .i64 0) ∧ SySt w p v' tn cr fa td cap w' (keepN name l) := by
  subst hv
  have HF := Aside0.mk hf
  have HI := Aside0.mk hX
  clear hf hX
  have k1 : (kind == 1) = false := by rw [hk]; rfl
  have k2 : (kind == 2) = false := by rw [hk]; rfl
  have k3 : (kind == 3) = false := by rw [hk]; rfl
  have k4 : (kind == 4) = false := by rw [hk]; rfl
  have k5 : (kind == 5) = true := by rw [hk]; rfl
  clear hk
  have HS := Aside0.mk h
  have HL := Aside0.mk hl
  have HC := Aside0.mk hcn
  have HT := Aside0.mk ht
  clear h hl hcn ht
  have HPW := Aside0.mk (blt HS.out.1)
  go_enter Tryz.func41, Tryz.ntmps41
  go_wp2_with (first | ((with_reducible refine gds (N := 3) rfl ?_); refine qbx 3 #[.int .i64 kind, .string name, .string data, .int .i64 size] 48 ?_; intro go_ hg w1 hbox hb; have BK := qK (hbox); have HS1 := Aside0.mk (HS.out.below hb); have HG := Aside0.mk (show go_ ≠ p by have := blt HS.out.1; omega); clear hb hbox hg; have hz := qz4 BK.out) | (go_at_call 56; (with_reducible refine (tick_any HS1.out HC.out).mono ?_); rintro e w2 ⟨rfl, hS2, hG2⟩; have HS2 := Aside0.mk hS2; have BK2 := qK (opBox BK.out HG.out hG2); clear hS2 hG2; rw [HT.out]; have hz2 := qz4 BK2.out) | (go_at_call 58; (with_reducible refine (find_some (n := 0) HS2.out HL.out name i HF.out).mono ?_); rintro e w3 ⟨rfl, rfl⟩) | ((with_reducible refine gds (N := 69) rfl ?_); refine Kd.R_lit FileK (w0 := w3) w3.heap.size 61 ?hg (N := 69) ?hd (xs := ([] : List FileT)) (inner := []) (ok := fun _ => True) (okp := fun _ => True) ?hr ?hp (fun _ hk => hk) trivial ?hb ?hz (by simp) ?_; (case hd => rfl); (case hg => rfl); (case hr => first | (go_simp; done) | (go_simp; rfl)); (case hp => exact (Reps.none _ _)); (case hb => exact Below.refl _ _); (case hz => exact Nat.le_refl _); intro v1 w6 ho1 hb1 hg1 hn1; have HO1 := Aside0.mk ho1; have HB1 := Aside0.mk hb1; clear ho1 hb1 hg1 hn1; have h46 := ((HS2.out.below HB1.out).cells.1).2.2.2.2.1))
  go_loopg [8, 75] l.length (fun k s8 s75 wx => ∃ (ii : Nat) (xs : List FileT), ii + k = l.length ∧ s75 = .int .i64 ii ∧ Aside0 (FileK.R 61 wx w3.heap.size (fun _ => True) s8 xs) ∧ Aside0 (xs ++ keepN name (l.drop ii) = keepN name l) ∧ Aside0 (Below w3.heap.size w3 wx))
  case atStart => exact ⟨0, [], by omega, rfl, HO1, ⟨by rw [List.drop_zero, List.nil_append]⟩, HB1⟩
  case round =>
    clear h46 hz2 hz HO1 HB1
    obtain ⟨ii, xs, hig, rfl, HO, HE, HBL⟩ := hrel
    have HSL := Aside0.mk (HS2.out.below HBL.out)
    cases gk with
    | zero =>
      obtain rfl : ii = l.length := by omega
      obtain ⟨A8, c8, rfl⟩ := Kd.R_slice HO.out
      have h4 := (HSL.out.cells.1).2.2.2.2.1
      have hf4 := HSL.out.cells.2 4
      go_wp2
      go_ret
      have hx : xs = keepN name l := by
        have := HE.out
        rw [List.drop_length] at this
        simpa [keepN] using this
      have hSL := HSL.out
      rw [HT.out] at hSL
      refine ⟨.slice A8 xs.length c8, rfl, by simpa [sysRow] using blk_set hSL.1 4 (.slice A8 xs.length c8), hSL.2.1, ?_, bse hSL.2.2.2 hSL.2.1⟩
      rw [← hx]
      refine Kd.R_step (Kd.Rlo (Kd.Rmo (Kd.R_bound HO.out) fun k hk => ?_) HS2.out.2.2.2.size) fun k hk _ => Below.heap_setCell wr ⟨p, 4, none⟩ (.slice A8 xs.length c8) k hk
      have h9 := blt HS2.out.1
      have h8 := hk.2.1
      omega
    | succ k1 =>
      have hi : ii < l.length := by omega
      obtain ⟨Y, hY⟩ : ∃ Y, l[ii]? = some Y := ⟨_, List.getElem?_eq_getElem hi⟩
      have HY := Aside0.mk hY
      have BKL := qK (bbe BK2.out HBL.out)
      obtain ⟨hx0, hx1, hx2, _⟩ := HSL.out.elemX hY
      have hiz : (ii : Int) < (l.length : Int) := by omega
      have hi0 : (0 : Int) ≤ (ii : Int) := by omega
      have hlim : (ii : Int) ≤ 1000000 := by have := HL.out; omega
      have HLX := Aside0.mk (show xs.length ≤ 1000000 by
        have h1 := congrArg List.length HE.out
        have h2 : (keepN name l).length ≤ l.length := List.length_filter_le _ _
        rw [List.length_append] at h1
        have := HL.out
        omega)
      have HD := Aside0.mk (show keepN name (l.drop ii) = (if Y.f0.toList = name.toList then [] else [Y]) ++ keepN name (l.drop (ii + 1)) by
        have : l.drop ii = Y :: l.drop (ii + 1) := by
          rw [List.drop_eq_getElem_cons hi]
          congr 1
          have := List.getElem?_eq_getElem hi
          rw [hY] at this
          exact (Option.some.inj this).symm
        rw [this]
        by_cases e : Y.f0.toList = name.toList <;> simp [keepN, List.filter_cons, e])
      clear hY
      by_cases ce : Y.f0.toList = name.toList
      · have c0 : (Y.f0.toList != name.toList) = false := bne_eq_false_iff_eq.mpr ce
        have c1 : (Y.f0.toList == name.toList) = true := beq_iff_eq.mpr ce
        have HC9 := Aside0.mk ce
        clear ce
        go_wp2_with (first | ((with_reducible refine gds (N := 10) rfl ?_); refine qbx 10 #[.string (⟨#[]⟩ : ByteArray), .string (⟨#[]⟩ : ByteArray), .int .i64 0] 61 ?_; intro gb hg w7 hbox hb; have BKF := qK (hbox); have HOF := Aside0.mk (Kd.Rbe (Kd.R_elderB HO.out gb (by rw [hg]; exact Nat.le_refl _)) hb); have NBF := Aside0.mk (show go_ ≠ gb by have := blt BKL.out; omega); have BKG := qK (bbe BKL.out hb); have HBF := Aside0.mk (bst HBL.out hb); have GWF := Aside0.mk (show w3.heap.size ≤ gb by rw [hg]; exact HBL.out.size); clear hb hbox hg; have hz9 := qz3 BKF.out; have hzg := qz4 BKG.out; have hnb := NBF.out; have hnc := (fun e => NBF.out e.symm : gb ≠ go_)))
        go_roundg k1
        case measure => omega
        case rel =>
          refine ⟨ii + 1, xs, by omega, by simp, ⟨Kd.Rmo (Kd.Rfa (p := ⟨gb, 2, none⟩) (Kd.Rfa (p := ⟨gb, 1, none⟩) (Kd.Rfa (p := ⟨gb, 0, none⟩) HOF.out (fun _ hk => hk.2) (.string Y.f0)) (fun _ hk => hk.2) (.string Y.f1)) (fun _ hk => hk.2) (.int .i64 Y.f2)) (fun _ _ => trivial)⟩, ⟨?_⟩, ⟨(bse (bse (bse HBF.out GWF.out (j := 0) (v := .string Y.f0)) GWF.out (j := 1) (v := .string Y.f1)) GWF.out (j := 2) (v := .int .i64 Y.f2))⟩⟩
          rw [← HE.out, HD.out, if_pos HC9.out, List.nil_append]
      · have c0 : (Y.f0.toList != name.toList) = true := bne_iff_ne.mpr ce
        have c1 : (Y.f0.toList == name.toList) = false := beq_eq_false_iff_ne.mpr ce
        have HC9 := Aside0.mk ce
        clear ce
        go_wp2_with (first | ((with_reducible refine gds (N := 10) rfl ?_); refine qbx 10 #[.string (⟨#[]⟩ : ByteArray), .string (⟨#[]⟩ : ByteArray), .int .i64 0] 61 ?_; intro gb hg w7 hbox hb; have BKF := qK (hbox); have HOF := Aside0.mk (Kd.Rbe (Kd.R_elderB HO.out gb (by rw [hg]; exact Nat.le_refl _)) hb); have NBF := Aside0.mk (show go_ ≠ gb by have := blt BKL.out; omega); have BKG := qK (bbe BKL.out hb); have HBF := Aside0.mk (bst HBL.out hb); have GWF := Aside0.mk (show w3.heap.size ≤ gb by rw [hg]; exact HBL.out.size); clear hb hbox hg; have hz9 := qz3 BKF.out; have hzg := qz4 BKG.out; have hnb := NBF.out; have hnc := (fun e => NBF.out e.symm : gb ≠ go_)) | ((with_reducible refine gbu (b := .append) (xs := #[.tmp 84, .tmp 86]) rfl ?_); at_builtin; refine Kd.R_append FileK (w0 := w3) w3.heap.size rfl (.tmp 84) (.tmp 86) 28 61 (.agg #[(.string ⟨#[]⟩), (.string ⟨#[]⟩), (.int .i64 0)]) 40 rfl Tryz.underlying28 info61 rfl (by decide) (by omega) u8 xs (⟨Y.f0, Y.f1, Y.f2⟩ : FileT) [.string Y.f0, .string Y.f1, .int .i64 Y.f2] (fun k_ => True ∧ k_ ≠ gb) (fun _ => False) rfl (by first | rfl | (show Value.slice (some ⟨w7.heap.size, 0, none⟩) 1 1 = _; simp [World.setCell])) ?aP (fun _ hk => hk.elim) ?aF ?aO ?aB ?aS ?aL ?_; (case aP => exact k61_mkM _ _ _ (⟨Y.f0, Y.f1, Y.f2⟩ : FileT)); (case aB => exact (bse (bse (bse HBF.out GWF.out (j := 0) (v := .string Y.f0)) GWF.out (j := 1) (v := .string Y.f1)) GWF.out (j := 2) (v := .int .i64 Y.f2))); (case aF => exact (fun k_ hk => ⟨trivial, fun e_ => by have h1 := blt BKF.out; rw [e_] at hk; simp [World.setCell] at hk; omega⟩)); (case aO => exact (Kd.Rfa (p := ⟨gb, 2, none⟩) (Kd.Rfa (p := ⟨gb, 1, none⟩) (Kd.Rfa (p := ⟨gb, 0, none⟩) HOF.out (fun _ hk => hk.2) (.string Y.f0)) (fun _ hk => hk.2) (.string Y.f1)) (fun _ hk => hk.2) (.int .i64 Y.f2))); (case aS => exact ((bse (bse (bse HBF.out GWF.out (j := 0) (v := .string Y.f0)) GWF.out (j := 1) (v := .string Y.f1)) GWF.out (j := 2) (v := .int .i64 Y.f2))).size); (case aL => have := HLX.out; omega); intro v151 w38 ho hb hg hat; have HO2 := qK (ho); have HB2 := qK (hb); clear ho hb hg hat))
        go_roundg k1
        case measure => omega
        case rel =>
          refine ⟨ii + 1, xs ++ [Y], by omega, by simp, ⟨Kd.Rmo HO2.out (fun _ _ => trivial)⟩, ⟨?_⟩, ⟨HB2.out⟩⟩
          rw [← HE.out, HD.out, if_neg HC9.out, List.append_assoc]
end Go.Proofs.YtfknmohedlfmfaaGreatDoor.L
end
section
set_option linter.unusedVariables false
set_option linter.unusedSimpArgs false
namespace Go.Proofs.YtfknmohedlfmfaaGreatDoor.L
open Go Go.RowKit Go.Proofs Go.Proofs.YtfknmohedlfmfaaGreatDoor Go.Proofs.YtfknmohedlfmfaaGreatDoorW.PrintWords Go.Proofs.YtfknmohedlfmfaaGreatDoorW.PrintLast Go.Proofs.YtfknmohedlfmfaaGreatDoorW.PrintMore
theorem fileLt_irrefl (x : FileT) : fileLt x x = false := swo_file.irrefl x
theorem fileLt_asymm {x y : FileT} (h : fileLt x y = true) : fileLt y x = false := by
  cases h2 : fileLt y x with
  | false => rfl
  | true => have := swo_file.trans x y x h h2; rw [swo_file.irrefl] at this; cases this
theorem fileLt_eq {x y : FileT} (h : fileLt x y = false) (h2 : fileLt y x = false) : x.f0.toList = y.f0.toList := by
  unfold fileLt at h h2
  rw [bytesLess_eq, decide_eq_false_iff_not] at h h2
  exact List.le_antisymm (List.not_lt.1 h2) (List.not_lt.1 h)
theorem fileLt_name {x y : FileT} (h : x.f0.toList = y.f0.toList) : fileLt x y = false := by
  have := fileLt_irrefl x
  unfold fileLt at this ⊢
  rw [← h]
  exact this
/-- A file put where its name belongs. -/
def insN : List FileT → FileT → List FileT
  | [], x => [x]
  | y :: r, x => if fileLt y x = true then y :: insN r x else x :: y :: r
theorem insN_perm (l : List FileT) (x : FileT) : (insN l x).Perm (x :: l) := by
  induction l with
  | nil => exact List.Perm.refl _
  | cons y r ih =>
    rw [insN]
    split
    · exact (ih.cons y).trans (List.Perm.swap x y r)
    · exact List.Perm.refl _
abbrev SortedF (l : List FileT) : Prop := l.Pairwise fun x y => fileLt x y = true
theorem insN_sorted (l : List FileT) (x : FileT) (hs : SortedF l) (hn : ∀ y ∈ l, y.f0.toList ≠ x.f0.toList) : SortedF (insN l x) := by
  induction l with
  | nil => exact List.pairwise_singleton _ _
  | cons y r ih =>
    obtain ⟨h1, h2⟩ := List.pairwise_cons.1 hs
    rw [insN]
    by_cases c : fileLt y x = true
    · rw [if_pos c]
      refine List.pairwise_cons.2 ⟨fun z hz => ?_, ih h2 (fun z hz => hn z (List.mem_cons_of_mem _ hz))⟩
      rcases List.mem_cons.1 ((insN_perm r x).mem_iff.1 hz) with rfl | hz
      · exact c
      · exact h1 z hz
    · rw [if_neg c]
      have hxy : fileLt x y = true := by
        cases h : fileLt x y with
        | true => rfl
        | false => exact absurd (fileLt_eq (Bool.eq_false_iff.2 c) h) (hn y List.mem_cons_self)
      refine List.pairwise_cons.2 ⟨fun z hz => ?_, hs⟩
      rcases List.mem_cons.1 hz with rfl | hz
      · exact hxy
      · exact swo_file.trans x y z hxy (h1 z hz)
theorem sorted_inj {l : List FileT} (hs : SortedF l) {a b : FileT} (ha : a ∈ l) (hb : b ∈ l) (h : a.f0.toList = b.f0.toList) : a = b := by
  induction l with
  | nil => cases ha
  | cons y r ih =>
    obtain ⟨h1, h2⟩ := List.pairwise_cons.1 hs
    rcases List.mem_cons.1 ha with ea | ha' <;> rcases List.mem_cons.1 hb with eb | hb'
    · rw [ea, eb]
    · have := h1 b hb'
      rw [← ea, fileLt_name h] at this
      cases this
    · have := h1 a ha'
      rw [← eb, fileLt_name h.symm] at this
      cases this
    · exact ih h2 ha' hb'
/-- What sort.Slice has made is that. -/
theorem insN_unique {l l' : List FileT} {x : FileT} (hs : SortedF l) (hn : ∀ y ∈ l, y.f0.toList ≠ x.f0.toList) (hp : l'.Perm (l ++ [x])) (hso : l'.Pairwise (fun a b => fileLt b a = false)) : l' = insN l x := by
  have hS := insN_sorted l x hs hn
  have hp2 : l'.Perm (insN l x) := hp.trans ((List.perm_append_comm (l₁ := l) (l₂ := [x])).trans (insN_perm l x).symm)
  refine List.Perm.eq_of_pairwise (le := fun a b => fileLt b a = false) (fun a b ha hb h1 h2 => ?_) hso (hS.imp fun h => fileLt_asymm h) hp2
  exact sorted_inj hS (hp2.mem_iff.1 ha) hb (fileLt_eq h2 h1)
theorem findN_none {name : ByteArray} {l : List FileT} {k : Nat} (h : findN name l k = none) : ∀ y ∈ l, y.f0.toList ≠ name.toList := by
  induction l generalizing k with
  | nil => intro y hy; cases hy
  | cons x r ih =>
    rw [findN] at h
    by_cases c : x.f0.toList = name.toList
    · rw [if_pos c] at h; cases h
    · rw [if_neg c] at h
      intro y hy
      rcases List.mem_cons.1 hy with rfl | hy
      · exact c
      · exact ih h y hy
/-- The operation on the files: the files, the code. -/
def doN (l : List FileT) (cap kind : Int) (name data : ByteArray) (size : Int) : List FileT × Int :=
  if kind = 1 then (if (findN name l 0).isSome = true then (l, 15) else if 300 ≤ l.length then (l, 13) else (insN l (⟨name, (⟨#[]⟩ : ByteArray), 0⟩ : FileT), 0))
  else match findN name l 0 with
    | none => (l, 14)
    | some i => match l[i]? with
      | none => (l, 14)
      | some X =>
        if kind = 2 then (if (cap - (sumF l : Int)).toNat < data.size then (l.set i ⟨X.f0, X.f1 ++ data.extract 0 (cap - (sumF l : Int)).toNat, X.f2⟩, 13) else (l.set i ⟨X.f0, X.f1 ++ data, X.f2⟩, 0))
        else if kind = 3 then (l.set i ⟨X.f0, X.f1, (X.f1.size : Int)⟩, 0)
        else if kind = 4 then (if size < 0 ∨ (X.f1.size : Int) < size then (l, 16) else (l.set i ⟨X.f0, X.f1.extract 0 size.toNat, size⟩, 0))
        else (keepN name l, 0)
/-- What the walk asks of the files and numbers. -/
def stepOk (l : List FileT) (cap cnt : Int) (data : ByteArray) : Bool :=
  decide (l.length ≤ 1000000) && (decide ((sumF l : Int) ≤ cap) && (decide (cap ≤ 1000000000) && (decide (0 ≤ cnt ∧ cnt ≤ 1000000000000000) && (decide (data.size ≤ 1000000000) && (l.all (fun x => decide (x.f1.size ≤ 1000000000)) && decide (SortedF l))))))
theorem do_any {w : World} {p : Nat} {v : Value} {cnt cr fa : Int} {dn : Bool} {cap : Int} {W : World} {l : List FileT} (h : SySt w p v cnt cr fa dn cap W l) (kind : Int) (name data : ByteArray) (size : Int) (hok : stepOk l cap cnt data = true) (hk : 1 ≤ kind ∧ kind ≤ 5)
    (tn : Int) (td : Bool) (ht : tickR cnt cr fa dn = (0, tn, td)) :
    Calls Tryz.prog 41 #[.pointer (some ⟨p, 0, none⟩), .agg #[.int .i64 kind, .string name, .string data, .int .i64 size]] W fun e w' =>
      ∃ v', e = .returned (.int .i64 (doN l cap kind name data size).2) ∧ SySt w p v' tn cr fa td cap w' (doN l cap kind name data size).1 := by
  unfold stepOk at hok
  simp only [Bool.and_eq_true, decide_eq_true_eq, List.all_eq_true] at hok
  obtain ⟨hl, hcap, hcap2, hcn, hd, hX, hs⟩ := hok
  unfold doN
  by_cases k1 : kind = 1
  · rw [if_pos k1]
    refine (do_create h hl hcn kind name data size tn td ht k1).mono fun e w' hp => ?_
    obtain ⟨code, l', v', he, hr, hS⟩ := hp
    refine ⟨v', ?_⟩
    rcases hr with ⟨hf, rfl, rfl⟩ | ⟨hf, h3, rfl, rfl⟩ | ⟨hf, h3, rfl, hp, hso⟩
    · have : (findN name l' 0).isSome = true := by
        cases hq : findN name l' 0 with
        | none => exact absurd hq hf
        | some i => rfl
      rw [if_pos this]
      exact ⟨he, hS⟩
    · rw [hf, if_neg (by simp), if_pos h3]
      exact ⟨he, hS⟩
    · rw [hf, if_neg (by simp), if_neg (by omega)]
      refine ⟨he, ?_⟩
      rw [← insN_unique hs (fun y hy => findN_none hf y hy) hp hso]
      exact hS
  · rw [if_neg k1]
    cases hf : findN name l 0 with
    | none => exact (do_none h hl hcn kind name data size tn td ht k1 hf).mono fun e w' hp => ⟨v, hp⟩
    | some i =>
      have hi := findN_lt hf
      have hi2 : i < l.length := by omega
      obtain ⟨X, hXi⟩ : ∃ X, l[i]? = some X := ⟨_, List.getElem?_eq_getElem hi2⟩
      obtain ⟨g, c, hv⟩ := h.form (by omega)
      have hXs : X.f1.size ≤ 1000000000 := by
        obtain ⟨_, e⟩ := List.getElem?_eq_some_iff.1 hXi
        rw [← e]
        exact hX _ (List.getElem_mem hi2)
      simp only [hXi]
      by_cases k2 : kind = 2
      · simp only [if_pos k2]
        have hR : cap - (sumF l : Int) = ((cap - (sumF l : Int)).toNat : Int) := by omega
        by_cases hr : (cap - (sumF l : Int)).toNat < data.size
        · simp only [if_pos hr]
          exact (do_append_full h hl hcn kind name data size tn td ht i g c hv hf X hXi k2 hcap hcap2 hd hXs _ hR hr).mono fun e w' hp => ⟨_, hp⟩
        · simp only [if_neg hr]
          have := do_append_fits h hl hcn kind name data size tn td ht i g c hv hf X hXi k2 hcap hcap2 hd hXs _ hR hr
          rw [show data.extract 0 data.size = data from ByteArray.extract_zero_size] at this
          exact this.mono fun e w' hp => ⟨_, hp⟩
      · by_cases k3 : kind = 3
        · simp only [if_neg k2, if_pos k3]
          exact (do_sync h hl hcn kind name data size tn td ht i g c hv hf X hXi k3).mono fun e w' hp => ⟨_, hp⟩
        · by_cases k4 : kind = 4
          · simp only [if_neg k2, if_neg k3, if_pos k4]
            by_cases hb : size < 0 ∨ (X.f1.size : Int) < size
            · simp only [if_pos hb]
              exact (do_trunc_bad h hl hcn kind name data size tn td ht i g c hv hf X hXi k4 hb).mono fun e w' hp => ⟨_, hp⟩
            · simp only [if_neg hb]
              exact (do_trunc h hl hcn kind name data size tn td ht i g c hv hf X hXi k4 (by omega) (by omega)).mono fun e w' hp => ⟨_, hp⟩
          · simp only [if_neg k2, if_neg k3, if_neg k4]
            exact (do_delete h hl hcn kind name data size tn td ht i g c hv hf X hXi (by omega)).mono fun e w' hp => hp
end Go.Proofs.YtfknmohedlfmfaaGreatDoor.L
end
section
set_option linter.unusedVariables false
set_option linter.unusedSimpArgs false
namespace Go.Proofs.YtfknmohedlfmfaaGreatDoor.L
open Go Go.RowKit Go.Proofs Go.Proofs.YtfknmohedlfmfaaGreatDoor Go.Proofs.YtfknmohedlfmfaaGreatDoorW.PrintWords Go.Proofs.YtfknmohedlfmfaaGreatDoorW.PrintLast Go.Proofs.YtfknmohedlfmfaaGreatDoorW.PrintMore
theorem infoOp : (Tryz.prog.info? 48).map (·.size) = some 4 := by kernel_rfl
/-- The files, the count, down, the code behind an operation. -/
def stepN (l : List FileT) (cap cnt cr fa : Int) (dn : Bool) (kind : Int) (name data : ByteArray) (size : Int) : List FileT × Int × Bool × Int :=
  if (tickR cnt cr fa dn).1 = 0 then ((doN l cap kind name data size).1, (tickR cnt cr fa dn).2.1, (tickR cnt cr fa dn).2.2, (doN l cap kind name data size).2)
  else (l, (tickR cnt cr fa dn).2.1, (tickR cnt cr fa dn).2.2, (tickR cnt cr fa dn).1)
theorem do_whole {w : World} {p : Nat} {v : Value} {cnt cr fa : Int} {dn : Bool} {cap : Int} {W : World} {l : List FileT} (h : SySt w p v cnt cr fa dn cap W l) {kind : Int} {name data : ByteArray} {size : Int} (hok : stepOk l cap cnt data = true) (hk : 1 ≤ kind ∧ kind ≤ 5)
    {l' : List FileT} {tn : Int} {td : Bool} {code : Int} (hs : stepN l cap cnt cr fa dn kind name data size = (l', tn, td, code)) :
    Calls Tryz.prog 41 #[.pointer (some ⟨p, 0, none⟩), .agg #[.int .i64 kind, .string name, .string data, .int .i64 size]] W fun e w' =>
      ∃ v', e = .returned (.int .i64 code) ∧ SySt w p v' tn cr fa td cap w' l' := by
  have hok2 := hok
  unfold stepOk at hok2
  simp only [Bool.and_eq_true, decide_eq_true_eq, List.all_eq_true] at hok2
  obtain ⟨hl, hcap, hcap2, hcn, hd, hX, hsd⟩ := hok2
  obtain ⟨a, b, d, ht⟩ : ∃ a b d, tickR cnt cr fa dn = (a, b, d) := ⟨_, _, _, rfl⟩
  unfold stepN at hs
  rw [ht] at hs
  by_cases h0 : a = 0
  · subst h0
    rw [if_pos rfl] at hs
    simp only [Prod.mk.injEq] at hs
    obtain ⟨rfl, rfl, rfl, rfl⟩ := hs
    exact do_any h kind name data size hok hk _ _ ht
  · rw [if_neg h0] at hs
    simp only [Prod.mk.injEq] at hs
    obtain ⟨rfl, rfl, rfl, rfl⟩ := hs
    exact (do_tick h hl hcn kind name data size _ _ _ ht h0).mono fun e w' hp => ⟨v, hp⟩
set_option maxHeartbeats 8000000 in
set_option maxRecDepth 100000 in
theorem step_any (A : Option Addr) (c : Nat) (l : List FileT) (cap cnt cr fa : Int) (dn : Bool) (kind : Int) (name data : ByteArray) (size : Int) (w : World)
    (hr : Kd.C FileK w A l.length l) (hc : l.length ≤ c) (hok : stepOk l cap cnt data = true) (hk : 1 ≤ kind ∧ kind ≤ 5)
    (hval : ∀ w', Kd.C FileK w' A l.length l → Calls Tryz.prog 39 #[.agg #[.slice A l.length c, .int .i64 cap, .int .i64 cnt, .int .i64 cr, .int .i64 fa, .bool dn]] w' fun e w'' => e = .returned (.bool true) ∧ Below w'.heap.size w' w'')
    (hname : ∀ w', Calls Tryz.prog 40 #[.string name] w' fun e w'' => e = .returned (.bool true) ∧ Drawn0 w' w'')
    (l' : List FileT) (tn : Int) (td : Bool) (code : Int) (hs : stepN l cap cnt cr fa dn kind name data size = (l', tn, td, code)) :
    Calls Tryz.prog 23 #[.agg #[.slice A l.length c, .int .i64 cap, .int .i64 cnt, .int .i64 cr, .int .i64 fa, .bool dn], .agg #[.int .i64 kind, .string name, .string data, .int .i64 size]] w fun e w' =>
      ∃ v0_ : Value, e = .returned (.tuple #[.agg #[v0_, .int .i64 cap, .int .i64 tn, .int .i64 cr, .int .i64 fa, .bool td], .int .i64 code]) ∧ Kd.R FileK 61 w' w.heap.size (fun _ => True) v0_ l' ∧ Below w.heap.size w w' := by
  have HR := Aside0.mk hr
  have HC := Aside0.mk hc
  have HV := Aside0.mk hval
  have HN := Aside0.mk hname
  have HOK := Aside0.mk hok
  have HL := Aside0.mk (show l.length ≤ 2000000 by unfold stepOk at hok; simp only [Bool.and_eq_true, decide_eq_true_eq] at hok; exact Nat.le_trans hok.1 (by decide))
  have HK := Aside0.mk hk
  have HST := Aside0.mk hs
  have k1 : decide (kind < 1) = false := decide_eq_false (by omega)
  have k5 : decide (5 < kind) = false := decide_eq_false (by omega)
  clear hr hc hval hname hok hs hk
  go_enter Tryz.func23, Tryz.ntmps23
  go_wp2_with (first | ((with_reducible refine gds (N := 2) rfl ?_); refine qbx 2 #[.slice A l.length c, .int .i64 cap, .int .i64 cnt, .int .i64 cr, .int .i64 fa, .bool dn] 30 ?_; intro gb hg w1 hbox hb; have HB := Aside0.mk hb; have HX := Aside0.mk hbox; clear hb hbox hg) | ((with_reducible refine gds (N := 3) rfl ?_); refine qbx 3 #[.int .i64 kind, .string name, .string data, .int .i64 size] 48 ?_; intro go_ hg w2 hbox hb; have HX2 := Aside0.mk (bbe HX.out hb); have HO2 := Aside0.mk hbox; have HB2 := Aside0.mk (bst HB.out hb); clear hb hbox hg) | ((with_reducible refine gds (N := 4) rfl ?_); refine qbx 4 #[.slice none 0 0, .int .i64 0, .int .i64 0, .int .i64 0, .int .i64 0, .bool false] 30 ?_; intro gr hg w3 hbox hb; have HX3 := Aside0.mk (bbe HX2.out hb); have HO3 := Aside0.mk (bbe HO2.out hb); have HY3 := Aside0.mk hbox; have HB3 := Aside0.mk (bst HB2.out hb); have HG3 := Aside0.mk (Nat.le_trans HB2.out.size (Nat.le_of_eq hg.symm)); clear hb hbox hg) | ((with_reducible refine gds (N := 8) rfl ?_); refine wpList_load_row rfl 30 (.tmp 2) rfl gb ?hp 30 #[.slice A l.length c, .int .i64 cap, .int .i64 cnt, .int .i64 cr, .int .i64 fa, .bool dn] (0, 0) _ ?hg Tryz.underlying30 ?ha ?hi ?_; (case hp => rfl); (case hg => exact HX3.out); (case ha => rfl); (case hi => exact infoFs)) | (go_at_call 39; (with_reducible refine (HV.out _ (Kd.Cbe HR.out HB3.out)).mono ?_); rintro e w4 ⟨rfl, hb⟩; have HX4 := Aside0.mk (bbe HX3.out hb); have HO4 := Aside0.mk (bbe HO3.out hb); have HY4 := Aside0.mk (bbe HY3.out hb); have HB4 := Aside0.mk (bst HB3.out hb); have hz4 := qz4 HO4.out; clear hb) | (go_at_call 40; (with_reducible refine (HN.out _).mono ?_); rintro e w' ⟨rfl, m1, rfl⟩; have HX5 := Aside0.mk (bdN HX4.out m1); have HO5 := Aside0.mk (bdN HO4.out m1); have HY5 := Aside0.mk (bdN HY4.out m1); have HB5 := Aside0.mk (pbd HB4.out m1); clear hz4) | ((with_reducible refine gds (N := 28) rfl ?_); refine wpList_load_row rfl 30 (.tmp 2) rfl gb ?hp 30 #[.slice A l.length c, .int .i64 cap, .int .i64 cnt, .int .i64 cr, .int .i64 fa, .bool dn] (0, 0) _ ?hg Tryz.underlying30 ?ha ?hi ?_; (case hp => rfl); (case hg => exact HX5.out); (case ha => rfl); (case hi => exact infoFs)) | (go_at_call 35; (with_reducible refine (systemOf_any A c l cap cnt cr fa dn _ (Kd.Cbe HR.out HB5.out) HC.out HL.out).mono ?_); rintro e w6 ⟨p, v, rfl, hp, hs, hv, hb⟩; have HS6 := Aside0.mk (show SySt _ p v cnt cr fa dn cap w6 l from ⟨hs, hp, hv, hb⟩); have HO6 := Aside0.mk (bbe HO5.out hb); clear hp hs hv hb) | ((with_reducible refine gds (N := 31) rfl ?_); refine wpList_load_row rfl 48 (.tmp 3) rfl go_ ?hp 48 #[.int .i64 kind, .string name, .string data, .int .i64 size] (0, 0) _ ?hg Tryz.underlying48 ?ha ?hi ?_; (case hp => rfl); (case hg => exact HO6.out); (case ha => rfl); (case hi => exact infoOp)) | (go_at_call 41; (with_reducible refine (do_whole HS6.out HOK.out HK.out HST.out).mono ?_); rintro e w7 ⟨v', rfl, hs⟩; obtain ⟨A2, c2, rfl⟩ := hs.slice; unfold SySt at hs; obtain ⟨q1, q2, q3, q4⟩ := hs; have HS7 := Aside0.mk q1; have HV7 := Aside0.mk q3; have HY7 := Aside0.mk (bbe HY5.out q4); have HB7 := Aside0.mk (bst HB5.out q4); clear q1 q2 q3 q4) | (go_at_call 36; (with_reducible refine (fs_any p A2 l'.length c2 cap tn cr fa td _ HS7.out).mono ?_); rintro e w8 ⟨rfl, hb⟩; have HY8 := Aside0.mk (bbe HY7.out hb); have HB8 := Aside0.mk (bst HB7.out hb); have HR8 := Aside0.mk (Kd.Rlo (Kd.Rbe HV7.out hb) HB5.out.size); clear hb) | ((with_reducible refine gst (t := 30) (p := 4) rfl ?_); refine wpList_store_row rfl 30 (.tmp 4) (.tmp 34) rfl gr #[.slice A2 l'.length c2, .int .i64 cap, .int .i64 tn, .int .i64 cr, .int .i64 fa, .bool td] ?hx ?hy 30 #[.slice none 0 0, .int .i64 0, .int .i64 0, .int .i64 0, .int .i64 0, .bool false] ?hg ?hi ?ho ?h1 ?_; (case hx => rfl); (case hy => rfl); (case hg => exact HY8.out); (case hi => exact infoFs); (case ho => rfl); (case h1 => simp [Value.oneCell'])))
  have ho10 := Kd.Rty HR8.out HY8.out (by decide)
  have ho11 : Kd.R FileK 61 (w8.setRow gr #[.slice A2 l'.length c2, .int .i64 cap, .int .i64 tn, .int .i64 cr, .int .i64 fa, .bool td]) w.heap.size (fun _ => True) (.slice A2 l'.length c2) l' :=
    Kd.Rmo (Kd.R_step ho10 (fun k hk _ => by simp only [World.setRow, Array.getElem?_modify]; rw [if_neg (fun e => hk.2 e.symm)])) (fun _ _ => trivial)
  refine bodyPost_ret (results_ct rfl _ _ gr 30 #[.slice A2 l'.length c2, .int .i64 cap, .int .i64 tn, .int .i64 cr, .int .i64 fa, .bool td] (0, 0) _ rfl (heap_setRow_sameF HY8.out) Tryz.underlying30 rfl infoFs) rfl ⟨_, rfl, ho11, ?_⟩
  exact below_setRowF HB8.out HG3.out _
set_option maxHeartbeats 8000000 in
set_option maxRecDepth 100000 in
theorem step_bad (A : Option Addr) (c : Nat) (l : List FileT) (cap cnt cr fa : Int) (dn : Bool) (kind : Int) (name data : ByteArray) (size : Int) (w : World)
    (hr : Kd.C FileK w A l.length l) (b bn : Bool)
    (hval : ∀ w', Kd.C FileK w' A l.length l → Calls Tryz.prog 39 #[.agg #[.slice A l.length c, .int .i64 cap, .int .i64 cnt, .int .i64 cr, .int .i64 fa, .bool dn]] w' fun e w'' => e = .returned (.bool b) ∧ Below w'.heap.size w' w'')
    (hname : b = true → (1 ≤ kind ∧ kind ≤ 5) → ∀ w', Calls Tryz.prog 40 #[.string name] w' fun e w'' => e = .returned (.bool bn) ∧ Drawn0 w' w'')
    (hbad : b = true → (1 ≤ kind ∧ kind ≤ 5) → bn = false) :
    Calls Tryz.prog 23 #[.agg #[.slice A l.length c, .int .i64 cap, .int .i64 cnt, .int .i64 cr, .int .i64 fa, .bool dn], .agg #[.int .i64 kind, .string name, .string data, .int .i64 size]] w fun e w' =>
      e = .returned (.tuple #[.agg #[.slice none 0 0, .int .i64 0, .int .i64 0, .int .i64 0, .int .i64 0, .bool false], .int .i64 16]) ∧ Below w.heap.size w w' := by
  have HR := Aside0.mk hr
  have HV := Aside0.mk hval
  clear hr hval
  cases b with
  | false =>
    clear hname hbad
    go_enter Tryz.func23, Tryz.ntmps23
    go_wp2_with (first | ((with_reducible refine gds (N := 2) rfl ?_); refine qbx 2 #[.slice A l.length c, .int .i64 cap, .int .i64 cnt, .int .i64 cr, .int .i64 fa, .bool dn] 30 ?_; intro gb hg w1 hbox hb; have HB := Aside0.mk hb; have HX := Aside0.mk hbox; clear hb hbox hg) | ((with_reducible refine gds (N := 3) rfl ?_); refine qbx 3 #[.int .i64 kind, .string name, .string data, .int .i64 size] 48 ?_; intro go_ hg w2 hbox hb; have HX2 := Aside0.mk (bbe HX.out hb); have HO2 := Aside0.mk hbox; have HB2 := Aside0.mk (bst HB.out hb); clear hb hbox hg) | ((with_reducible refine gds (N := 4) rfl ?_); refine qbx 4 #[.slice none 0 0, .int .i64 0, .int .i64 0, .int .i64 0, .int .i64 0, .bool false] 30 ?_; intro gr hg w3 hbox hb; have HX3 := Aside0.mk (bbe HX2.out hb); have HO3 := Aside0.mk (bbe HO2.out hb); have HY3 := Aside0.mk hbox; have HB3 := Aside0.mk (bst HB2.out hb); have HG3 := Aside0.mk (Nat.le_trans HB2.out.size (Nat.le_of_eq hg.symm)); clear hb hbox hg) | ((with_reducible refine gds (N := 8) rfl ?_); refine wpList_load_row rfl 30 (.tmp 2) rfl gb ?hp 30 #[.slice A l.length c, .int .i64 cap, .int .i64 cnt, .int .i64 cr, .int .i64 fa, .bool dn] (0, 0) _ ?hg Tryz.underlying30 ?ha ?hi ?_; (case hp => rfl); (case hg => exact HX3.out); (case ha => rfl); (case hi => exact infoFs)) | (go_at_call 39; (with_reducible refine (HV.out _ (Kd.Cbe HR.out HB3.out)).mono ?_); rintro e w4 ⟨rfl, hb⟩; have HX4 := Aside0.mk (bbe HX3.out hb); have HO4 := Aside0.mk (bbe HO3.out hb); have HY4 := Aside0.mk (bbe HY3.out hb); have HB4 := Aside0.mk (bst HB3.out hb); have hz4 := qz4 HO4.out; clear hb) | ((with_reducible refine gst (t := 30) (p := 4) rfl ?_); refine wpList_store_row rfl 30 (.tmp 4) (.tmp 27) rfl gr #[.slice none 0 0, .int .i64 0, .int .i64 0, .int .i64 0, .int .i64 0, .bool false] ?hx ?hy 30 #[.slice none 0 0, .int .i64 0, .int .i64 0, .int .i64 0, .int .i64 0, .bool false] ?hg ?hi ?ho ?h1 ?_; (case hx => rfl); (case hy => rfl); (case hg => exact HY4.out); (case hi => exact infoFs); (case ho => rfl); (case h1 => simp [Value.oneCell'])))
    refine bodyPost_ret (results_ct rfl _ _ gr 30 #[.slice none 0 0, .int .i64 0, .int .i64 0, .int .i64 0, .int .i64 0, .bool false] (0, 0) _ rfl (heap_setRow_sameF HY4.out) Tryz.underlying30 rfl infoFs) rfl ⟨rfl, ?_⟩
    exact below_setRowF HB4.out HG3.out _
  | true =>
    by_cases h1 : kind < 1
    · have k1 : decide (kind < 1) = true := decide_eq_true h1
      clear hname hbad h1
      go_enter Tryz.func23, Tryz.ntmps23
      go_wp2_with (first | ((with_reducible refine gds (N := 2) rfl ?_); refine qbx 2 #[.slice A l.length c, .int .i64 cap, .int .i64 cnt, .int .i64 cr, .int .i64 fa, .bool dn] 30 ?_; intro gb hg w1 hbox hb; have HB := Aside0.mk hb; have HX := Aside0.mk hbox; clear hb hbox hg) | ((with_reducible refine gds (N := 3) rfl ?_); refine qbx 3 #[.int .i64 kind, .string name, .string data, .int .i64 size] 48 ?_; intro go_ hg w2 hbox hb; have HX2 := Aside0.mk (bbe HX.out hb); have HO2 := Aside0.mk hbox; have HB2 := Aside0.mk (bst HB.out hb); clear hb hbox hg) | ((with_reducible refine gds (N := 4) rfl ?_); refine qbx 4 #[.slice none 0 0, .int .i64 0, .int .i64 0, .int .i64 0, .int .i64 0, .bool false] 30 ?_; intro gr hg w3 hbox hb; have HX3 := Aside0.mk (bbe HX2.out hb); have HO3 := Aside0.mk (bbe HO2.out hb); have HY3 := Aside0.mk hbox; have HB3 := Aside0.mk (bst HB2.out hb); have HG3 := Aside0.mk (Nat.le_trans HB2.out.size (Nat.le_of_eq hg.symm)); clear hb hbox hg) | ((with_reducible refine gds (N := 8) rfl ?_); refine wpList_load_row rfl 30 (.tmp 2) rfl gb ?hp 30 #[.slice A l.length c, .int .i64 cap, .int .i64 cnt, .int .i64 cr, .int .i64 fa, .bool dn] (0, 0) _ ?hg Tryz.underlying30 ?ha ?hi ?_; (case hp => rfl); (case hg => exact HX3.out); (case ha => rfl); (case hi => exact infoFs)) | (go_at_call 39; (with_reducible refine (HV.out _ (Kd.Cbe HR.out HB3.out)).mono ?_); rintro e w4 ⟨rfl, hb⟩; have HX4 := Aside0.mk (bbe HX3.out hb); have HO4 := Aside0.mk (bbe HO3.out hb); have HY4 := Aside0.mk (bbe HY3.out hb); have HB4 := Aside0.mk (bst HB3.out hb); have hz4 := qz4 HO4.out; clear hb) | ((with_reducible refine gst (t := 30) (p := 4) rfl ?_); refine wpList_store_row rfl 30 (.tmp 4) (.tmp 27) rfl gr #[.slice none 0 0, .int .i64 0, .int .i64 0, .int .i64 0, .int .i64 0, .bool false] ?hx ?hy 30 #[.slice none 0 0, .int .i64 0, .int .i64 0, .int .i64 0, .int .i64 0, .bool false] ?hg ?hi ?ho ?h1 ?_; (case hx => rfl); (case hy => rfl); (case hg => exact HY4.out); (case hi => exact infoFs); (case ho => rfl); (case h1 => simp [Value.oneCell'])))
      refine bodyPost_ret (results_ct rfl _ _ gr 30 #[.slice none 0 0, .int .i64 0, .int .i64 0, .int .i64 0, .int .i64 0, .bool false] (0, 0) _ rfl (heap_setRow_sameF HY4.out) Tryz.underlying30 rfl infoFs) rfl ⟨rfl, ?_⟩
      exact below_setRowF HB4.out HG3.out _
    · have k1 : decide (kind < 1) = false := decide_eq_false h1
      by_cases h5 : 5 < kind
      · have k5 : decide (5 < kind) = true := decide_eq_true h5
        clear hname hbad h1 h5
        go_enter Tryz.func23, Tryz.ntmps23
        go_wp2_with (first | ((with_reducible refine gds (N := 2) rfl ?_); refine qbx 2 #[.slice A l.length c, .int .i64 cap, .int .i64 cnt, .int .i64 cr, .int .i64 fa, .bool dn] 30 ?_; intro gb hg w1 hbox hb; have HB := Aside0.mk hb; have HX := Aside0.mk hbox; clear hb hbox hg) | ((with_reducible refine gds (N := 3) rfl ?_); refine qbx 3 #[.int .i64 kind, .string name, .string data, .int .i64 size] 48 ?_; intro go_ hg w2 hbox hb; have HX2 := Aside0.mk (bbe HX.out hb); have HO2 := Aside0.mk hbox; have HB2 := Aside0.mk (bst HB.out hb); clear hb hbox hg) | ((with_reducible refine gds (N := 4) rfl ?_); refine qbx 4 #[.slice none 0 0, .int .i64 0, .int .i64 0, .int .i64 0, .int .i64 0, .bool false] 30 ?_; intro gr hg w3 hbox hb; have HX3 := Aside0.mk (bbe HX2.out hb); have HO3 := Aside0.mk (bbe HO2.out hb); have HY3 := Aside0.mk hbox; have HB3 := Aside0.mk (bst HB2.out hb); have HG3 := Aside0.mk (Nat.le_trans HB2.out.size (Nat.le_of_eq hg.symm)); clear hb hbox hg) | ((with_reducible refine gds (N := 8) rfl ?_); refine wpList_load_row rfl 30 (.tmp 2) rfl gb ?hp 30 #[.slice A l.length c, .int .i64 cap, .int .i64 cnt, .int .i64 cr, .int .i64 fa, .bool dn] (0, 0) _ ?hg Tryz.underlying30 ?ha ?hi ?_; (case hp => rfl); (case hg => exact HX3.out); (case ha => rfl); (case hi => exact infoFs)) | (go_at_call 39; (with_reducible refine (HV.out _ (Kd.Cbe HR.out HB3.out)).mono ?_); rintro e w4 ⟨rfl, hb⟩; have HX4 := Aside0.mk (bbe HX3.out hb); have HO4 := Aside0.mk (bbe HO3.out hb); have HY4 := Aside0.mk (bbe HY3.out hb); have HB4 := Aside0.mk (bst HB3.out hb); have hz4 := qz4 HO4.out; clear hb) | ((with_reducible refine gst (t := 30) (p := 4) rfl ?_); refine wpList_store_row rfl 30 (.tmp 4) (.tmp 27) rfl gr #[.slice none 0 0, .int .i64 0, .int .i64 0, .int .i64 0, .int .i64 0, .bool false] ?hx ?hy 30 #[.slice none 0 0, .int .i64 0, .int .i64 0, .int .i64 0, .int .i64 0, .bool false] ?hg ?hi ?ho ?h1 ?_; (case hx => rfl); (case hy => rfl); (case hg => exact HY4.out); (case hi => exact infoFs); (case ho => rfl); (case h1 => simp [Value.oneCell'])))
        refine bodyPost_ret (results_ct rfl _ _ gr 30 #[.slice none 0 0, .int .i64 0, .int .i64 0, .int .i64 0, .int .i64 0, .bool false] (0, 0) _ rfl (heap_setRow_sameF HY4.out) Tryz.underlying30 rfl infoFs) rfl ⟨rfl, ?_⟩
        exact below_setRowF HB4.out HG3.out _
      · have k5 : decide (5 < kind) = false := decide_eq_false h5
        have HN := Aside0.mk (hname rfl ⟨by omega, by omega⟩)
        obtain rfl : bn = false := hbad rfl ⟨by omega, by omega⟩
        clear hname hbad h1 h5
        go_enter Tryz.func23, Tryz.ntmps23
        go_wp2_with (first | ((with_reducible refine gds (N := 2) rfl ?_); refine qbx 2 #[.slice A l.length c, .int .i64 cap, .int .i64 cnt, .int .i64 cr, .int .i64 fa, .bool dn] 30 ?_; intro gb hg w1 hbox hb; have HB := Aside0.mk hb; have HX := Aside0.mk hbox; clear hb hbox hg) | ((with_reducible refine gds (N := 3) rfl ?_); refine qbx 3 #[.int .i64 kind, .string name, .string data, .int .i64 size] 48 ?_; intro go_ hg w2 hbox hb; have HX2 := Aside0.mk (bbe HX.out hb); have HO2 := Aside0.mk hbox; have HB2 := Aside0.mk (bst HB.out hb); clear hb hbox hg) | ((with_reducible refine gds (N := 4) rfl ?_); refine qbx 4 #[.slice none 0 0, .int .i64 0, .int .i64 0, .int .i64 0, .int .i64 0, .bool false] 30 ?_; intro gr hg w3 hbox hb; have HX3 := Aside0.mk (bbe HX2.out hb); have HO3 := Aside0.mk (bbe HO2.out hb); have HY3 := Aside0.mk hbox; have HB3 := Aside0.mk (bst HB2.out hb); have HG3 := Aside0.mk (Nat.le_trans HB2.out.size (Nat.le_of_eq hg.symm)); clear hb hbox hg) | ((with_reducible refine gds (N := 8) rfl ?_); refine wpList_load_row rfl 30 (.tmp 2) rfl gb ?hp 30 #[.slice A l.length c, .int .i64 cap, .int .i64 cnt, .int .i64 cr, .int .i64 fa, .bool dn] (0, 0) _ ?hg Tryz.underlying30 ?ha ?hi ?_; (case hp => rfl); (case hg => exact HX3.out); (case ha => rfl); (case hi => exact infoFs)) | (go_at_call 39; (with_reducible refine (HV.out _ (Kd.Cbe HR.out HB3.out)).mono ?_); rintro e w4 ⟨rfl, hb⟩; have HX4 := Aside0.mk (bbe HX3.out hb); have HO4 := Aside0.mk (bbe HO3.out hb); have HY4 := Aside0.mk (bbe HY3.out hb); have HB4 := Aside0.mk (bst HB3.out hb); have hz4 := qz4 HO4.out; clear hb) | (go_at_call 40; (with_reducible refine (HN.out _).mono ?_); rintro e w' ⟨rfl, m1, rfl⟩; have HX5 := Aside0.mk (bdN HX4.out m1); have HO5 := Aside0.mk (bdN HO4.out m1); have HY5 := Aside0.mk (bdN HY4.out m1); have HB5 := Aside0.mk (pbd HB4.out m1); clear hz4) | ((with_reducible refine gst (t := 30) (p := 4) rfl ?_); refine wpList_store_row rfl 30 (.tmp 4) (.tmp 27) rfl gr #[.slice none 0 0, .int .i64 0, .int .i64 0, .int .i64 0, .int .i64 0, .bool false] ?hx ?hy 30 #[.slice none 0 0, .int .i64 0, .int .i64 0, .int .i64 0, .int .i64 0, .bool false] ?hg ?hi ?ho ?h1 ?_; (case hx => rfl); (case hy => rfl); (case hg => exact HY5.out); (case hi => exact infoFs); (case ho => rfl); (case h1 => simp [Value.oneCell'])))
        refine bodyPost_ret (results_ct rfl _ _ gr 30 #[.slice none 0 0, .int .i64 0, .int .i64 0, .int .i64 0, .int .i64 0, .bool false] (0, 0) _ rfl (heap_setRow_sameF HY5.out) Tryz.underlying30 rfl infoFs) rfl ⟨rfl, ?_⟩
        exact below_setRowF HB5.out HG3.out _
end Go.Proofs.YtfknmohedlfmfaaGreatDoor.L
end
section
set_option linter.unusedVariables false
set_option linter.unusedSimpArgs false
namespace Go.Proofs.YtfknmohedlfmfaaGreatDoor.L
open Go Go.RowKit Go.Proofs Go.Proofs.YtfknmohedlfmfaaGreatDoor Go.Proofs.YtfknmohedlfmfaaGreatDoorW.PrintWords Go.Proofs.YtfknmohedlfmfaaGreatDoorW.PrintLast Go.Proofs.YtfknmohedlfmfaaGreatDoorW.PrintMore
attribute [local go_sem] max2_int min2_int max_two min_two max_three min_three max_four min_four
theorem infoFile : (Tryz.prog.info? 61).map (·.size) = some 3 := by kernel_rfl
theorem fin_row {w : World} {B gb gr : Nat} {v' : Value} {l' : List FileT} {cs cs' : Array Value} (h : Kd.R FileK 61 w B (fun _ => True) v' l') (hX : w.heap[gb]? = some (.cells cs 30 (0, 0))) (hY : w.heap[gr]? = some (.cells cs' 30 (0, 0))) (hne : gr ≠ gb) (row : Array Value) :
    Kd.R FileK 61 ((w.setCell ⟨gb, 0, none⟩ v').setRow gr row) B (fun _ => True) v' l' := by
  have h1 := Kd.Rfa (p := ⟨gb, 0, none⟩) (Kd.Rty h hX (by decide)) (fun k hk => hk.2) v'
  have h2 := Kd.Rty h1 (bfa hY hne v') (by decide)
  exact Kd.Rmo (Kd.R_step h2 (fun k hk _ => by simp only [World.setRow, Array.getElem?_modify]; rw [if_neg (fun e => hk.2 e.symm)])) (fun _ _ => trivial)
theorem C_cells {W : World} {g : Nat} {l : List FileT} (h : Kd.C FileK W (some ⟨g, 0, none⟩) l.length l) (i : Nat) (hi : i < l.length) (X : FileT) (hX : l[i]? = some X) :
    W.cell? ⟨g, i * 3, none⟩ = some (.string X.f0) ∧ W.cell? ⟨g, i * 3 + 1, none⟩ = some (.string X.f1) ∧ W.cell? ⟨g, i * 3 + 2, none⟩ = some (.int .i64 X.f2) := by
  obtain ⟨ad, c, e, _, hK, hc⟩ := Kd.C_get h X (i : Int) (by omega) (by omega)
  injection e with e
  subst e
  have e2 : l.getD (i : Int).toNat X = X := by simp [List.getD_eq_getElem?_getD, hX]
  rw [e2] at hK
  obtain rfl := k61_open hK
  have f : ∀ j v, [Value.string X.f0, .string X.f1, .int .i64 X.f2][j]? = some v → W.cell? ⟨g, i * 3 + j, none⟩ = some v := by
    intro j v hj
    have := hc j v hj
    have e3 : (Addr.mk g 0 none).add ((i : Int).toNat * FileK.sz + j) = ⟨g, i * 3 + j, none⟩ := by
      show (if i * 3 + j = 0 then _ else _) = _
      split
      · rename_i h0; rw [h0]
      · exact congrArg (fun q => Addr.mk g q none) (Nat.zero_add _)
    rw [e3] at this
    exact this
  exact ⟨f 0 _ rfl, f 1 _ rfl, f 2 _ rfl⟩
set_option maxHeartbeats 8000000 in
set_option maxRecDepth 100000 in
theorem l6Do_exists (A : Option Addr) (c : Nat) (l : List FileT) (cap cnt cr fa : Int) (dn : Bool) (kind : Int) (name data : ByteArray) (size : Int) (w : World)
    (hr : Kd.C FileK w A l.length l) (at_ : Int) (hfind : ∀ w', Kd.C FileK w' A l.length l → Calls Tryz.prog 48 #[.agg #[.slice A l.length c, .int .i64 cap, .int .i64 cnt, .int .i64 cr, .int .i64 fa, .bool dn], .string name] w' fun e w'' => e = .returned (.int .i64 at_) ∧ Below w'.heap.size w' w'')
    (hk : kind = 1) (h0 : 0 ≤ at_) :
    Calls Tryz.prog 33 #[.agg #[.slice A l.length c, .int .i64 cap, .int .i64 cnt, .int .i64 cr, .int .i64 fa, .bool dn], .agg #[.int .i64 kind, .string name, .string data, .int .i64 size]] w fun e w' => e = .returned (.tuple #[.agg #[.slice A l.length c, .int .i64 cap, .int .i64 cnt, .int .i64 cr, .int .i64 fa, .bool dn], .int .i64 15]) ∧ Below w.heap.size w w' := by
  have c0 : (kind == 1) = true := beq_iff_eq.mpr hk
  clear hk
  have c1 : decide (0 ≤ at_) = true := decide_eq_true h0
  clear h0
  have HR := Aside0.mk hr
  have HFI := Aside0.mk hfind
  clear hr hfind
  go_enter Tryz.func33, Tryz.ntmps33
  go_wp2_with (first | ((with_reducible refine gds (N := 2) rfl ?_); refine qbx 2 #[.slice A l.length c, .int .i64 cap, .int .i64 cnt, .int .i64 cr, .int .i64 fa, .bool dn] 30 ?_; intro gb hg w1 hbox hb; have HB := Aside0.mk hb; have HX := Aside0.mk hbox; have HGB := Aside0.mk (Nat.le_of_eq hg.symm); clear hb hbox hg) | ((with_reducible refine gds (N := 3) rfl ?_); refine qbx 3 #[.int .i64 kind, .string name, .string data, .int .i64 size] 48 ?_; intro go_ hg w2 hbox hb; have HX2 := Aside0.mk (bbe HX.out hb); have HO2 := Aside0.mk hbox; have HB2 := Aside0.mk (bst HB.out hb); clear hb hbox hg) | ((with_reducible refine gds (N := 4) rfl ?_); refine qbx 4 #[.slice none 0 0, .int .i64 0, .int .i64 0, .int .i64 0, .int .i64 0, .bool false] 30 ?_; intro gr hg w3 hbox hb; have HX3 := Aside0.mk (bbe HX2.out hb); have HO3 := Aside0.mk (bbe HO2.out hb); have HY3 := Aside0.mk hbox; have HB3 := Aside0.mk (bst HB2.out hb); have HG3 := Aside0.mk (And.intro (Nat.le_trans HB2.out.size (Nat.le_of_eq hg.symm)) (Nat.ne_of_gt (hg ▸ blt HX2.out : gb < gr))); have hz3 := qz4 HO3.out; clear hb hbox hg) | ((with_reducible refine gds (N := 11) rfl ?_); refine wpList_load_row rfl 30 (.tmp 2) rfl gb ?hp 30 #[.slice A l.length c, .int .i64 cap, .int .i64 cnt, .int .i64 cr, .int .i64 fa, .bool dn] (0, 0) _ ?hg Tryz.underlying30 ?ha ?hi ?_; (case hp => rfl); (case hg => exact HX3.out); (case ha => rfl); (case hi => exact infoFs)) | (go_at_call 48; (with_reducible refine (HFI.out _ (Kd.Cbe HR.out HB3.out)).mono ?_); rintro e w4 ⟨rfl, hb⟩; have HX4 := Aside0.mk (bbe HX3.out hb); have HO4 := Aside0.mk (bbe HO3.out hb); have HY4 := Aside0.mk (bbe HY3.out hb); have HB4 := Aside0.mk (bst HB3.out hb); have hz4 := qz4 HO4.out; have hx4 := qz6 HX4.out; clear hb hz3) | ((with_reducible refine gds (N := 20) rfl ?_); refine wpList_load_row rfl 30 (.tmp 2) rfl gb ?hp 30 #[.slice A l.length c, .int .i64 cap, .int .i64 cnt, .int .i64 cr, .int .i64 fa, .bool dn] (0, 0) _ ?hg Tryz.underlying30 ?ha ?hi ?_; (case hp => rfl); (case hg => exact HX4.out); (case ha => rfl); (case hi => exact infoFs)) | ((with_reducible refine gst (t := 30) (p := 4) rfl ?_); refine wpList_store_row rfl 30 (.tmp 4) (.tmp 20) rfl gr #[.slice A l.length c, .int .i64 cap, .int .i64 cnt, .int .i64 cr, .int .i64 fa, .bool dn] ?hx ?hy 30 #[.slice none 0 0, .int .i64 0, .int .i64 0, .int .i64 0, .int .i64 0, .bool false] ?hg ?hi ?ho ?h1 ?_; (case hx => rfl); (case hy => rfl); (case hg => exact HY4.out); (case hi => exact infoFs); (case ho => rfl); (case h1 => simp [Value.oneCell'])))
  refine bodyPost_ret (results_ct rfl _ _ gr 30 #[.slice A l.length c, .int .i64 cap, .int .i64 cnt, .int .i64 cr, .int .i64 fa, .bool dn] (0, 0) _ rfl (heap_setRow_sameF HY4.out) Tryz.underlying30 rfl infoFs) rfl ⟨rfl, ?_⟩
  exact below_setRowF HB4.out HG3.out.1 _
set_option maxHeartbeats 8000000 in
set_option maxRecDepth 100000 in
theorem l6Do_full (A : Option Addr) (c : Nat) (l : List FileT) (cap cnt cr fa : Int) (dn : Bool) (kind : Int) (name data : ByteArray) (size : Int) (w : World)
    (hr : Kd.C FileK w A l.length l) (at_ : Int) (hfind : ∀ w', Kd.C FileK w' A l.length l → Calls Tryz.prog 48 #[.agg #[.slice A l.length c, .int .i64 cap, .int .i64 cnt, .int .i64 cr, .int .i64 fa, .bool dn], .string name] w' fun e w'' => e = .returned (.int .i64 at_) ∧ Below w'.heap.size w' w'')
    (hk : kind = 1) (h0 : ¬ 0 ≤ at_) (hl : l.length = 300) :
    Calls Tryz.prog 33 #[.agg #[.slice A l.length c, .int .i64 cap, .int .i64 cnt, .int .i64 cr, .int .i64 fa, .bool dn], .agg #[.int .i64 kind, .string name, .string data, .int .i64 size]] w fun e w' => e = .returned (.tuple #[.agg #[.slice A l.length c, .int .i64 cap, .int .i64 cnt, .int .i64 cr, .int .i64 fa, .bool dn], .int .i64 13]) ∧ Below w.heap.size w w' := by
  have c0 : (kind == 1) = true := beq_iff_eq.mpr hk
  clear hk
  have c1 : decide (0 ≤ at_) = false := decide_eq_false h0
  have c2 : ((l.length : Int) == 300) = true := beq_iff_eq.mpr (by omega)
  clear h0 hl
  have HR := Aside0.mk hr
  have HFI := Aside0.mk hfind
  clear hr hfind
  go_enter Tryz.func33, Tryz.ntmps33
  go_wp2_with (first | ((with_reducible refine gds (N := 2) rfl ?_); refine qbx 2 #[.slice A l.length c, .int .i64 cap, .int .i64 cnt, .int .i64 cr, .int .i64 fa, .bool dn] 30 ?_; intro gb hg w1 hbox hb; have HB := Aside0.mk hb; have HX := Aside0.mk hbox; have HGB := Aside0.mk (Nat.le_of_eq hg.symm); clear hb hbox hg) | ((with_reducible refine gds (N := 3) rfl ?_); refine qbx 3 #[.int .i64 kind, .string name, .string data, .int .i64 size] 48 ?_; intro go_ hg w2 hbox hb; have HX2 := Aside0.mk (bbe HX.out hb); have HO2 := Aside0.mk hbox; have HB2 := Aside0.mk (bst HB.out hb); clear hb hbox hg) | ((with_reducible refine gds (N := 4) rfl ?_); refine qbx 4 #[.slice none 0 0, .int .i64 0, .int .i64 0, .int .i64 0, .int .i64 0, .bool false] 30 ?_; intro gr hg w3 hbox hb; have HX3 := Aside0.mk (bbe HX2.out hb); have HO3 := Aside0.mk (bbe HO2.out hb); have HY3 := Aside0.mk hbox; have HB3 := Aside0.mk (bst HB2.out hb); have HG3 := Aside0.mk (And.intro (Nat.le_trans HB2.out.size (Nat.le_of_eq hg.symm)) (Nat.ne_of_gt (hg ▸ blt HX2.out : gb < gr))); have hz3 := qz4 HO3.out; clear hb hbox hg) | ((with_reducible refine gds (N := 11) rfl ?_); refine wpList_load_row rfl 30 (.tmp 2) rfl gb ?hp 30 #[.slice A l.length c, .int .i64 cap, .int .i64 cnt, .int .i64 cr, .int .i64 fa, .bool dn] (0, 0) _ ?hg Tryz.underlying30 ?ha ?hi ?_; (case hp => rfl); (case hg => exact HX3.out); (case ha => rfl); (case hi => exact infoFs)) | (go_at_call 48; (with_reducible refine (HFI.out _ (Kd.Cbe HR.out HB3.out)).mono ?_); rintro e w4 ⟨rfl, hb⟩; have HX4 := Aside0.mk (bbe HX3.out hb); have HO4 := Aside0.mk (bbe HO3.out hb); have HY4 := Aside0.mk (bbe HY3.out hb); have HB4 := Aside0.mk (bst HB3.out hb); have hz4 := qz4 HO4.out; have hx4 := qz6 HX4.out; clear hb hz3) | ((with_reducible refine gds (N := 25) rfl ?_); refine wpList_load_row rfl 30 (.tmp 2) rfl gb ?hp 30 #[.slice A l.length c, .int .i64 cap, .int .i64 cnt, .int .i64 cr, .int .i64 fa, .bool dn] (0, 0) _ ?hg Tryz.underlying30 ?ha ?hi ?_; (case hp => rfl); (case hg => exact HX4.out); (case ha => rfl); (case hi => exact infoFs)) | ((with_reducible refine gst (t := 30) (p := 4) rfl ?_); refine wpList_store_row rfl 30 (.tmp 4) (.tmp 25) rfl gr #[.slice A l.length c, .int .i64 cap, .int .i64 cnt, .int .i64 cr, .int .i64 fa, .bool dn] ?hx ?hy 30 #[.slice none 0 0, .int .i64 0, .int .i64 0, .int .i64 0, .int .i64 0, .bool false] ?hg ?hi ?ho ?h1 ?_; (case hx => rfl); (case hy => rfl); (case hg => exact HY4.out); (case hi => exact infoFs); (case ho => rfl); (case h1 => simp [Value.oneCell'])))
  refine bodyPost_ret (results_ct rfl _ _ gr 30 #[.slice A l.length c, .int .i64 cap, .int .i64 cnt, .int .i64 cr, .int .i64 fa, .bool dn] (0, 0) _ rfl (heap_setRow_sameF HY4.out) Tryz.underlying30 rfl infoFs) rfl ⟨rfl, ?_⟩
  exact below_setRowF HB4.out HG3.out.1 _
set_option maxHeartbeats 8000000 in
set_option maxRecDepth 100000 in
theorem l6Do_missing (A : Option Addr) (c : Nat) (l : List FileT) (cap cnt cr fa : Int) (dn : Bool) (kind : Int) (name data : ByteArray) (size : Int) (w : World)
    (hr : Kd.C FileK w A l.length l) (at_ : Int) (hfind : ∀ w', Kd.C FileK w' A l.length l → Calls Tryz.prog 48 #[.agg #[.slice A l.length c, .int .i64 cap, .int .i64 cnt, .int .i64 cr, .int .i64 fa, .bool dn], .string name] w' fun e w'' => e = .returned (.int .i64 at_) ∧ Below w'.heap.size w' w'')
    (hk : kind ≠ 1) (h0 : at_ < 0) :
    Calls Tryz.prog 33 #[.agg #[.slice A l.length c, .int .i64 cap, .int .i64 cnt, .int .i64 cr, .int .i64 fa, .bool dn], .agg #[.int .i64 kind, .string name, .string data, .int .i64 size]] w fun e w' => e = .returned (.tuple #[.agg #[.slice A l.length c, .int .i64 cap, .int .i64 cnt, .int .i64 cr, .int .i64 fa, .bool dn], .int .i64 14]) ∧ Below w.heap.size w w' := by
  have c0 : (kind == 1) = false := beq_eq_false_iff_ne.mpr hk
  clear hk
  have c1 : decide (at_ < 0) = true := decide_eq_true h0
  clear h0
  have HR := Aside0.mk hr
  have HFI := Aside0.mk hfind
  clear hr hfind
  go_enter Tryz.func33, Tryz.ntmps33
  go_wp2_with (first | ((with_reducible refine gds (N := 2) rfl ?_); refine qbx 2 #[.slice A l.length c, .int .i64 cap, .int .i64 cnt, .int .i64 cr, .int .i64 fa, .bool dn] 30 ?_; intro gb hg w1 hbox hb; have HB := Aside0.mk hb; have HX := Aside0.mk hbox; have HGB := Aside0.mk (Nat.le_of_eq hg.symm); clear hb hbox hg) | ((with_reducible refine gds (N := 3) rfl ?_); refine qbx 3 #[.int .i64 kind, .string name, .string data, .int .i64 size] 48 ?_; intro go_ hg w2 hbox hb; have HX2 := Aside0.mk (bbe HX.out hb); have HO2 := Aside0.mk hbox; have HB2 := Aside0.mk (bst HB.out hb); clear hb hbox hg) | ((with_reducible refine gds (N := 4) rfl ?_); refine qbx 4 #[.slice none 0 0, .int .i64 0, .int .i64 0, .int .i64 0, .int .i64 0, .bool false] 30 ?_; intro gr hg w3 hbox hb; have HX3 := Aside0.mk (bbe HX2.out hb); have HO3 := Aside0.mk (bbe HO2.out hb); have HY3 := Aside0.mk hbox; have HB3 := Aside0.mk (bst HB2.out hb); have HG3 := Aside0.mk (And.intro (Nat.le_trans HB2.out.size (Nat.le_of_eq hg.symm)) (Nat.ne_of_gt (hg ▸ blt HX2.out : gb < gr))); have hz3 := qz4 HO3.out; clear hb hbox hg) | ((with_reducible refine gds (N := 11) rfl ?_); refine wpList_load_row rfl 30 (.tmp 2) rfl gb ?hp 30 #[.slice A l.length c, .int .i64 cap, .int .i64 cnt, .int .i64 cr, .int .i64 fa, .bool dn] (0, 0) _ ?hg Tryz.underlying30 ?ha ?hi ?_; (case hp => rfl); (case hg => exact HX3.out); (case ha => rfl); (case hi => exact infoFs)) | (go_at_call 48; (with_reducible refine (HFI.out _ (Kd.Cbe HR.out HB3.out)).mono ?_); rintro e w4 ⟨rfl, hb⟩; have HX4 := Aside0.mk (bbe HX3.out hb); have HO4 := Aside0.mk (bbe HO3.out hb); have HY4 := Aside0.mk (bbe HY3.out hb); have HB4 := Aside0.mk (bst HB3.out hb); have hz4 := qz4 HO4.out; have hx4 := qz6 HX4.out; clear hb hz3) | ((with_reducible refine gds (N := 36) rfl ?_); refine wpList_load_row rfl 30 (.tmp 2) rfl gb ?hp 30 #[.slice A l.length c, .int .i64 cap, .int .i64 cnt, .int .i64 cr, .int .i64 fa, .bool dn] (0, 0) _ ?hg Tryz.underlying30 ?ha ?hi ?_; (case hp => rfl); (case hg => exact HX4.out); (case ha => rfl); (case hi => exact infoFs)) | ((with_reducible refine gst (t := 30) (p := 4) rfl ?_); refine wpList_store_row rfl 30 (.tmp 4) (.tmp 36) rfl gr #[.slice A l.length c, .int .i64 cap, .int .i64 cnt, .int .i64 cr, .int .i64 fa, .bool dn] ?hx ?hy 30 #[.slice none 0 0, .int .i64 0, .int .i64 0, .int .i64 0, .int .i64 0, .bool false] ?hg ?hi ?ho ?h1 ?_; (case hx => rfl); (case hy => rfl); (case hg => exact HY4.out); (case hi => exact infoFs); (case ho => rfl); (case h1 => simp [Value.oneCell'])))
  refine bodyPost_ret (results_ct rfl _ _ gr 30 #[.slice A l.length c, .int .i64 cap, .int .i64 cnt, .int .i64 cr, .int .i64 fa, .bool dn] (0, 0) _ rfl (heap_setRow_sameF HY4.out) Tryz.underlying30 rfl infoFs) rfl ⟨rfl, ?_⟩
  exact below_setRowF HB4.out HG3.out.1 _
set_option maxHeartbeats 8000000 in
set_option maxRecDepth 100000 in
theorem l6Do_create (A : Option Addr) (c : Nat) (l : List FileT) (cap cnt cr fa : Int) (dn : Bool) (kind : Int) (name data : ByteArray) (size : Int) (w : World)
    (hr : Kd.C FileK w A l.length l) (at_ : Int) (hfind : ∀ w', Kd.C FileK w' A l.length l → Calls Tryz.prog 48 #[.agg #[.slice A l.length c, .int .i64 cap, .int .i64 cnt, .int .i64 cr, .int .i64 fa, .bool dn], .string name] w' fun e w'' => e = .returned (.int .i64 at_) ∧ Below w'.heap.size w' w'')
    (hk : kind = 1) (h0 : ¬ 0 ≤ at_) (hl : l.length ≠ 300) (l' : List FileT) (hwith : ∀ w', Kd.C FileK w' A l.length l → Calls Tryz.prog 49 #[.slice A l.length c, .string (⟨#[]⟩ : ByteArray), .agg #[.string name, .string (⟨#[]⟩ : ByteArray), .int .i64 0]] w' fun e w'' => ∃ v, e = .returned v ∧ Kd.R FileK 61 w'' w'.heap.size (fun _ => True) v l' ∧ Below w'.heap.size w' w'') :
    Calls Tryz.prog 33 #[.agg #[.slice A l.length c, .int .i64 cap, .int .i64 cnt, .int .i64 cr, .int .i64 fa, .bool dn], .agg #[.int .i64 kind, .string name, .string data, .int .i64 size]] w fun e w' => ∃ v', e = .returned (.tuple #[.agg #[v', .int .i64 cap, .int .i64 cnt, .int .i64 cr, .int .i64 fa, .bool dn], .int .i64 0]) ∧ Kd.R FileK 61 w' w.heap.size (fun _ => True) v' l' ∧ Below w.heap.size w w' := by
  have c0 : (kind == 1) = true := beq_iff_eq.mpr hk
  clear hk
  have c1 : decide (0 ≤ at_) = false := decide_eq_false h0
  have c2 : ((l.length : Int) == 300) = false := beq_eq_false_iff_ne.mpr (by omega)
  have HW := Aside0.mk hwith
  clear h0 hl hwith
  have HR := Aside0.mk hr
  have HFI := Aside0.mk hfind
  clear hr hfind
  go_enter Tryz.func33, Tryz.ntmps33
  go_wp2_with (first | ((with_reducible refine gds (N := 2) rfl ?_); refine qbx 2 #[.slice A l.length c, .int .i64 cap, .int .i64 cnt, .int .i64 cr, .int .i64 fa, .bool dn] 30 ?_; intro gb hg w1 hbox hb; have HB := Aside0.mk hb; have HX := Aside0.mk hbox; have HGB := Aside0.mk (Nat.le_of_eq hg.symm); clear hb hbox hg) | ((with_reducible refine gds (N := 3) rfl ?_); refine qbx 3 #[.int .i64 kind, .string name, .string data, .int .i64 size] 48 ?_; intro go_ hg w2 hbox hb; have HX2 := Aside0.mk (bbe HX.out hb); have HO2 := Aside0.mk hbox; have HB2 := Aside0.mk (bst HB.out hb); clear hb hbox hg) | ((with_reducible refine gds (N := 4) rfl ?_); refine qbx 4 #[.slice none 0 0, .int .i64 0, .int .i64 0, .int .i64 0, .int .i64 0, .bool false] 30 ?_; intro gr hg w3 hbox hb; have HX3 := Aside0.mk (bbe HX2.out hb); have HO3 := Aside0.mk (bbe HO2.out hb); have HY3 := Aside0.mk hbox; have HB3 := Aside0.mk (bst HB2.out hb); have HG3 := Aside0.mk (And.intro (Nat.le_trans HB2.out.size (Nat.le_of_eq hg.symm)) (Nat.ne_of_gt (hg ▸ blt HX2.out : gb < gr))); have hz3 := qz4 HO3.out; clear hb hbox hg) | ((with_reducible refine gds (N := 11) rfl ?_); refine wpList_load_row rfl 30 (.tmp 2) rfl gb ?hp 30 #[.slice A l.length c, .int .i64 cap, .int .i64 cnt, .int .i64 cr, .int .i64 fa, .bool dn] (0, 0) _ ?hg Tryz.underlying30 ?ha ?hi ?_; (case hp => rfl); (case hg => exact HX3.out); (case ha => rfl); (case hi => exact infoFs)) | (go_at_call 48; (with_reducible refine (HFI.out _ (Kd.Cbe HR.out HB3.out)).mono ?_); rintro e w4 ⟨rfl, hb⟩; have HX4 := Aside0.mk (bbe HX3.out hb); have HO4 := Aside0.mk (bbe HO3.out hb); have HY4 := Aside0.mk (bbe HY3.out hb); have HB4 := Aside0.mk (bst HB3.out hb); have hz4 := qz4 HO4.out; have hx4 := qz6 HX4.out; clear hb hz3) | (go_at_call 49; (with_reducible refine (HW.out _ (Kd.Cbe HR.out HB4.out)).mono ?_); rintro e w8 ⟨v', rfl, ho, hb⟩; obtain ⟨A2, c2, rfl⟩ := Kd.R_slice ho; have HX8 := Aside0.mk (bbe HX4.out hb); have HY8 := Aside0.mk (bbe HY4.out hb); have HB8 := Aside0.mk (bst HB4.out hb); have HV8 := Aside0.mk (Kd.Rlo ho HB4.out.size); have hx8 := qz6 HX8.out; clear ho hb) | ((with_reducible refine gds (N := 33) rfl ?_); refine wpList_load_row rfl 30 (.tmp 2) rfl gb ?hp 30 #[.slice A2 l'.length c2, .int .i64 cap, .int .i64 cnt, .int .i64 cr, .int .i64 fa, .bool dn] (0, 0) _ ?hg Tryz.underlying30 ?ha ?hi ?_; (case hp => rfl); (case hg => exact (bpu HX8.out 0 _ rfl)); (case ha => rfl); (case hi => exact infoFs)) | ((with_reducible refine gst (t := 30) (p := 4) rfl ?_); refine wpList_store_row rfl 30 (.tmp 4) (.tmp 33) rfl gr #[.slice A2 l'.length c2, .int .i64 cap, .int .i64 cnt, .int .i64 cr, .int .i64 fa, .bool dn] ?hx ?hy 30 #[.slice none 0 0, .int .i64 0, .int .i64 0, .int .i64 0, .int .i64 0, .bool false] ?hg ?hi ?ho ?h1 ?_; (case hx => rfl); (case hy => rfl); (case hg => exact (bfa HY8.out HG3.out.2 _)); (case hi => exact infoFs); (case ho => rfl); (case h1 => simp [Value.oneCell'])))
  refine bodyPost_ret (results_ct rfl _ _ gr 30 #[.slice A2 l'.length c2, .int .i64 cap, .int .i64 cnt, .int .i64 cr, .int .i64 fa, .bool dn] (0, 0) _ rfl (heap_setRow_sameF (bfa HY8.out HG3.out.2 _)) Tryz.underlying30 rfl infoFs) rfl ⟨_, rfl, ?_, ?_⟩
  · exact fin_row HV8.out HX8.out HY8.out HG3.out.2 _
  · exact below_setRowF (bse HB8.out HGB.out) HG3.out.1 _
set_option maxHeartbeats 8000000 in
set_option maxRecDepth 100000 in
theorem l6Do_sync (g : Nat) (c : Nat) (l : List FileT) (cap cnt cr fa : Int) (dn : Bool) (kind : Int) (name data : ByteArray) (size : Int) (w : World)
    (hr : Kd.C FileK w (some ⟨g, 0, none⟩) l.length l) (i : Nat) (hfind : ∀ w', Kd.C FileK w' (some ⟨g, 0, none⟩) l.length l → Calls Tryz.prog 48 #[.agg #[.slice (some ⟨g, 0, none⟩) l.length c, .int .i64 cap, .int .i64 cnt, .int .i64 cr, .int .i64 fa, .bool dn], .string name] w' fun e w'' => e = .returned (.int .i64 (i : Int)) ∧ Below w'.heap.size w' w'')
    (hi : i < l.length) (X : FileT) (hX : l[i]? = some X) (hk : kind ≠ 1) (k3 : kind = 3) (l' : List FileT) (hwith : ∀ w', Kd.C FileK w' (some ⟨g, 0, none⟩) l.length l → Calls Tryz.prog 49 #[.slice (some ⟨g, 0, none⟩) l.length c, .string name, .agg #[.string X.f0, .string X.f1, .int .i64 (X.f1.size : Int)]] w' fun e w'' => ∃ v, e = .returned v ∧ Kd.R FileK 61 w'' w'.heap.size (fun _ => True) v l' ∧ Below w'.heap.size w' w'') :
    Calls Tryz.prog 33 #[.agg #[.slice (some ⟨g, 0, none⟩) l.length c, .int .i64 cap, .int .i64 cnt, .int .i64 cr, .int .i64 fa, .bool dn], .agg #[.int .i64 kind, .string name, .string data, .int .i64 size]] w fun e w' => ∃ v', e = .returned (.tuple #[.agg #[v', .int .i64 cap, .int .i64 cnt, .int .i64 cr, .int .i64 fa, .bool dn], .int .i64 0]) ∧ Kd.R FileK 61 w' w.heap.size (fun _ => True) v' l' ∧ Below w.heap.size w w' := by
  have c0 : (kind == 1) = false := beq_eq_false_iff_ne.mpr hk
  have c1 : decide ((i : Int) < 0) = false := decide_eq_false (by omega)
  have hi0 : (0 : Int) ≤ (i : Int) := by omega
  have hiz : (i : Int) < (l.length : Int) := by omega
  have HI := Aside0.mk (And.intro hi hX)
  clear hk hi hX
  have HW := Aside0.mk hwith
  clear hwith
  have c2 : (kind == 2) = false := beq_eq_false_iff_ne.mpr (by omega)
  have c3 : (kind == 3) = true := beq_iff_eq.mpr k3
  clear k3
  have HR := Aside0.mk hr
  have HFI := Aside0.mk hfind
  clear hr hfind
  go_enter Tryz.func33, Tryz.ntmps33
  go_upto_region 12 with (first | ((with_reducible refine gds (N := 2) rfl ?_); refine qbx 2 #[.slice (some ⟨g, 0, none⟩) l.length c, .int .i64 cap, .int .i64 cnt, .int .i64 cr, .int .i64 fa, .bool dn] 30 ?_; intro gb hg w1 hbox hb; have HB := Aside0.mk hb; have HX := Aside0.mk hbox; have HGB := Aside0.mk (Nat.le_of_eq hg.symm); clear hb hbox hg) | ((with_reducible refine gds (N := 3) rfl ?_); refine qbx 3 #[.int .i64 kind, .string name, .string data, .int .i64 size] 48 ?_; intro go_ hg w2 hbox hb; have HX2 := Aside0.mk (bbe HX.out hb); have HO2 := Aside0.mk hbox; have HB2 := Aside0.mk (bst HB.out hb); clear hb hbox hg) | ((with_reducible refine gds (N := 4) rfl ?_); refine qbx 4 #[.slice none 0 0, .int .i64 0, .int .i64 0, .int .i64 0, .int .i64 0, .bool false] 30 ?_; intro gr hg w3 hbox hb; have HX3 := Aside0.mk (bbe HX2.out hb); have HO3 := Aside0.mk (bbe HO2.out hb); have HY3 := Aside0.mk hbox; have HB3 := Aside0.mk (bst HB2.out hb); have HG3 := Aside0.mk (And.intro (Nat.le_trans HB2.out.size (Nat.le_of_eq hg.symm)) (Nat.ne_of_gt (hg ▸ blt HX2.out : gb < gr))); have hz3 := qz4 HO3.out; clear hb hbox hg) | ((with_reducible refine gds (N := 11) rfl ?_); refine wpList_load_row rfl 30 (.tmp 2) rfl gb ?hp 30 #[.slice (some ⟨g, 0, none⟩) l.length c, .int .i64 cap, .int .i64 cnt, .int .i64 cr, .int .i64 fa, .bool dn] (0, 0) _ ?hg Tryz.underlying30 ?ha ?hi ?_; (case hp => rfl); (case hg => exact HX3.out); (case ha => rfl); (case hi => exact infoFs)) | (go_at_call 48; (with_reducible refine (HFI.out _ (Kd.Cbe HR.out HB3.out)).mono ?_); rintro e w4 ⟨rfl, hb⟩; have HX4 := Aside0.mk (bbe HX3.out hb); have HO4 := Aside0.mk (bbe HO3.out hb); have HY4 := Aside0.mk (bbe HY3.out hb); have HB4 := Aside0.mk (bst HB3.out hb); have hz4 := qz4 HO4.out; have hx4 := qz6 HX4.out; clear hb hz3; obtain ⟨e40, e41, e42⟩ := C_cells (Kd.Cbe HR.out HB4.out) i HI.out.1 X HI.out.2) | ((with_reducible refine gds (N := 7) rfl ?_); refine qbx 7 #[.string (⟨#[]⟩ : ByteArray), .string (⟨#[]⟩ : ByteArray), .int .i64 0] 61 ?_; intro g7 hg w5 hbox hb; have HX5 := Aside0.mk (bbe HX4.out hb); have HO5 := Aside0.mk (bbe HO4.out hb); have HY5 := Aside0.mk (bbe HY4.out hb); have HB5 := Aside0.mk (bst HB4.out hb); have HF5 := Aside0.mk hbox; have HG7 := Aside0.mk (show w.heap.size ≤ g7 ∧ gb ≠ g7 ∧ go_ ≠ g7 ∧ gr ≠ g7 from ⟨Nat.le_trans HB4.out.size (Nat.le_of_eq hg.symm), Nat.ne_of_lt (hg ▸ blt HX4.out), Nat.ne_of_lt (hg ▸ blt HO4.out), Nat.ne_of_lt (hg ▸ blt HY4.out)⟩); have hz7 := qz3 hbox; clear hb hbox hg hz4 hx4))
  have HX6 := Aside0.mk (bfa (bfa (bfa HX5.out HG7.out.2.1 (p := ⟨g7, 0, none⟩) (.string X.f0)) HG7.out.2.1 (p := ⟨g7, 1, none⟩) (.string X.f1)) HG7.out.2.1 (p := ⟨g7, 2, none⟩) (.int .i64 X.f2))
  have HO6 := Aside0.mk (bfa (bfa (bfa HO5.out HG7.out.2.2.1 (p := ⟨g7, 0, none⟩) (.string X.f0)) HG7.out.2.2.1 (p := ⟨g7, 1, none⟩) (.string X.f1)) HG7.out.2.2.1 (p := ⟨g7, 2, none⟩) (.int .i64 X.f2))
  have HY6 := Aside0.mk (bfa (bfa (bfa HY5.out HG7.out.2.2.2 (p := ⟨g7, 0, none⟩) (.string X.f0)) HG7.out.2.2.2 (p := ⟨g7, 1, none⟩) (.string X.f1)) HG7.out.2.2.2 (p := ⟨g7, 2, none⟩) (.int .i64 X.f2))
  have HF6 := Aside0.mk (bpu (cs' := #[.string X.f0, .string X.f1, .int .i64 X.f2]) (bpu (cs' := #[.string X.f0, .string X.f1, .int .i64 0]) (bpu (cs' := #[.string X.f0, .string (⟨#[]⟩ : ByteArray), .int .i64 0]) HF5.out 0 (.string X.f0) rfl) 1 (.string X.f1) rfl) 2 (.int .i64 X.f2) rfl)
  have HB6 := Aside0.mk (bse (bse (bse HB5.out HG7.out.1 (j := 0) (v := .string X.f0)) HG7.out.1 (j := 1) (v := .string X.f1)) HG7.out.1 (j := 2) (v := .int .i64 X.f2))
  generalize ((w5.setCell ⟨g7, 0, none⟩ (.string X.f0)).setCell ⟨g7, 1, none⟩ (.string X.f1)).setCell ⟨g7, 2, none⟩ (.int .i64 X.f2) = w6 at HX6 HO6 HY6 HF6 HB6 ⊢
  clear hz7 HX5 HO5 HY5 HF5 HB5
  have hz6 := qz4 HO6.out
  have hx6 := qz6 HX6.out
  have hf6 := qz3 HF6.out
  go_upto_region 31 with fail
  clear hz6 hx6 hf6
  have HX7 := Aside0.mk (bfa HX6.out HG7.out.2.1 (p := ⟨g7, 2, none⟩) (.int .i64 (X.f1.size : Int)))
  have HO7 := Aside0.mk (bfa HO6.out HG7.out.2.2.1 (p := ⟨g7, 2, none⟩) (.int .i64 (X.f1.size : Int)))
  have HY7 := Aside0.mk (bfa HY6.out HG7.out.2.2.2 (p := ⟨g7, 2, none⟩) (.int .i64 (X.f1.size : Int)))
  have HF7 := Aside0.mk (bpu (cs' := #[.string X.f0, .string X.f1, .int .i64 (X.f1.size : Int)]) HF6.out 2 (.int .i64 (X.f1.size : Int)) rfl)
  have HB7 := Aside0.mk (bse HB6.out HG7.out.1 (j := 2) (v := .int .i64 (X.f1.size : Int)))
  generalize (w6).setCell ⟨g7, 2, none⟩ (.int .i64 (X.f1.size : Int)) = w7 at HX7 HO7 HY7 HF7 HB7 ⊢
  have hz9 := qz4 HO7.out
  have hx9 := qz6 HX7.out
  go_wp2_with (first | ((with_reducible refine gds (N := 105) rfl ?_); refine wpList_load_row rfl 61 (.tmp 7) rfl g7 ?hp 61 #[.string X.f0, .string X.f1, .int .i64 (X.f1.size : Int)] (0, 0) _ ?hg Tryz.underlying61 ?ha ?hi ?_; (case hp => rfl); (case hg => exact HF7.out); (case ha => rfl); (case hi => exact infoFile)) | (go_at_call 49; (with_reducible refine (HW.out _ (Kd.Cbe HR.out HB7.out)).mono ?_); rintro e w8 ⟨v', rfl, ho, hb⟩; obtain ⟨A2, c2, rfl⟩ := Kd.R_slice ho; have HX8 := Aside0.mk (bbe HX7.out hb); have HY8 := Aside0.mk (bbe HY7.out hb); have HB8 := Aside0.mk (bst HB7.out hb); have HV8 := Aside0.mk (Kd.Rlo ho HB7.out.size); have hx8 := qz6 HX8.out; clear ho hb) | ((with_reducible refine gds (N := 108) rfl ?_); refine wpList_load_row rfl 30 (.tmp 2) rfl gb ?hp 30 #[.slice A2 l'.length c2, .int .i64 cap, .int .i64 cnt, .int .i64 cr, .int .i64 fa, .bool dn] (0, 0) _ ?hg Tryz.underlying30 ?ha ?hi ?_; (case hp => rfl); (case hg => exact (bpu HX8.out 0 _ rfl)); (case ha => rfl); (case hi => exact infoFs)) | ((with_reducible refine gst (t := 30) (p := 4) rfl ?_); refine wpList_store_row rfl 30 (.tmp 4) (.tmp 108) rfl gr #[.slice A2 l'.length c2, .int .i64 cap, .int .i64 cnt, .int .i64 cr, .int .i64 fa, .bool dn] ?hx ?hy 30 #[.slice none 0 0, .int .i64 0, .int .i64 0, .int .i64 0, .int .i64 0, .bool false] ?hg ?hi ?ho ?h1 ?_; (case hx => rfl); (case hy => rfl); (case hg => exact (bfa HY8.out HG3.out.2 _)); (case hi => exact infoFs); (case ho => rfl); (case h1 => simp [Value.oneCell'])))
  refine bodyPost_ret (results_ct rfl _ _ gr 30 #[.slice A2 l'.length c2, .int .i64 cap, .int .i64 cnt, .int .i64 cr, .int .i64 fa, .bool dn] (0, 0) _ rfl (heap_setRow_sameF (bfa HY8.out HG3.out.2 _)) Tryz.underlying30 rfl infoFs) rfl ⟨_, rfl, ?_, ?_⟩
  · exact fin_row HV8.out HX8.out HY8.out HG3.out.2 _
  · exact below_setRowF (bse HB8.out HGB.out) HG3.out.1 _
set_option maxHeartbeats 8000000 in
set_option maxRecDepth 100000 in
theorem l6Do_delete (g : Nat) (c : Nat) (l : List FileT) (cap cnt cr fa : Int) (dn : Bool) (kind : Int) (name data : ByteArray) (size : Int) (w : World)
    (hr : Kd.C FileK w (some ⟨g, 0, none⟩) l.length l) (i : Nat) (hfind : ∀ w', Kd.C FileK w' (some ⟨g, 0, none⟩) l.length l → Calls Tryz.prog 48 #[.agg #[.slice (some ⟨g, 0, none⟩) l.length c, .int .i64 cap, .int .i64 cnt, .int .i64 cr, .int .i64 fa, .bool dn], .string name] w' fun e w'' => e = .returned (.int .i64 (i : Int)) ∧ Below w'.heap.size w' w'')
    (hi : i < l.length) (X : FileT) (hX : l[i]? = some X) (hk : kind ≠ 1) (k5 : kind = 5) (l' : List FileT) (hwith : ∀ w', Kd.C FileK w' (some ⟨g, 0, none⟩) l.length l → Calls Tryz.prog 49 #[.slice (some ⟨g, 0, none⟩) l.length c, .string name, .agg #[.string (⟨#[]⟩ : ByteArray), .string (⟨#[]⟩ : ByteArray), .int .i64 0]] w' fun e w'' => ∃ v, e = .returned v ∧ Kd.R FileK 61 w'' w'.heap.size (fun _ => True) v l' ∧ Below w'.heap.size w' w'') :
    Calls Tryz.prog 33 #[.agg #[.slice (some ⟨g, 0, none⟩) l.length c, .int .i64 cap, .int .i64 cnt, .int .i64 cr, .int .i64 fa, .bool dn], .agg #[.int .i64 kind, .string name, .string data, .int .i64 size]] w fun e w' => ∃ v', e = .returned (.tuple #[.agg #[v', .int .i64 cap, .int .i64 cnt, .int .i64 cr, .int .i64 fa, .bool dn], .int .i64 0]) ∧ Kd.R FileK 61 w' w.heap.size (fun _ => True) v' l' ∧ Below w.heap.size w w' := by
  have c0 : (kind == 1) = false := beq_eq_false_iff_ne.mpr hk
  have c1 : decide ((i : Int) < 0) = false := decide_eq_false (by omega)
  have hi0 : (0 : Int) ≤ (i : Int) := by omega
  have hiz : (i : Int) < (l.length : Int) := by omega
  have HI := Aside0.mk (And.intro hi hX)
  clear hk hi hX
  have HW := Aside0.mk hwith
  clear hwith
  have c2 : (kind == 2) = false := beq_eq_false_iff_ne.mpr (by omega)
  have c3 : (kind == 3) = false := beq_eq_false_iff_ne.mpr (by omega)
  have c4 : (kind == 4) = false := beq_eq_false_iff_ne.mpr (by omega)
  have c5 : (kind == 5) = true := beq_iff_eq.mpr k5
  clear k5
  have HR := Aside0.mk hr
  have HFI := Aside0.mk hfind
  clear hr hfind
  go_enter Tryz.func33, Tryz.ntmps33
  go_upto_region 12 with (first | ((with_reducible refine gds (N := 2) rfl ?_); refine qbx 2 #[.slice (some ⟨g, 0, none⟩) l.length c, .int .i64 cap, .int .i64 cnt, .int .i64 cr, .int .i64 fa, .bool dn] 30 ?_; intro gb hg w1 hbox hb; have HB := Aside0.mk hb; have HX := Aside0.mk hbox; have HGB := Aside0.mk (Nat.le_of_eq hg.symm); clear hb hbox hg) | ((with_reducible refine gds (N := 3) rfl ?_); refine qbx 3 #[.int .i64 kind, .string name, .string data, .int .i64 size] 48 ?_; intro go_ hg w2 hbox hb; have HX2 := Aside0.mk (bbe HX.out hb); have HO2 := Aside0.mk hbox; have HB2 := Aside0.mk (bst HB.out hb); clear hb hbox hg) | ((with_reducible refine gds (N := 4) rfl ?_); refine qbx 4 #[.slice none 0 0, .int .i64 0, .int .i64 0, .int .i64 0, .int .i64 0, .bool false] 30 ?_; intro gr hg w3 hbox hb; have HX3 := Aside0.mk (bbe HX2.out hb); have HO3 := Aside0.mk (bbe HO2.out hb); have HY3 := Aside0.mk hbox; have HB3 := Aside0.mk (bst HB2.out hb); have HG3 := Aside0.mk (And.intro (Nat.le_trans HB2.out.size (Nat.le_of_eq hg.symm)) (Nat.ne_of_gt (hg ▸ blt HX2.out : gb < gr))); have hz3 := qz4 HO3.out; clear hb hbox hg) | ((with_reducible refine gds (N := 11) rfl ?_); refine wpList_load_row rfl 30 (.tmp 2) rfl gb ?hp 30 #[.slice (some ⟨g, 0, none⟩) l.length c, .int .i64 cap, .int .i64 cnt, .int .i64 cr, .int .i64 fa, .bool dn] (0, 0) _ ?hg Tryz.underlying30 ?ha ?hi ?_; (case hp => rfl); (case hg => exact HX3.out); (case ha => rfl); (case hi => exact infoFs)) | (go_at_call 48; (with_reducible refine (HFI.out _ (Kd.Cbe HR.out HB3.out)).mono ?_); rintro e w4 ⟨rfl, hb⟩; have HX4 := Aside0.mk (bbe HX3.out hb); have HO4 := Aside0.mk (bbe HO3.out hb); have HY4 := Aside0.mk (bbe HY3.out hb); have HB4 := Aside0.mk (bst HB3.out hb); have hz4 := qz4 HO4.out; have hx4 := qz6 HX4.out; clear hb hz3; obtain ⟨e40, e41, e42⟩ := C_cells (Kd.Cbe HR.out HB4.out) i HI.out.1 X HI.out.2) | ((with_reducible refine gds (N := 7) rfl ?_); refine qbx 7 #[.string (⟨#[]⟩ : ByteArray), .string (⟨#[]⟩ : ByteArray), .int .i64 0] 61 ?_; intro g7 hg w5 hbox hb; have HX5 := Aside0.mk (bbe HX4.out hb); have HO5 := Aside0.mk (bbe HO4.out hb); have HY5 := Aside0.mk (bbe HY4.out hb); have HB5 := Aside0.mk (bst HB4.out hb); have HF5 := Aside0.mk hbox; have HG7 := Aside0.mk (show w.heap.size ≤ g7 ∧ gb ≠ g7 ∧ go_ ≠ g7 ∧ gr ≠ g7 from ⟨Nat.le_trans HB4.out.size (Nat.le_of_eq hg.symm), Nat.ne_of_lt (hg ▸ blt HX4.out), Nat.ne_of_lt (hg ▸ blt HO4.out), Nat.ne_of_lt (hg ▸ blt HY4.out)⟩); have hz7 := qz3 hbox; clear hb hbox hg hz4 hx4))
  have HX6 := Aside0.mk (bfa (bfa (bfa HX5.out HG7.out.2.1 (p := ⟨g7, 0, none⟩) (.string X.f0)) HG7.out.2.1 (p := ⟨g7, 1, none⟩) (.string X.f1)) HG7.out.2.1 (p := ⟨g7, 2, none⟩) (.int .i64 X.f2))
  have HO6 := Aside0.mk (bfa (bfa (bfa HO5.out HG7.out.2.2.1 (p := ⟨g7, 0, none⟩) (.string X.f0)) HG7.out.2.2.1 (p := ⟨g7, 1, none⟩) (.string X.f1)) HG7.out.2.2.1 (p := ⟨g7, 2, none⟩) (.int .i64 X.f2))
  have HY6 := Aside0.mk (bfa (bfa (bfa HY5.out HG7.out.2.2.2 (p := ⟨g7, 0, none⟩) (.string X.f0)) HG7.out.2.2.2 (p := ⟨g7, 1, none⟩) (.string X.f1)) HG7.out.2.2.2 (p := ⟨g7, 2, none⟩) (.int .i64 X.f2))
  have HF6 := Aside0.mk (bpu (cs' := #[.string X.f0, .string X.f1, .int .i64 X.f2]) (bpu (cs' := #[.string X.f0, .string X.f1, .int .i64 0]) (bpu (cs' := #[.string X.f0, .string (⟨#[]⟩ : ByteArray), .int .i64 0]) HF5.out 0 (.string X.f0) rfl) 1 (.string X.f1) rfl) 2 (.int .i64 X.f2) rfl)
  have HB6 := Aside0.mk (bse (bse (bse HB5.out HG7.out.1 (j := 0) (v := .string X.f0)) HG7.out.1 (j := 1) (v := .string X.f1)) HG7.out.1 (j := 2) (v := .int .i64 X.f2))
  generalize ((w5.setCell ⟨g7, 0, none⟩ (.string X.f0)).setCell ⟨g7, 1, none⟩ (.string X.f1)).setCell ⟨g7, 2, none⟩ (.int .i64 X.f2) = w6 at HX6 HO6 HY6 HF6 HB6 ⊢
  clear hz7 HX5 HO5 HY5 HF5 HB5
  have hz6 := qz4 HO6.out
  have hx6 := qz6 HX6.out
  have hf6 := qz3 HF6.out
  go_wp2_with (first | (go_at_call 49; (with_reducible refine (HW.out _ (Kd.Cbe HR.out HB6.out)).mono ?_); rintro e w8 ⟨v', rfl, ho, hb⟩; obtain ⟨A2, c2, rfl⟩ := Kd.R_slice ho; have HX8 := Aside0.mk (bbe HX6.out hb); have HY8 := Aside0.mk (bbe HY6.out hb); have HB8 := Aside0.mk (bst HB6.out hb); have HV8 := Aside0.mk (Kd.Rlo ho HB6.out.size); have hx8 := qz6 HX8.out; clear ho hb) | ((with_reducible refine gds (N := 99) rfl ?_); refine wpList_load_row rfl 30 (.tmp 2) rfl gb ?hp 30 #[.slice A2 l'.length c2, .int .i64 cap, .int .i64 cnt, .int .i64 cr, .int .i64 fa, .bool dn] (0, 0) _ ?hg Tryz.underlying30 ?ha ?hi ?_; (case hp => rfl); (case hg => exact (bpu HX8.out 0 _ rfl)); (case ha => rfl); (case hi => exact infoFs)) | ((with_reducible refine gst (t := 30) (p := 4) rfl ?_); refine wpList_store_row rfl 30 (.tmp 4) (.tmp 99) rfl gr #[.slice A2 l'.length c2, .int .i64 cap, .int .i64 cnt, .int .i64 cr, .int .i64 fa, .bool dn] ?hx ?hy 30 #[.slice none 0 0, .int .i64 0, .int .i64 0, .int .i64 0, .int .i64 0, .bool false] ?hg ?hi ?ho ?h1 ?_; (case hx => rfl); (case hy => rfl); (case hg => exact (bfa HY8.out HG3.out.2 _)); (case hi => exact infoFs); (case ho => rfl); (case h1 => simp [Value.oneCell'])))
  refine bodyPost_ret (results_ct rfl _ _ gr 30 #[.slice A2 l'.length c2, .int .i64 cap, .int .i64 cnt, .int .i64 cr, .int .i64 fa, .bool dn] (0, 0) _ rfl (heap_setRow_sameF (bfa HY8.out HG3.out.2 _)) Tryz.underlying30 rfl infoFs) rfl ⟨_, rfl, ?_, ?_⟩
  · exact fin_row HV8.out HX8.out HY8.out HG3.out.2 _
  · exact below_setRowF (bse HB8.out HGB.out) HG3.out.1 _
set_option maxHeartbeats 8000000 in
set_option maxRecDepth 100000 in
theorem l6Do_trunc_bad (g : Nat) (c : Nat) (l : List FileT) (cap cnt cr fa : Int) (dn : Bool) (kind : Int) (name data : ByteArray) (size : Int) (w : World)
    (hr : Kd.C FileK w (some ⟨g, 0, none⟩) l.length l) (i : Nat) (hfind : ∀ w', Kd.C FileK w' (some ⟨g, 0, none⟩) l.length l → Calls Tryz.prog 48 #[.agg #[.slice (some ⟨g, 0, none⟩) l.length c, .int .i64 cap, .int .i64 cnt, .int .i64 cr, .int .i64 fa, .bool dn], .string name] w' fun e w'' => e = .returned (.int .i64 (i : Int)) ∧ Below w'.heap.size w' w'')
    (hi : i < l.length) (X : FileT) (hX : l[i]? = some X) (hk : kind ≠ 1) (k4 : kind = 4) (hbet : ∀ w', Calls Tryz.prog 15 #[.int .i64 size, .int .i64 0, .int .i64 (X.f1.size : Int)] w' fun e w'' => e = .returned (.bool false) ∧ Drawn0 w' w'')  :
    Calls Tryz.prog 33 #[.agg #[.slice (some ⟨g, 0, none⟩) l.length c, .int .i64 cap, .int .i64 cnt, .int .i64 cr, .int .i64 fa, .bool dn], .agg #[.int .i64 kind, .string name, .string data, .int .i64 size]] w fun e w' => e = .returned (.tuple #[.agg #[.slice (some ⟨g, 0, none⟩) l.length c, .int .i64 cap, .int .i64 cnt, .int .i64 cr, .int .i64 fa, .bool dn], .int .i64 16]) ∧ Below w.heap.size w w' := by
  have c0 : (kind == 1) = false := beq_eq_false_iff_ne.mpr hk
  have c1 : decide ((i : Int) < 0) = false := decide_eq_false (by omega)
  have hi0 : (0 : Int) ≤ (i : Int) := by omega
  have hiz : (i : Int) < (l.length : Int) := by omega
  have HI := Aside0.mk (And.intro hi hX)
  clear hk hi hX


  have c2 : (kind == 2) = false := beq_eq_false_iff_ne.mpr (by omega)
  have c3 : (kind == 3) = false := beq_eq_false_iff_ne.mpr (by omega)
  have c4 : (kind == 4) = true := beq_iff_eq.mpr k4
  clear k4
  have HBT := Aside0.mk hbet
  clear hbet
  have HR := Aside0.mk hr
  have HFI := Aside0.mk hfind
  clear hr hfind
  go_enter Tryz.func33, Tryz.ntmps33
  go_upto_region 12 with (first | ((with_reducible refine gds (N := 2) rfl ?_); refine qbx 2 #[.slice (some ⟨g, 0, none⟩) l.length c, .int .i64 cap, .int .i64 cnt, .int .i64 cr, .int .i64 fa, .bool dn] 30 ?_; intro gb hg w1 hbox hb; have HB := Aside0.mk hb; have HX := Aside0.mk hbox; have HGB := Aside0.mk (Nat.le_of_eq hg.symm); clear hb hbox hg) | ((with_reducible refine gds (N := 3) rfl ?_); refine qbx 3 #[.int .i64 kind, .string name, .string data, .int .i64 size] 48 ?_; intro go_ hg w2 hbox hb; have HX2 := Aside0.mk (bbe HX.out hb); have HO2 := Aside0.mk hbox; have HB2 := Aside0.mk (bst HB.out hb); clear hb hbox hg) | ((with_reducible refine gds (N := 4) rfl ?_); refine qbx 4 #[.slice none 0 0, .int .i64 0, .int .i64 0, .int .i64 0, .int .i64 0, .bool false] 30 ?_; intro gr hg w3 hbox hb; have HX3 := Aside0.mk (bbe HX2.out hb); have HO3 := Aside0.mk (bbe HO2.out hb); have HY3 := Aside0.mk hbox; have HB3 := Aside0.mk (bst HB2.out hb); have HG3 := Aside0.mk (And.intro (Nat.le_trans HB2.out.size (Nat.le_of_eq hg.symm)) (Nat.ne_of_gt (hg ▸ blt HX2.out : gb < gr))); have hz3 := qz4 HO3.out; clear hb hbox hg) | ((with_reducible refine gds (N := 11) rfl ?_); refine wpList_load_row rfl 30 (.tmp 2) rfl gb ?hp 30 #[.slice (some ⟨g, 0, none⟩) l.length c, .int .i64 cap, .int .i64 cnt, .int .i64 cr, .int .i64 fa, .bool dn] (0, 0) _ ?hg Tryz.underlying30 ?ha ?hi ?_; (case hp => rfl); (case hg => exact HX3.out); (case ha => rfl); (case hi => exact infoFs)) | (go_at_call 48; (with_reducible refine (HFI.out _ (Kd.Cbe HR.out HB3.out)).mono ?_); rintro e w4 ⟨rfl, hb⟩; have HX4 := Aside0.mk (bbe HX3.out hb); have HO4 := Aside0.mk (bbe HO3.out hb); have HY4 := Aside0.mk (bbe HY3.out hb); have HB4 := Aside0.mk (bst HB3.out hb); have hz4 := qz4 HO4.out; have hx4 := qz6 HX4.out; clear hb hz3; obtain ⟨e40, e41, e42⟩ := C_cells (Kd.Cbe HR.out HB4.out) i HI.out.1 X HI.out.2) | ((with_reducible refine gds (N := 7) rfl ?_); refine qbx 7 #[.string (⟨#[]⟩ : ByteArray), .string (⟨#[]⟩ : ByteArray), .int .i64 0] 61 ?_; intro g7 hg w5 hbox hb; have HX5 := Aside0.mk (bbe HX4.out hb); have HO5 := Aside0.mk (bbe HO4.out hb); have HY5 := Aside0.mk (bbe HY4.out hb); have HB5 := Aside0.mk (bst HB4.out hb); have HF5 := Aside0.mk hbox; have HG7 := Aside0.mk (show w.heap.size ≤ g7 ∧ gb ≠ g7 ∧ go_ ≠ g7 ∧ gr ≠ g7 from ⟨Nat.le_trans HB4.out.size (Nat.le_of_eq hg.symm), Nat.ne_of_lt (hg ▸ blt HX4.out), Nat.ne_of_lt (hg ▸ blt HO4.out), Nat.ne_of_lt (hg ▸ blt HY4.out)⟩); have hz7 := qz3 hbox; clear hb hbox hg hz4 hx4))
  have HX6 := Aside0.mk (bfa (bfa (bfa HX5.out HG7.out.2.1 (p := ⟨g7, 0, none⟩) (.string X.f0)) HG7.out.2.1 (p := ⟨g7, 1, none⟩) (.string X.f1)) HG7.out.2.1 (p := ⟨g7, 2, none⟩) (.int .i64 X.f2))
  have HO6 := Aside0.mk (bfa (bfa (bfa HO5.out HG7.out.2.2.1 (p := ⟨g7, 0, none⟩) (.string X.f0)) HG7.out.2.2.1 (p := ⟨g7, 1, none⟩) (.string X.f1)) HG7.out.2.2.1 (p := ⟨g7, 2, none⟩) (.int .i64 X.f2))
  have HY6 := Aside0.mk (bfa (bfa (bfa HY5.out HG7.out.2.2.2 (p := ⟨g7, 0, none⟩) (.string X.f0)) HG7.out.2.2.2 (p := ⟨g7, 1, none⟩) (.string X.f1)) HG7.out.2.2.2 (p := ⟨g7, 2, none⟩) (.int .i64 X.f2))
  have HF6 := Aside0.mk (bpu (cs' := #[.string X.f0, .string X.f1, .int .i64 X.f2]) (bpu (cs' := #[.string X.f0, .string X.f1, .int .i64 0]) (bpu (cs' := #[.string X.f0, .string (⟨#[]⟩ : ByteArray), .int .i64 0]) HF5.out 0 (.string X.f0) rfl) 1 (.string X.f1) rfl) 2 (.int .i64 X.f2) rfl)
  have HB6 := Aside0.mk (bse (bse (bse HB5.out HG7.out.1 (j := 0) (v := .string X.f0)) HG7.out.1 (j := 1) (v := .string X.f1)) HG7.out.1 (j := 2) (v := .int .i64 X.f2))
  generalize ((w5.setCell ⟨g7, 0, none⟩ (.string X.f0)).setCell ⟨g7, 1, none⟩ (.string X.f1)).setCell ⟨g7, 2, none⟩ (.int .i64 X.f2) = w6 at HX6 HO6 HY6 HF6 HB6 ⊢
  clear hz7 HX5 HO5 HY5 HF5 HB5
  have hz6 := qz4 HO6.out
  have hx6 := qz6 HX6.out
  have hf6 := qz3 HF6.out
  go_wp2_with (first | (go_at_call 15; (with_reducible refine (HBT.out _).mono ?_); rintro e w' ⟨rfl, m1, rfl⟩; have HX9 := Aside0.mk (bdN HX6.out m1); have HO9 := Aside0.mk (bdN HO6.out m1); have HY9 := Aside0.mk (bdN HY6.out m1); have HF9 := Aside0.mk (bdN HF6.out m1); have HB9 := Aside0.mk (pbd HB6.out m1); clear hz6 hx6 hf6; have hz9 := qz4 HO9.out; have hx9 := qz6 HX9.out; have hf9 := qz3 HF9.out) | ((with_reducible refine gds (N := 80) rfl ?_); refine wpList_load_row rfl 30 (.tmp 2) rfl gb ?hp 30 #[.slice (some ⟨g, 0, none⟩) l.length c, .int .i64 cap, .int .i64 cnt, .int .i64 cr, .int .i64 fa, .bool dn] (0, 0) _ ?hg Tryz.underlying30 ?ha ?hi ?_; (case hp => rfl); (case hg => exact HX9.out); (case ha => rfl); (case hi => exact infoFs)) | ((with_reducible refine gst (t := 30) (p := 4) rfl ?_); refine wpList_store_row rfl 30 (.tmp 4) (.tmp 80) rfl gr #[.slice (some ⟨g, 0, none⟩) l.length c, .int .i64 cap, .int .i64 cnt, .int .i64 cr, .int .i64 fa, .bool dn] ?hx ?hy 30 #[.slice none 0 0, .int .i64 0, .int .i64 0, .int .i64 0, .int .i64 0, .bool false] ?hg ?hi ?ho ?h1 ?_; (case hx => rfl); (case hy => rfl); (case hg => exact HY9.out); (case hi => exact infoFs); (case ho => rfl); (case h1 => simp [Value.oneCell'])))
  refine bodyPost_ret (results_ct rfl _ _ gr 30 #[.slice (some ⟨g, 0, none⟩) l.length c, .int .i64 cap, .int .i64 cnt, .int .i64 cr, .int .i64 fa, .bool dn] (0, 0) _ rfl (heap_setRow_sameF HY9.out) Tryz.underlying30 rfl infoFs) rfl ⟨rfl, ?_⟩
  exact below_setRowF HB9.out HG3.out.1 _
set_option maxHeartbeats 8000000 in
set_option maxRecDepth 100000 in
theorem l6Do_trunc (g : Nat) (c : Nat) (l : List FileT) (cap cnt cr fa : Int) (dn : Bool) (kind : Int) (name data : ByteArray) (size : Int) (w : World)
    (hr : Kd.C FileK w (some ⟨g, 0, none⟩) l.length l) (i : Nat) (hfind : ∀ w', Kd.C FileK w' (some ⟨g, 0, none⟩) l.length l → Calls Tryz.prog 48 #[.agg #[.slice (some ⟨g, 0, none⟩) l.length c, .int .i64 cap, .int .i64 cnt, .int .i64 cr, .int .i64 fa, .bool dn], .string name] w' fun e w'' => e = .returned (.int .i64 (i : Int)) ∧ Below w'.heap.size w' w'')
    (hi : i < l.length) (X : FileT) (hX : l[i]? = some X) (hk : kind ≠ 1) (k4 : kind = 4) (hbet : ∀ w', Calls Tryz.prog 15 #[.int .i64 size, .int .i64 0, .int .i64 (X.f1.size : Int)] w' fun e w'' => e = .returned (.bool true) ∧ Drawn0 w' w'') (s0 : 0 ≤ size) (s1 : size ≤ (X.f1.size : Int)) (l' : List FileT) (hwith : ∀ w', Kd.C FileK w' (some ⟨g, 0, none⟩) l.length l → Calls Tryz.prog 49 #[.slice (some ⟨g, 0, none⟩) l.length c, .string name, .agg #[.string X.f0, .string (X.f1.extract 0 size.toNat), .int .i64 size]] w' fun e w'' => ∃ v, e = .returned v ∧ Kd.R FileK 61 w'' w'.heap.size (fun _ => True) v l' ∧ Below w'.heap.size w' w'') :
    Calls Tryz.prog 33 #[.agg #[.slice (some ⟨g, 0, none⟩) l.length c, .int .i64 cap, .int .i64 cnt, .int .i64 cr, .int .i64 fa, .bool dn], .agg #[.int .i64 kind, .string name, .string data, .int .i64 size]] w fun e w' => ∃ v', e = .returned (.tuple #[.agg #[v', .int .i64 cap, .int .i64 cnt, .int .i64 cr, .int .i64 fa, .bool dn], .int .i64 0]) ∧ Kd.R FileK 61 w' w.heap.size (fun _ => True) v' l' ∧ Below w.heap.size w w' := by
  have c0 : (kind == 1) = false := beq_eq_false_iff_ne.mpr hk
  have c1 : decide ((i : Int) < 0) = false := decide_eq_false (by omega)
  have hi0 : (0 : Int) ≤ (i : Int) := by omega
  have hiz : (i : Int) < (l.length : Int) := by omega
  have HI := Aside0.mk (And.intro hi hX)
  clear hk hi hX
  have HW := Aside0.mk hwith
  clear hwith
  have c2 : (kind == 2) = false := beq_eq_false_iff_ne.mpr (by omega)
  have c3 : (kind == 3) = false := beq_eq_false_iff_ne.mpr (by omega)
  have c4 : (kind == 4) = true := beq_iff_eq.mpr k4
  clear k4
  have HBT := Aside0.mk hbet
  clear hbet
  have HR := Aside0.mk hr
  have HFI := Aside0.mk hfind
  clear hr hfind
  go_enter Tryz.func33, Tryz.ntmps33
  go_upto_region 12 with (first | ((with_reducible refine gds (N := 2) rfl ?_); refine qbx 2 #[.slice (some ⟨g, 0, none⟩) l.length c, .int .i64 cap, .int .i64 cnt, .int .i64 cr, .int .i64 fa, .bool dn] 30 ?_; intro gb hg w1 hbox hb; have HB := Aside0.mk hb; have HX := Aside0.mk hbox; have HGB := Aside0.mk (Nat.le_of_eq hg.symm); clear hb hbox hg) | ((with_reducible refine gds (N := 3) rfl ?_); refine qbx 3 #[.int .i64 kind, .string name, .string data, .int .i64 size] 48 ?_; intro go_ hg w2 hbox hb; have HX2 := Aside0.mk (bbe HX.out hb); have HO2 := Aside0.mk hbox; have HB2 := Aside0.mk (bst HB.out hb); clear hb hbox hg) | ((with_reducible refine gds (N := 4) rfl ?_); refine qbx 4 #[.slice none 0 0, .int .i64 0, .int .i64 0, .int .i64 0, .int .i64 0, .bool false] 30 ?_; intro gr hg w3 hbox hb; have HX3 := Aside0.mk (bbe HX2.out hb); have HO3 := Aside0.mk (bbe HO2.out hb); have HY3 := Aside0.mk hbox; have HB3 := Aside0.mk (bst HB2.out hb); have HG3 := Aside0.mk (And.intro (Nat.le_trans HB2.out.size (Nat.le_of_eq hg.symm)) (Nat.ne_of_gt (hg ▸ blt HX2.out : gb < gr))); have hz3 := qz4 HO3.out; clear hb hbox hg) | ((with_reducible refine gds (N := 11) rfl ?_); refine wpList_load_row rfl 30 (.tmp 2) rfl gb ?hp 30 #[.slice (some ⟨g, 0, none⟩) l.length c, .int .i64 cap, .int .i64 cnt, .int .i64 cr, .int .i64 fa, .bool dn] (0, 0) _ ?hg Tryz.underlying30 ?ha ?hi ?_; (case hp => rfl); (case hg => exact HX3.out); (case ha => rfl); (case hi => exact infoFs)) | (go_at_call 48; (with_reducible refine (HFI.out _ (Kd.Cbe HR.out HB3.out)).mono ?_); rintro e w4 ⟨rfl, hb⟩; have HX4 := Aside0.mk (bbe HX3.out hb); have HO4 := Aside0.mk (bbe HO3.out hb); have HY4 := Aside0.mk (bbe HY3.out hb); have HB4 := Aside0.mk (bst HB3.out hb); have hz4 := qz4 HO4.out; have hx4 := qz6 HX4.out; clear hb hz3; obtain ⟨e40, e41, e42⟩ := C_cells (Kd.Cbe HR.out HB4.out) i HI.out.1 X HI.out.2) | ((with_reducible refine gds (N := 7) rfl ?_); refine qbx 7 #[.string (⟨#[]⟩ : ByteArray), .string (⟨#[]⟩ : ByteArray), .int .i64 0] 61 ?_; intro g7 hg w5 hbox hb; have HX5 := Aside0.mk (bbe HX4.out hb); have HO5 := Aside0.mk (bbe HO4.out hb); have HY5 := Aside0.mk (bbe HY4.out hb); have HB5 := Aside0.mk (bst HB4.out hb); have HF5 := Aside0.mk hbox; have HG7 := Aside0.mk (show w.heap.size ≤ g7 ∧ gb ≠ g7 ∧ go_ ≠ g7 ∧ gr ≠ g7 from ⟨Nat.le_trans HB4.out.size (Nat.le_of_eq hg.symm), Nat.ne_of_lt (hg ▸ blt HX4.out), Nat.ne_of_lt (hg ▸ blt HO4.out), Nat.ne_of_lt (hg ▸ blt HY4.out)⟩); have hz7 := qz3 hbox; clear hb hbox hg hz4 hx4))
  have HX6 := Aside0.mk (bfa (bfa (bfa HX5.out HG7.out.2.1 (p := ⟨g7, 0, none⟩) (.string X.f0)) HG7.out.2.1 (p := ⟨g7, 1, none⟩) (.string X.f1)) HG7.out.2.1 (p := ⟨g7, 2, none⟩) (.int .i64 X.f2))
  have HO6 := Aside0.mk (bfa (bfa (bfa HO5.out HG7.out.2.2.1 (p := ⟨g7, 0, none⟩) (.string X.f0)) HG7.out.2.2.1 (p := ⟨g7, 1, none⟩) (.string X.f1)) HG7.out.2.2.1 (p := ⟨g7, 2, none⟩) (.int .i64 X.f2))
  have HY6 := Aside0.mk (bfa (bfa (bfa HY5.out HG7.out.2.2.2 (p := ⟨g7, 0, none⟩) (.string X.f0)) HG7.out.2.2.2 (p := ⟨g7, 1, none⟩) (.string X.f1)) HG7.out.2.2.2 (p := ⟨g7, 2, none⟩) (.int .i64 X.f2))
  have HF6 := Aside0.mk (bpu (cs' := #[.string X.f0, .string X.f1, .int .i64 X.f2]) (bpu (cs' := #[.string X.f0, .string X.f1, .int .i64 0]) (bpu (cs' := #[.string X.f0, .string (⟨#[]⟩ : ByteArray), .int .i64 0]) HF5.out 0 (.string X.f0) rfl) 1 (.string X.f1) rfl) 2 (.int .i64 X.f2) rfl)
  have HB6 := Aside0.mk (bse (bse (bse HB5.out HG7.out.1 (j := 0) (v := .string X.f0)) HG7.out.1 (j := 1) (v := .string X.f1)) HG7.out.1 (j := 2) (v := .int .i64 X.f2))
  generalize ((w5.setCell ⟨g7, 0, none⟩ (.string X.f0)).setCell ⟨g7, 1, none⟩ (.string X.f1)).setCell ⟨g7, 2, none⟩ (.int .i64 X.f2) = w6 at HX6 HO6 HY6 HF6 HB6 ⊢
  clear hz7 HX5 HO5 HY5 HF5 HB5
  have hz6 := qz4 HO6.out
  have hx6 := qz6 HX6.out
  have hf6 := qz3 HF6.out
  go_upto_region 31 with (first | (go_at_call 15; (with_reducible refine (HBT.out _).mono ?_); rintro e w' ⟨rfl, m1, rfl⟩; have HX9 := Aside0.mk (bdN HX6.out m1); have HO9 := Aside0.mk (bdN HO6.out m1); have HY9 := Aside0.mk (bdN HY6.out m1); have HF9 := Aside0.mk (bdN HF6.out m1); have HB9 := Aside0.mk (pbd HB6.out m1); clear hz6 hx6 hf6; have hz9 := qz4 HO9.out; have hx9 := qz6 HX9.out; have hf9 := qz3 HF9.out))
  clear hz9 hx9 hf9
  have HX8 := Aside0.mk (bfa HX9.out HG7.out.2.1 (p := ⟨g7, 1, none⟩) (.string (X.f1.extract 0 size.toNat)))
  have HO8 := Aside0.mk (bfa HO9.out HG7.out.2.2.1 (p := ⟨g7, 1, none⟩) (.string (X.f1.extract 0 size.toNat)))
  have HY8 := Aside0.mk (bfa HY9.out HG7.out.2.2.2 (p := ⟨g7, 1, none⟩) (.string (X.f1.extract 0 size.toNat)))
  have HF8 := Aside0.mk (bpu (cs' := #[.string X.f0, .string (X.f1.extract 0 size.toNat), .int .i64 X.f2]) HF9.out 1 (.string (X.f1.extract 0 size.toNat)) rfl)
  have HB8 := Aside0.mk (bse HB9.out HG7.out.1 (j := 1) (v := .string (X.f1.extract 0 size.toNat)))
  generalize (w6.drewN m1).setCell ⟨g7, 1, none⟩ (.string (X.f1.extract 0 size.toNat)) = w8 at HX8 HO8 HY8 HF8 HB8 ⊢
  have HX7 := Aside0.mk (bfa HX8.out HG7.out.2.1 (p := ⟨g7, 2, none⟩) (.int .i64 size))
  have HO7 := Aside0.mk (bfa HO8.out HG7.out.2.2.1 (p := ⟨g7, 2, none⟩) (.int .i64 size))
  have HY7 := Aside0.mk (bfa HY8.out HG7.out.2.2.2 (p := ⟨g7, 2, none⟩) (.int .i64 size))
  have HF7 := Aside0.mk (bpu (cs' := #[.string X.f0, .string (X.f1.extract 0 size.toNat), .int .i64 size]) HF8.out 2 (.int .i64 size) rfl)
  have HB7 := Aside0.mk (bse HB8.out HG7.out.1 (j := 2) (v := .int .i64 size))
  generalize (w8).setCell ⟨g7, 2, none⟩ (.int .i64 size) = w7 at HX7 HO7 HY7 HF7 HB7 ⊢
  clear HX8 HO8 HY8 HF8 HB8
  have hz9 := qz4 HO7.out
  have hx9 := qz6 HX7.out
  go_wp2_with (first | ((with_reducible refine gds (N := 105) rfl ?_); refine wpList_load_row rfl 61 (.tmp 7) rfl g7 ?hp 61 #[.string X.f0, .string (X.f1.extract 0 size.toNat), .int .i64 size] (0, 0) _ ?hg Tryz.underlying61 ?ha ?hi ?_; (case hp => rfl); (case hg => exact HF7.out); (case ha => rfl); (case hi => exact infoFile)) | (go_at_call 49; (with_reducible refine (HW.out _ (Kd.Cbe HR.out HB7.out)).mono ?_); rintro e w8 ⟨v', rfl, ho, hb⟩; obtain ⟨A2, c2, rfl⟩ := Kd.R_slice ho; have HX8 := Aside0.mk (bbe HX7.out hb); have HY8 := Aside0.mk (bbe HY7.out hb); have HB8 := Aside0.mk (bst HB7.out hb); have HV8 := Aside0.mk (Kd.Rlo ho HB7.out.size); have hx8 := qz6 HX8.out; clear ho hb) | ((with_reducible refine gds (N := 108) rfl ?_); refine wpList_load_row rfl 30 (.tmp 2) rfl gb ?hp 30 #[.slice A2 l'.length c2, .int .i64 cap, .int .i64 cnt, .int .i64 cr, .int .i64 fa, .bool dn] (0, 0) _ ?hg Tryz.underlying30 ?ha ?hi ?_; (case hp => rfl); (case hg => exact (bpu HX8.out 0 _ rfl)); (case ha => rfl); (case hi => exact infoFs)) | ((with_reducible refine gst (t := 30) (p := 4) rfl ?_); refine wpList_store_row rfl 30 (.tmp 4) (.tmp 108) rfl gr #[.slice A2 l'.length c2, .int .i64 cap, .int .i64 cnt, .int .i64 cr, .int .i64 fa, .bool dn] ?hx ?hy 30 #[.slice none 0 0, .int .i64 0, .int .i64 0, .int .i64 0, .int .i64 0, .bool false] ?hg ?hi ?ho ?h1 ?_; (case hx => rfl); (case hy => rfl); (case hg => exact (bfa HY8.out HG3.out.2 _)); (case hi => exact infoFs); (case ho => rfl); (case h1 => simp [Value.oneCell'])))
  refine bodyPost_ret (results_ct rfl _ _ gr 30 #[.slice A2 l'.length c2, .int .i64 cap, .int .i64 cnt, .int .i64 cr, .int .i64 fa, .bool dn] (0, 0) _ rfl (heap_setRow_sameF (bfa HY8.out HG3.out.2 _)) Tryz.underlying30 rfl infoFs) rfl ⟨_, rfl, ?_, ?_⟩
  · exact fin_row HV8.out HX8.out HY8.out HG3.out.2 _
  · exact below_setRowF (bse HB8.out HGB.out) HG3.out.1 _
set_option maxHeartbeats 8000000 in
set_option maxRecDepth 100000 in
theorem l6Do_append_full (g : Nat) (c : Nat) (l : List FileT) (cap cnt cr fa : Int) (dn : Bool) (kind : Int) (name data : ByteArray) (size : Int) (w : World)
    (hr : Kd.C FileK w (some ⟨g, 0, none⟩) l.length l) (i : Nat) (hfind : ∀ w', Kd.C FileK w' (some ⟨g, 0, none⟩) l.length l → Calls Tryz.prog 48 #[.agg #[.slice (some ⟨g, 0, none⟩) l.length c, .int .i64 cap, .int .i64 cnt, .int .i64 cr, .int .i64 fa, .bool dn], .string name] w' fun e w'' => e = .returned (.int .i64 (i : Int)) ∧ Below w'.heap.size w' w'')
    (hi : i < l.length) (X : FileT) (hX : l[i]? = some X) (hk : kind ≠ 1) (k2 : kind = 2) (n : Int) (hbytes : ∀ w', Kd.C FileK w' (some ⟨g, 0, none⟩) l.length l → Calls Tryz.prog 46 #[.agg #[.slice (some ⟨g, 0, none⟩) l.length c, .int .i64 cap, .int .i64 cnt, .int .i64 cr, .int .i64 fa, .bool dn]] w' fun e w'' => e = .returned (.int .i64 n) ∧ Below w'.heap.size w' w'') (R : Nat) (hR : cap - n = (R : Int)) (hR2 : R ≤ 1000000000) (hd2 : data.size ≤ 1000000000) (hX2 : X.f1.size ≤ 1000000000) (hr : R < data.size) (l' : List FileT) (hwith : ∀ w', Kd.C FileK w' (some ⟨g, 0, none⟩) l.length l → Calls Tryz.prog 49 #[.slice (some ⟨g, 0, none⟩) l.length c, .string name, .agg #[.string X.f0, .string (X.f1 ++ data.extract 0 R), .int .i64 X.f2]] w' fun e w'' => ∃ v, e = .returned v ∧ Kd.R FileK 61 w'' w'.heap.size (fun _ => True) v l' ∧ Below w'.heap.size w' w'') :
    Calls Tryz.prog 33 #[.agg #[.slice (some ⟨g, 0, none⟩) l.length c, .int .i64 cap, .int .i64 cnt, .int .i64 cr, .int .i64 fa, .bool dn], .agg #[.int .i64 kind, .string name, .string data, .int .i64 size]] w fun e w' => ∃ v', e = .returned (.tuple #[.agg #[v', .int .i64 cap, .int .i64 cnt, .int .i64 cr, .int .i64 fa, .bool dn], .int .i64 13]) ∧ Kd.R FileK 61 w' w.heap.size (fun _ => True) v' l' ∧ Below w.heap.size w w' := by
  have c0 : (kind == 1) = false := beq_eq_false_iff_ne.mpr hk
  have c1 : decide ((i : Int) < 0) = false := decide_eq_false (by omega)
  have hi0 : (0 : Int) ≤ (i : Int) := by omega
  have hiz : (i : Int) < (l.length : Int) := by omega
  have HI := Aside0.mk (And.intro hi hX)
  clear hk hi hX
  have HW := Aside0.mk hwith
  clear hwith
  have c2 : (kind == 2) = true := beq_iff_eq.mpr k2
  clear k2
  have HBY := Aside0.mk hbytes
  have hwr : wrap64 (cap - n) = (R : Int) := by rw [hR]; unfold wrap64; omega
  have HWR := Aside0.mk hwr
  have r2 : (0 : Int) ≤ (R : Int) := by omega
  have r3 : (0 : Int) ≤ (data.size : Int) := by omega
  have r9 : (R : Int) < (data.size : Int) := by omega
  have r1 : decide ((R : Int) < (data.size : Int)) = true := decide_eq_true (by omega)
  have r5 : (R : Int) ≤ (data.size : Int) := by omega
  have r6 : (9223372036854775807 < X.f1.size + (data.extract 0 R).size) = False := eq_false (by rw [ByteArray.size_extract]; omega)
  have r8 : (9223372036854775807 < X.f1.size + min R data.size) = False := eq_false (by omega)
  have r11 : (9223372036854775807 < X.f1.size + R) = False := eq_false (by omega)
  have r12 : min R data.size = R := by omega
  clear hbytes hwr hR hR2 hd2 hX2 hr
  have HR := Aside0.mk hr
  have HFI := Aside0.mk hfind
  clear hr hfind
  go_enter Tryz.func33, Tryz.ntmps33
  go_upto_region 12 with (first | ((with_reducible refine gds (N := 2) rfl ?_); refine qbx 2 #[.slice (some ⟨g, 0, none⟩) l.length c, .int .i64 cap, .int .i64 cnt, .int .i64 cr, .int .i64 fa, .bool dn] 30 ?_; intro gb hg w1 hbox hb; have HB := Aside0.mk hb; have HX := Aside0.mk hbox; have HGB := Aside0.mk (Nat.le_of_eq hg.symm); clear hb hbox hg) | ((with_reducible refine gds (N := 3) rfl ?_); refine qbx 3 #[.int .i64 kind, .string name, .string data, .int .i64 size] 48 ?_; intro go_ hg w2 hbox hb; have HX2 := Aside0.mk (bbe HX.out hb); have HO2 := Aside0.mk hbox; have HB2 := Aside0.mk (bst HB.out hb); clear hb hbox hg) | ((with_reducible refine gds (N := 4) rfl ?_); refine qbx 4 #[.slice none 0 0, .int .i64 0, .int .i64 0, .int .i64 0, .int .i64 0, .bool false] 30 ?_; intro gr hg w3 hbox hb; have HX3 := Aside0.mk (bbe HX2.out hb); have HO3 := Aside0.mk (bbe HO2.out hb); have HY3 := Aside0.mk hbox; have HB3 := Aside0.mk (bst HB2.out hb); have HG3 := Aside0.mk (And.intro (Nat.le_trans HB2.out.size (Nat.le_of_eq hg.symm)) (Nat.ne_of_gt (hg ▸ blt HX2.out : gb < gr))); have hz3 := qz4 HO3.out; clear hb hbox hg) | ((with_reducible refine gds (N := 11) rfl ?_); refine wpList_load_row rfl 30 (.tmp 2) rfl gb ?hp 30 #[.slice (some ⟨g, 0, none⟩) l.length c, .int .i64 cap, .int .i64 cnt, .int .i64 cr, .int .i64 fa, .bool dn] (0, 0) _ ?hg Tryz.underlying30 ?ha ?hi ?_; (case hp => rfl); (case hg => exact HX3.out); (case ha => rfl); (case hi => exact infoFs)) | (go_at_call 48; (with_reducible refine (HFI.out _ (Kd.Cbe HR.out HB3.out)).mono ?_); rintro e w4 ⟨rfl, hb⟩; have HX4 := Aside0.mk (bbe HX3.out hb); have HO4 := Aside0.mk (bbe HO3.out hb); have HY4 := Aside0.mk (bbe HY3.out hb); have HB4 := Aside0.mk (bst HB3.out hb); have hz4 := qz4 HO4.out; have hx4 := qz6 HX4.out; clear hb hz3; obtain ⟨e40, e41, e42⟩ := C_cells (Kd.Cbe HR.out HB4.out) i HI.out.1 X HI.out.2) | ((with_reducible refine gds (N := 7) rfl ?_); refine qbx 7 #[.string (⟨#[]⟩ : ByteArray), .string (⟨#[]⟩ : ByteArray), .int .i64 0] 61 ?_; intro g7 hg w5 hbox hb; have HX5 := Aside0.mk (bbe HX4.out hb); have HO5 := Aside0.mk (bbe HO4.out hb); have HY5 := Aside0.mk (bbe HY4.out hb); have HB5 := Aside0.mk (bst HB4.out hb); have HF5 := Aside0.mk hbox; have HG7 := Aside0.mk (show w.heap.size ≤ g7 ∧ gb ≠ g7 ∧ go_ ≠ g7 ∧ gr ≠ g7 from ⟨Nat.le_trans HB4.out.size (Nat.le_of_eq hg.symm), Nat.ne_of_lt (hg ▸ blt HX4.out), Nat.ne_of_lt (hg ▸ blt HO4.out), Nat.ne_of_lt (hg ▸ blt HY4.out)⟩); have hz7 := qz3 hbox; clear hb hbox hg hz4 hx4))
  have HX6 := Aside0.mk (bfa (bfa (bfa HX5.out HG7.out.2.1 (p := ⟨g7, 0, none⟩) (.string X.f0)) HG7.out.2.1 (p := ⟨g7, 1, none⟩) (.string X.f1)) HG7.out.2.1 (p := ⟨g7, 2, none⟩) (.int .i64 X.f2))
  have HO6 := Aside0.mk (bfa (bfa (bfa HO5.out HG7.out.2.2.1 (p := ⟨g7, 0, none⟩) (.string X.f0)) HG7.out.2.2.1 (p := ⟨g7, 1, none⟩) (.string X.f1)) HG7.out.2.2.1 (p := ⟨g7, 2, none⟩) (.int .i64 X.f2))
  have HY6 := Aside0.mk (bfa (bfa (bfa HY5.out HG7.out.2.2.2 (p := ⟨g7, 0, none⟩) (.string X.f0)) HG7.out.2.2.2 (p := ⟨g7, 1, none⟩) (.string X.f1)) HG7.out.2.2.2 (p := ⟨g7, 2, none⟩) (.int .i64 X.f2))
  have HF6 := Aside0.mk (bpu (cs' := #[.string X.f0, .string X.f1, .int .i64 X.f2]) (bpu (cs' := #[.string X.f0, .string X.f1, .int .i64 0]) (bpu (cs' := #[.string X.f0, .string (⟨#[]⟩ : ByteArray), .int .i64 0]) HF5.out 0 (.string X.f0) rfl) 1 (.string X.f1) rfl) 2 (.int .i64 X.f2) rfl)
  have HB6 := Aside0.mk (bse (bse (bse HB5.out HG7.out.1 (j := 0) (v := .string X.f0)) HG7.out.1 (j := 1) (v := .string X.f1)) HG7.out.1 (j := 2) (v := .int .i64 X.f2))
  generalize ((w5.setCell ⟨g7, 0, none⟩ (.string X.f0)).setCell ⟨g7, 1, none⟩ (.string X.f1)).setCell ⟨g7, 2, none⟩ (.int .i64 X.f2) = w6 at HX6 HO6 HY6 HF6 HB6 ⊢
  clear hz7 HX5 HO5 HY5 HF5 HB5
  have hz6 := qz4 HO6.out
  have hx6 := qz6 HX6.out
  have hf6 := qz3 HF6.out
  go_upto_region 16 with fail
  refine start_ (n := 6) (S := (fun w' =>  w'.cell? ⟨gb, 0, none⟩ = some (.slice (some ⟨g, 0, none⟩) l.length c) ∧ w'.cell? ⟨gb, 1, none⟩ = some (.int .i64 cap) ∧ w'.cell? ⟨gb, 2, none⟩ = some (.int .i64 cnt) ∧ w'.cell? ⟨gb, 3, none⟩ = some (.int .i64 cr) ∧ w'.cell? ⟨gb, 4, none⟩ = some (.int .i64 fa) ∧ w'.cell? ⟨gb, 5, none⟩ = some (.bool dn) )) (ds := []) #[false, false, false, false, false, false] (by kernel_rfl) rfl rfl (qy6 (bkD HX6.out)) (fun hHeld => ?_)
  refine pure_ (i := 0) (N := some 48) (v := ?_) (a' := ?_) #[true, false, false, false, false, false] rfl rfl (by kernel_rfl) (fun _ _ _ h => h) (Or.inl ⟨by rfl, ?_⟩) ?_ ?_
  rotate_left
  · intro w'
    go_simp
    with_reducible rfl
  rotate_left
  · simp only [Act.put, List.setIfInBounds_toArray, List.set_cons_zero, List.set_cons_succ, i64_w, i32_w]
    rfl
  refine take_ (i := 1) (N := some 49) (v := ?_) (a' := ?_) #[true, true, false, false, false, false] rfl rfl (by kernel_rfl) (fun _ _ _ h => h) (Or.inl ⟨by rfl, ?_⟩) hHeld ?_ ?_
  rotate_left
  · rintro w' ⟨s0, s1, s2, s3, s4, s5⟩
    go_simp
    with_reducible rfl
  rotate_left
  · simp only [Act.put, List.setIfInBounds_toArray, List.set_cons_zero, List.set_cons_succ, i64_w, i32_w]
    rfl
  refine take_ (i := 2) (N := some 50) (v := ?_) (a' := ?_) #[true, true, true, false, false, false] rfl rfl (by kernel_rfl) (fun _ _ _ h => h) (Or.inl ⟨by rfl, ?_⟩) hHeld ?_ ?_
  rotate_left
  · rintro w' ⟨s0, s1, s2, s3, s4, s5⟩
    go_simp
    with_reducible rfl
  rotate_left
  · simp only [Act.put, List.setIfInBounds_toArray, List.set_cons_zero, List.set_cons_succ, i64_w, i32_w]
    rfl
  refine one_ (i := 3) (N := some 51) #[true, true, true, true, false, false] rfl rfl (by kernel_rfl) (by decide) (fun K hK => ?_)
  refine goes_ Tryz.func46 (by kernel_rfl) rfl #[.agg #[.slice (some ⟨g, 0, none⟩) l.length c, .int .i64 cap, .int .i64 cnt, .int .i64 cr, .int .i64 fa, .bool dn]] (by rfl) rfl rfl qA ?_
  (with_reducible refine (HBY.out _ (Kd.Cbe HR.out (bd1 HB6.out))).mono ?_)
  rintro e w10 ⟨rfl, hb⟩
  refine ⟨_, rfl, ?_⟩
  have HX10 := Aside0.mk (bbe (bkD HX6.out) hb)
  have HO10 := Aside0.mk (bbe (bkD HO6.out) hb)
  have HY10 := Aside0.mk (bbe (bkD HY6.out) hb)
  have HF10 := Aside0.mk (bbe (bkD HF6.out) hb)
  have HB10 := Aside0.mk (bst (bd1 HB6.out) hb)
  clear hb hz6 hx6 hf6
  refine hK.out _ _ (qy6 HX10.out) (fun hHeld => ?_)
  clear hK K
  refine norm_ (a' := ?_) ?_ ?_
  rotate_left
  · show Act.put _ (some 51) _ = _
    simp only [Act.put, List.setIfInBounds_toArray, List.set_cons_zero, List.set_cons_succ, i64_w, i32_w]
    rfl
  refine pure_ (i := 4) (N := some 52) (v := ?_) (a' := ?_) #[true, true, true, true, true, false] rfl rfl (by kernel_rfl) (fun _ _ _ h => h) (Or.inl ⟨by rfl, ?_⟩) ?_ ?_
  rotate_left
  · intro w'
    go_simp
    with_reducible rfl
  rotate_left
  · simp only [Act.put, List.setIfInBounds_toArray, List.set_cons_zero, List.set_cons_succ, i64_w, i32_w]
    rfl
  refine pure_ (i := 5) (N := some 10) (v := ?_) (a' := ?_) #[true, true, true, true, true, true] rfl rfl (by kernel_rfl) (fun _ _ _ h => h) (Or.inl ⟨by rfl, ?_⟩) ?_ ?_
  rotate_left
  · intro w'
    go_simp
    with_reducible rfl
  rotate_left
  · simp only [Act.put, List.setIfInBounds_toArray, List.set_cons_zero, List.set_cons_succ, i64_w, i32_w]
    rfl
  refine done_ (by kernel_rfl) ?_
  simp only [HWR.out]
  have hz10 := qz4 HO10.out
  have hx10 := qz6 HX10.out
  have hf10 := qz3 HF10.out
  clear hHeld
  go_upto_region 31 with fail
  clear hz10 hx10 hf10
  have HX7 := Aside0.mk (bfa HX10.out HG7.out.2.1 (p := ⟨g7, 1, none⟩) (.string (X.f1 ++ data.extract 0 R)))
  have HO7 := Aside0.mk (bfa HO10.out HG7.out.2.2.1 (p := ⟨g7, 1, none⟩) (.string (X.f1 ++ data.extract 0 R)))
  have HY7 := Aside0.mk (bfa HY10.out HG7.out.2.2.2 (p := ⟨g7, 1, none⟩) (.string (X.f1 ++ data.extract 0 R)))
  have HF7 := Aside0.mk (bpu (cs' := #[.string X.f0, .string (X.f1 ++ data.extract 0 R), .int .i64 X.f2]) HF10.out 1 (.string (X.f1 ++ data.extract 0 R)) rfl)
  have HB7 := Aside0.mk (bse HB10.out HG7.out.1 (j := 1) (v := .string (X.f1 ++ data.extract 0 R)))
  generalize (w10).setCell ⟨g7, 1, none⟩ (.string (X.f1 ++ data.extract 0 R)) = w7 at HX7 HO7 HY7 HF7 HB7 ⊢
  have hz9 := qz4 HO7.out
  have hx9 := qz6 HX7.out
  go_wp2_with (first | ((with_reducible refine gds (N := 105) rfl ?_); refine wpList_load_row rfl 61 (.tmp 7) rfl g7 ?hp 61 #[.string X.f0, .string (X.f1 ++ data.extract 0 R), .int .i64 X.f2] (0, 0) _ ?hg Tryz.underlying61 ?ha ?hi ?_; (case hp => rfl); (case hg => exact HF7.out); (case ha => rfl); (case hi => exact infoFile)) | (go_at_call 49; (with_reducible refine (HW.out _ (Kd.Cbe HR.out HB7.out)).mono ?_); rintro e w8 ⟨v', rfl, ho, hb⟩; obtain ⟨A2, c2, rfl⟩ := Kd.R_slice ho; have HX8 := Aside0.mk (bbe HX7.out hb); have HY8 := Aside0.mk (bbe HY7.out hb); have HB8 := Aside0.mk (bst HB7.out hb); have HV8 := Aside0.mk (Kd.Rlo ho HB7.out.size); have hx8 := qz6 HX8.out; clear ho hb) | ((with_reducible refine gds (N := 108) rfl ?_); refine wpList_load_row rfl 30 (.tmp 2) rfl gb ?hp 30 #[.slice A2 l'.length c2, .int .i64 cap, .int .i64 cnt, .int .i64 cr, .int .i64 fa, .bool dn] (0, 0) _ ?hg Tryz.underlying30 ?ha ?hi ?_; (case hp => rfl); (case hg => exact (bpu HX8.out 0 _ rfl)); (case ha => rfl); (case hi => exact infoFs)) | ((with_reducible refine gst (t := 30) (p := 4) rfl ?_); refine wpList_store_row rfl 30 (.tmp 4) (.tmp 108) rfl gr #[.slice A2 l'.length c2, .int .i64 cap, .int .i64 cnt, .int .i64 cr, .int .i64 fa, .bool dn] ?hx ?hy 30 #[.slice none 0 0, .int .i64 0, .int .i64 0, .int .i64 0, .int .i64 0, .bool false] ?hg ?hi ?ho ?h1 ?_; (case hx => rfl); (case hy => rfl); (case hg => exact (bfa HY8.out HG3.out.2 _)); (case hi => exact infoFs); (case ho => rfl); (case h1 => simp [Value.oneCell'])))
  refine bodyPost_ret (results_ct rfl _ _ gr 30 #[.slice A2 l'.length c2, .int .i64 cap, .int .i64 cnt, .int .i64 cr, .int .i64 fa, .bool dn] (0, 0) _ rfl (heap_setRow_sameF (bfa HY8.out HG3.out.2 _)) Tryz.underlying30 rfl infoFs) rfl ⟨_, rfl, ?_, ?_⟩
  · exact fin_row HV8.out HX8.out HY8.out HG3.out.2 _
  · exact below_setRowF (bse HB8.out HGB.out) HG3.out.1 _
set_option maxHeartbeats 8000000 in
set_option maxRecDepth 100000 in
theorem l6Do_append_fits (g : Nat) (c : Nat) (l : List FileT) (cap cnt cr fa : Int) (dn : Bool) (kind : Int) (name data : ByteArray) (size : Int) (w : World)
    (hr : Kd.C FileK w (some ⟨g, 0, none⟩) l.length l) (i : Nat) (hfind : ∀ w', Kd.C FileK w' (some ⟨g, 0, none⟩) l.length l → Calls Tryz.prog 48 #[.agg #[.slice (some ⟨g, 0, none⟩) l.length c, .int .i64 cap, .int .i64 cnt, .int .i64 cr, .int .i64 fa, .bool dn], .string name] w' fun e w'' => e = .returned (.int .i64 (i : Int)) ∧ Below w'.heap.size w' w'')
    (hi : i < l.length) (X : FileT) (hX : l[i]? = some X) (hk : kind ≠ 1) (k2 : kind = 2) (n : Int) (hbytes : ∀ w', Kd.C FileK w' (some ⟨g, 0, none⟩) l.length l → Calls Tryz.prog 46 #[.agg #[.slice (some ⟨g, 0, none⟩) l.length c, .int .i64 cap, .int .i64 cnt, .int .i64 cr, .int .i64 fa, .bool dn]] w' fun e w'' => e = .returned (.int .i64 n) ∧ Below w'.heap.size w' w'') (R : Nat) (hR : cap - n = (R : Int)) (hR2 : R ≤ 1000000000) (hd2 : data.size ≤ 1000000000) (hX2 : X.f1.size ≤ 1000000000) (hr : ¬ R < data.size) (l' : List FileT) (hwith : ∀ w', Kd.C FileK w' (some ⟨g, 0, none⟩) l.length l → Calls Tryz.prog 49 #[.slice (some ⟨g, 0, none⟩) l.length c, .string name, .agg #[.string X.f0, .string (X.f1 ++ data), .int .i64 X.f2]] w' fun e w'' => ∃ v, e = .returned v ∧ Kd.R FileK 61 w'' w'.heap.size (fun _ => True) v l' ∧ Below w'.heap.size w' w'') :
    Calls Tryz.prog 33 #[.agg #[.slice (some ⟨g, 0, none⟩) l.length c, .int .i64 cap, .int .i64 cnt, .int .i64 cr, .int .i64 fa, .bool dn], .agg #[.int .i64 kind, .string name, .string data, .int .i64 size]] w fun e w' => ∃ v', e = .returned (.tuple #[.agg #[v', .int .i64 cap, .int .i64 cnt, .int .i64 cr, .int .i64 fa, .bool dn], .int .i64 0]) ∧ Kd.R FileK 61 w' w.heap.size (fun _ => True) v' l' ∧ Below w.heap.size w w' := by
  have c0 : (kind == 1) = false := beq_eq_false_iff_ne.mpr hk
  have c1 : decide ((i : Int) < 0) = false := decide_eq_false (by omega)
  have hi0 : (0 : Int) ≤ (i : Int) := by omega
  have hiz : (i : Int) < (l.length : Int) := by omega
  have HI := Aside0.mk (And.intro hi hX)
  clear hk hi hX
  have HW := Aside0.mk hwith
  clear hwith
  have c2 : (kind == 2) = true := beq_iff_eq.mpr k2
  clear k2
  have HBY := Aside0.mk hbytes
  have hwr : wrap64 (cap - n) = (R : Int) := by rw [hR]; unfold wrap64; omega
  have HWR := Aside0.mk hwr
  have r2 : (0 : Int) ≤ (R : Int) := by omega
  have r3 : (0 : Int) ≤ (data.size : Int) := by omega
  have r9 : ¬ (R : Int) < (data.size : Int) := by omega
  have r1 : decide ((R : Int) < (data.size : Int)) = false := decide_eq_false (by omega)
  have r4 : (9223372036854775807 < X.f1.size + data.size) = False := eq_false (by omega)
  clear hbytes hwr hR hR2 hd2 hX2 hr
  have HR := Aside0.mk hr
  have HFI := Aside0.mk hfind
  clear hr hfind
  go_enter Tryz.func33, Tryz.ntmps33
  go_upto_region 12 with (first | ((with_reducible refine gds (N := 2) rfl ?_); refine qbx 2 #[.slice (some ⟨g, 0, none⟩) l.length c, .int .i64 cap, .int .i64 cnt, .int .i64 cr, .int .i64 fa, .bool dn] 30 ?_; intro gb hg w1 hbox hb; have HB := Aside0.mk hb; have HX := Aside0.mk hbox; have HGB := Aside0.mk (Nat.le_of_eq hg.symm); clear hb hbox hg) | ((with_reducible refine gds (N := 3) rfl ?_); refine qbx 3 #[.int .i64 kind, .string name, .string data, .int .i64 size] 48 ?_; intro go_ hg w2 hbox hb; have HX2 := Aside0.mk (bbe HX.out hb); have HO2 := Aside0.mk hbox; have HB2 := Aside0.mk (bst HB.out hb); clear hb hbox hg) | ((with_reducible refine gds (N := 4) rfl ?_); refine qbx 4 #[.slice none 0 0, .int .i64 0, .int .i64 0, .int .i64 0, .int .i64 0, .bool false] 30 ?_; intro gr hg w3 hbox hb; have HX3 := Aside0.mk (bbe HX2.out hb); have HO3 := Aside0.mk (bbe HO2.out hb); have HY3 := Aside0.mk hbox; have HB3 := Aside0.mk (bst HB2.out hb); have HG3 := Aside0.mk (And.intro (Nat.le_trans HB2.out.size (Nat.le_of_eq hg.symm)) (Nat.ne_of_gt (hg ▸ blt HX2.out : gb < gr))); have hz3 := qz4 HO3.out; clear hb hbox hg) | ((with_reducible refine gds (N := 11) rfl ?_); refine wpList_load_row rfl 30 (.tmp 2) rfl gb ?hp 30 #[.slice (some ⟨g, 0, none⟩) l.length c, .int .i64 cap, .int .i64 cnt, .int .i64 cr, .int .i64 fa, .bool dn] (0, 0) _ ?hg Tryz.underlying30 ?ha ?hi ?_; (case hp => rfl); (case hg => exact HX3.out); (case ha => rfl); (case hi => exact infoFs)) | (go_at_call 48; (with_reducible refine (HFI.out _ (Kd.Cbe HR.out HB3.out)).mono ?_); rintro e w4 ⟨rfl, hb⟩; have HX4 := Aside0.mk (bbe HX3.out hb); have HO4 := Aside0.mk (bbe HO3.out hb); have HY4 := Aside0.mk (bbe HY3.out hb); have HB4 := Aside0.mk (bst HB3.out hb); have hz4 := qz4 HO4.out; have hx4 := qz6 HX4.out; clear hb hz3; obtain ⟨e40, e41, e42⟩ := C_cells (Kd.Cbe HR.out HB4.out) i HI.out.1 X HI.out.2) | ((with_reducible refine gds (N := 7) rfl ?_); refine qbx 7 #[.string (⟨#[]⟩ : ByteArray), .string (⟨#[]⟩ : ByteArray), .int .i64 0] 61 ?_; intro g7 hg w5 hbox hb; have HX5 := Aside0.mk (bbe HX4.out hb); have HO5 := Aside0.mk (bbe HO4.out hb); have HY5 := Aside0.mk (bbe HY4.out hb); have HB5 := Aside0.mk (bst HB4.out hb); have HF5 := Aside0.mk hbox; have HG7 := Aside0.mk (show w.heap.size ≤ g7 ∧ gb ≠ g7 ∧ go_ ≠ g7 ∧ gr ≠ g7 from ⟨Nat.le_trans HB4.out.size (Nat.le_of_eq hg.symm), Nat.ne_of_lt (hg ▸ blt HX4.out), Nat.ne_of_lt (hg ▸ blt HO4.out), Nat.ne_of_lt (hg ▸ blt HY4.out)⟩); have hz7 := qz3 hbox; clear hb hbox hg hz4 hx4))
  have HX6 := Aside0.mk (bfa (bfa (bfa HX5.out HG7.out.2.1 (p := ⟨g7, 0, none⟩) (.string X.f0)) HG7.out.2.1 (p := ⟨g7, 1, none⟩) (.string X.f1)) HG7.out.2.1 (p := ⟨g7, 2, none⟩) (.int .i64 X.f2))
  have HO6 := Aside0.mk (bfa (bfa (bfa HO5.out HG7.out.2.2.1 (p := ⟨g7, 0, none⟩) (.string X.f0)) HG7.out.2.2.1 (p := ⟨g7, 1, none⟩) (.string X.f1)) HG7.out.2.2.1 (p := ⟨g7, 2, none⟩) (.int .i64 X.f2))
  have HY6 := Aside0.mk (bfa (bfa (bfa HY5.out HG7.out.2.2.2 (p := ⟨g7, 0, none⟩) (.string X.f0)) HG7.out.2.2.2 (p := ⟨g7, 1, none⟩) (.string X.f1)) HG7.out.2.2.2 (p := ⟨g7, 2, none⟩) (.int .i64 X.f2))
  have HF6 := Aside0.mk (bpu (cs' := #[.string X.f0, .string X.f1, .int .i64 X.f2]) (bpu (cs' := #[.string X.f0, .string X.f1, .int .i64 0]) (bpu (cs' := #[.string X.f0, .string (⟨#[]⟩ : ByteArray), .int .i64 0]) HF5.out 0 (.string X.f0) rfl) 1 (.string X.f1) rfl) 2 (.int .i64 X.f2) rfl)
  have HB6 := Aside0.mk (bse (bse (bse HB5.out HG7.out.1 (j := 0) (v := .string X.f0)) HG7.out.1 (j := 1) (v := .string X.f1)) HG7.out.1 (j := 2) (v := .int .i64 X.f2))
  generalize ((w5.setCell ⟨g7, 0, none⟩ (.string X.f0)).setCell ⟨g7, 1, none⟩ (.string X.f1)).setCell ⟨g7, 2, none⟩ (.int .i64 X.f2) = w6 at HX6 HO6 HY6 HF6 HB6 ⊢
  clear hz7 HX5 HO5 HY5 HF5 HB5
  have hz6 := qz4 HO6.out
  have hx6 := qz6 HX6.out
  have hf6 := qz3 HF6.out
  go_upto_region 16 with fail
  refine start_ (n := 6) (S := (fun w' =>  w'.cell? ⟨gb, 0, none⟩ = some (.slice (some ⟨g, 0, none⟩) l.length c) ∧ w'.cell? ⟨gb, 1, none⟩ = some (.int .i64 cap) ∧ w'.cell? ⟨gb, 2, none⟩ = some (.int .i64 cnt) ∧ w'.cell? ⟨gb, 3, none⟩ = some (.int .i64 cr) ∧ w'.cell? ⟨gb, 4, none⟩ = some (.int .i64 fa) ∧ w'.cell? ⟨gb, 5, none⟩ = some (.bool dn) )) (ds := []) #[false, false, false, false, false, false] (by kernel_rfl) rfl rfl (qy6 (bkD HX6.out)) (fun hHeld => ?_)
  refine pure_ (i := 0) (N := some 48) (v := ?_) (a' := ?_) #[true, false, false, false, false, false] rfl rfl (by kernel_rfl) (fun _ _ _ h => h) (Or.inl ⟨by rfl, ?_⟩) ?_ ?_
  rotate_left
  · intro w'
    go_simp
    with_reducible rfl
  rotate_left
  · simp only [Act.put, List.setIfInBounds_toArray, List.set_cons_zero, List.set_cons_succ, i64_w, i32_w]
    rfl
  refine take_ (i := 1) (N := some 49) (v := ?_) (a' := ?_) #[true, true, false, false, false, false] rfl rfl (by kernel_rfl) (fun _ _ _ h => h) (Or.inl ⟨by rfl, ?_⟩) hHeld ?_ ?_
  rotate_left
  · rintro w' ⟨s0, s1, s2, s3, s4, s5⟩
    go_simp
    with_reducible rfl
  rotate_left
  · simp only [Act.put, List.setIfInBounds_toArray, List.set_cons_zero, List.set_cons_succ, i64_w, i32_w]
    rfl
  refine take_ (i := 2) (N := some 50) (v := ?_) (a' := ?_) #[true, true, true, false, false, false] rfl rfl (by kernel_rfl) (fun _ _ _ h => h) (Or.inl ⟨by rfl, ?_⟩) hHeld ?_ ?_
  rotate_left
  · rintro w' ⟨s0, s1, s2, s3, s4, s5⟩
    go_simp
    with_reducible rfl
  rotate_left
  · simp only [Act.put, List.setIfInBounds_toArray, List.set_cons_zero, List.set_cons_succ, i64_w, i32_w]
    rfl
  refine one_ (i := 3) (N := some 51) #[true, true, true, true, false, false] rfl rfl (by kernel_rfl) (by decide) (fun K hK => ?_)
  refine goes_ Tryz.func46 (by kernel_rfl) rfl #[.agg #[.slice (some ⟨g, 0, none⟩) l.length c, .int .i64 cap, .int .i64 cnt, .int .i64 cr, .int .i64 fa, .bool dn]] (by rfl) rfl rfl qA ?_
  (with_reducible refine (HBY.out _ (Kd.Cbe HR.out (bd1 HB6.out))).mono ?_)
  rintro e w10 ⟨rfl, hb⟩
  refine ⟨_, rfl, ?_⟩
  have HX10 := Aside0.mk (bbe (bkD HX6.out) hb)
  have HO10 := Aside0.mk (bbe (bkD HO6.out) hb)
  have HY10 := Aside0.mk (bbe (bkD HY6.out) hb)
  have HF10 := Aside0.mk (bbe (bkD HF6.out) hb)
  have HB10 := Aside0.mk (bst (bd1 HB6.out) hb)
  clear hb hz6 hx6 hf6
  refine hK.out _ _ (qy6 HX10.out) (fun hHeld => ?_)
  clear hK K
  refine norm_ (a' := ?_) ?_ ?_
  rotate_left
  · show Act.put _ (some 51) _ = _
    simp only [Act.put, List.setIfInBounds_toArray, List.set_cons_zero, List.set_cons_succ, i64_w, i32_w]
    rfl
  refine pure_ (i := 4) (N := some 52) (v := ?_) (a' := ?_) #[true, true, true, true, true, false] rfl rfl (by kernel_rfl) (fun _ _ _ h => h) (Or.inl ⟨by rfl, ?_⟩) ?_ ?_
  rotate_left
  · intro w'
    go_simp
    with_reducible rfl
  rotate_left
  · simp only [Act.put, List.setIfInBounds_toArray, List.set_cons_zero, List.set_cons_succ, i64_w, i32_w]
    rfl
  refine pure_ (i := 5) (N := some 10) (v := ?_) (a' := ?_) #[true, true, true, true, true, true] rfl rfl (by kernel_rfl) (fun _ _ _ h => h) (Or.inl ⟨by rfl, ?_⟩) ?_ ?_
  rotate_left
  · intro w'
    go_simp
    with_reducible rfl
  rotate_left
  · simp only [Act.put, List.setIfInBounds_toArray, List.set_cons_zero, List.set_cons_succ, i64_w, i32_w]
    rfl
  refine done_ (by kernel_rfl) ?_
  simp only [HWR.out]
  have hz10 := qz4 HO10.out
  have hx10 := qz6 HX10.out
  have hf10 := qz3 HF10.out
  clear hHeld
  go_upto_region 31 with fail
  clear hz10 hx10 hf10
  have HX7 := Aside0.mk (bfa HX10.out HG7.out.2.1 (p := ⟨g7, 1, none⟩) (.string (X.f1 ++ data)))
  have HO7 := Aside0.mk (bfa HO10.out HG7.out.2.2.1 (p := ⟨g7, 1, none⟩) (.string (X.f1 ++ data)))
  have HY7 := Aside0.mk (bfa HY10.out HG7.out.2.2.2 (p := ⟨g7, 1, none⟩) (.string (X.f1 ++ data)))
  have HF7 := Aside0.mk (bpu (cs' := #[.string X.f0, .string (X.f1 ++ data), .int .i64 X.f2]) HF10.out 1 (.string (X.f1 ++ data)) rfl)
  have HB7 := Aside0.mk (bse HB10.out HG7.out.1 (j := 1) (v := .string (X.f1 ++ data)))
  generalize (w10).setCell ⟨g7, 1, none⟩ (.string (X.f1 ++ data)) = w7 at HX7 HO7 HY7 HF7 HB7 ⊢
  have hz9 := qz4 HO7.out
  have hx9 := qz6 HX7.out
  go_wp2_with (first | ((with_reducible refine gds (N := 105) rfl ?_); refine wpList_load_row rfl 61 (.tmp 7) rfl g7 ?hp 61 #[.string X.f0, .string (X.f1 ++ data), .int .i64 X.f2] (0, 0) _ ?hg Tryz.underlying61 ?ha ?hi ?_; (case hp => rfl); (case hg => exact HF7.out); (case ha => rfl); (case hi => exact infoFile)) | (go_at_call 49; (with_reducible refine (HW.out _ (Kd.Cbe HR.out HB7.out)).mono ?_); rintro e w8 ⟨v', rfl, ho, hb⟩; obtain ⟨A2, c2, rfl⟩ := Kd.R_slice ho; have HX8 := Aside0.mk (bbe HX7.out hb); have HY8 := Aside0.mk (bbe HY7.out hb); have HB8 := Aside0.mk (bst HB7.out hb); have HV8 := Aside0.mk (Kd.Rlo ho HB7.out.size); have hx8 := qz6 HX8.out; clear ho hb) | ((with_reducible refine gds (N := 108) rfl ?_); refine wpList_load_row rfl 30 (.tmp 2) rfl gb ?hp 30 #[.slice A2 l'.length c2, .int .i64 cap, .int .i64 cnt, .int .i64 cr, .int .i64 fa, .bool dn] (0, 0) _ ?hg Tryz.underlying30 ?ha ?hi ?_; (case hp => rfl); (case hg => exact (bpu HX8.out 0 _ rfl)); (case ha => rfl); (case hi => exact infoFs)) | ((with_reducible refine gst (t := 30) (p := 4) rfl ?_); refine wpList_store_row rfl 30 (.tmp 4) (.tmp 108) rfl gr #[.slice A2 l'.length c2, .int .i64 cap, .int .i64 cnt, .int .i64 cr, .int .i64 fa, .bool dn] ?hx ?hy 30 #[.slice none 0 0, .int .i64 0, .int .i64 0, .int .i64 0, .int .i64 0, .bool false] ?hg ?hi ?ho ?h1 ?_; (case hx => rfl); (case hy => rfl); (case hg => exact (bfa HY8.out HG3.out.2 _)); (case hi => exact infoFs); (case ho => rfl); (case h1 => simp [Value.oneCell'])))
  refine bodyPost_ret (results_ct rfl _ _ gr 30 #[.slice A2 l'.length c2, .int .i64 cap, .int .i64 cnt, .int .i64 cr, .int .i64 fa, .bool dn] (0, 0) _ rfl (heap_setRow_sameF (bfa HY8.out HG3.out.2 _)) Tryz.underlying30 rfl infoFs) rfl ⟨_, rfl, ?_, ?_⟩
  · exact fin_row HV8.out HX8.out HY8.out HG3.out.2 _
  · exact below_setRowF (bse HB8.out HGB.out) HG3.out.1 _
end Go.Proofs.YtfknmohedlfmfaaGreatDoor.L
end
