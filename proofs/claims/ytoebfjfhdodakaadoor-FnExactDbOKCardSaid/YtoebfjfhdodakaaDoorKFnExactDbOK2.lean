/- The texts that the proof of the law FnExactDbOK rests on, part 2: printed functions with their contracts, words, plain laws; the last part ends in the statement itself. No condition but those that each theorem states. -/
import Derived.Test.YtoebfjfhdodakaaDoorKFnExactDbOK1
set_option linter.unusedVariables false
set_option linter.unusedSimpArgs false
section
namespace Go.Proofs.YtoebfjfhdodakaaDoor.L
open Go.RowKit Go.Proofs.YtoebfjfhdodakaaDoorW.PrintWords Go.Proofs.YtoebfjfhdodakaaDoorW.PrintLast Go.Proofs.YtoebfjfhdodakaaDoorW.PrintMore
attribute [local go_sem] max2_int min2_int max_two min_two max_three min_three max_four min_four
set_option linter.unusedVariables false
set_option linter.unusedSimpArgs false
mutual
def spec_l5TableOK.j0 : Nat → Bool → ByteArray → List (S52) → List (List (S57)) → Option (Bool)
  | 0, _, _, _, _ => none
  | k + 1, x25, x136000, x136001, x136002 => if x25 = true then (some false) else (spec_l5TableOK.l0 k x136001 (x136001.length : Int) 0 x136000 x136001 x136002)
def spec_l5TableOK.l0 : Nat → List (S52) → Int → Int → ByteArray → List (S52) → List (List (S57)) → Option (Bool)
  | 0, _, _, _, _, _, _ => none
  | k + 1, x27, x28, x29, x136000, x136001, x136002 => if x29 < x28 then (if 0 ≤ x29 then (if x29 < (x27.length : Int) then ((spec_l4Name.f k ((rd_T52 x27 x29).f0)).bind fun t140 => (if t140 = true then ((spec_l4Type.f ((rd_T52 x27 x29).f1)).bind fun t141 => (if t141 = true then (if x29 ≤ (x136001.length : Int) then ((spec_l5Col.f k (x136001.take (x29 : Int).toNat) ((rd_T52 x27 x29).f0)).bind fun t146 => (if t146 ≥ 0 then (some false) else (spec_l5TableOK.l0 k x27 x28 (wrap64 (x29 + 1)) x136000 x136001 x136002))) else (none)) else (some false))) else (some false))) else (none)) else (none)) else (spec_l5TableOK.l1 k x136002 (x136002.length : Int) 0 x136000 x136001 x136002)
def spec_l5TableOK.l1 : Nat → List (List (S57)) → Int → Int → ByteArray → List (S52) → List (List (S57)) → Option (Bool)
  | 0, _, _, _, _, _, _ => none
  | k + 1, x56, x57, x58, x136000, x136001, x136002 => if x58 < x57 then (if 0 ≤ x58 then (if x58 < (x56.length : Int) then (if ((rd_L10 x56 x58).length : Int) = (x136001.length : Int) then (spec_l5TableOK.l2 k x58 (rd_L10 x56 x58) x56 x57 x58 (rd_L10 x56 x58) ((rd_L10 x56 x58).length : Int) 0 x136000 x136001 x136002) else (some false)) else (none)) else (none)) else (some true)
def spec_l5TableOK.l2 : Nat → Int → List (S57) → List (List (S57)) → Int → Int → List (S57) → Int → Int → ByteArray → List (S52) → List (List (S57)) → Option (Bool)
  | 0, _, _, _, _, _, _, _, _, _, _, _ => none
  | k + 1, x5, x6, x56, x57, x58, x69, x70, x71, x136000, x136001, x136002 => if x71 < x70 then (if 0 ≤ x71 then (if x71 < (x69.length : Int) then (if x71 < (x136001.length : Int) then ((spec_l5Right.f k ((rd_T57 x69 x71).f0) ((rd_T57 x69 x71).f1) ((rd_T57 x69 x71).f2) ((rd_T52 x136001 x71).f1)).bind fun t151 => (if t151 = true then (spec_l5TableOK.l2 k x5 x6 x56 x57 x58 x69 x70 (wrap64 (x71 + 1)) x136000 x136001 x136002) else (some false))) else (none)) else (none)) else (none)) else (if x5 > 0 then (if 0 ≤ (wrap64 (x5 - 1)) then (if (wrap64 (x5 - 1)) < (x136002.length : Int) then (if 0 < ((rd_L10 x136002 (wrap64 (x5 - 1))).length : Int) then (if 0 < (x6.length : Int) then ((spec_l5Compare.f k ((rd_T57 (rd_L10 x136002 (wrap64 (x5 - 1))) 0).f0) ((rd_T57 (rd_L10 x136002 (wrap64 (x5 - 1))) 0).f1) ((rd_T57 (rd_L10 x136002 (wrap64 (x5 - 1))) 0).f2) ((rd_T57 x6 0).f0) ((rd_T57 x6 0).f1) ((rd_T57 x6 0).f2)).bind fun t155 => (if t155 ≥ 0 then (some false) else (spec_l5TableOK.l1 k x56 x57 (wrap64 (x58 + 1)) x136000 x136001 x136002))) else (none)) else (none)) else (none)) else (none)) else (spec_l5TableOK.l1 k x56 x57 (wrap64 (x58 + 1)) x136000 x136001 x136002))
end
def spec_l5TableOK.f (k : Nat) (a0_0 : ByteArray) (l0_1 : List (S52)) (l0_2 : List (List (S57))) : Option (Bool) := (spec_l4Name.f k a0_0).bind fun t136 => (if t136 = true then ((spec_l1Between.f (l0_1.length : Int) 1 20).bind fun t137 => (if t137 = true then (spec_l5TableOK.j0 k (decide ((l0_2.length : Int) > 1000)) a0_0 l0_1 l0_2) else (spec_l5TableOK.j0 k true a0_0 l0_1 l0_2))) else (spec_l5TableOK.j0 k true a0_0 l0_1 l0_2))
theorem spec_l5TableOK.mono_l : ∀ k, (∀ y0 y1 y2 y3, LeO (spec_l5TableOK.j0 k y0 y1 y2 y3) (spec_l5TableOK.j0 (k + 1) y0 y1 y2 y3)) ∧ (∀ y0 y1 y2 y3 y4 y5, LeO (spec_l5TableOK.l0 k y0 y1 y2 y3 y4 y5) (spec_l5TableOK.l0 (k + 1) y0 y1 y2 y3 y4 y5)) ∧ (∀ y0 y1 y2 y3 y4 y5, LeO (spec_l5TableOK.l1 k y0 y1 y2 y3 y4 y5) (spec_l5TableOK.l1 (k + 1) y0 y1 y2 y3 y4 y5)) ∧ (∀ y0 y1 y2 y3 y4 y5 y6 y7 y8 y9 y10, LeO (spec_l5TableOK.l2 k y0 y1 y2 y3 y4 y5 y6 y7 y8 y9 y10) (spec_l5TableOK.l2 (k + 1) y0 y1 y2 y3 y4 y5 y6 y7 y8 y9 y10))
  | 0 => ⟨fun _ _ _ _ r h => by simp [spec_l5TableOK.j0] at h, fun _ _ _ _ _ _ r h => by simp [spec_l5TableOK.l0] at h, fun _ _ _ _ _ _ r h => by simp [spec_l5TableOK.l1] at h, fun _ _ _ _ _ _ _ _ _ _ _ r h => by simp [spec_l5TableOK.l2] at h⟩
  | k + 1 => by
    obtain ⟨ih0, ih1, ih2, ih3⟩ := spec_l5TableOK.mono_l k
    refine ⟨?_, ?_, ?_, ?_⟩
    · intro y0 y1 y2 y3
      unfold spec_l5TableOK.j0
      repeat' first
      | (with_reducible exact ih0 _ _ _ _)
      | (with_reducible exact ih1 _ _ _ _ _ _)
      | (with_reducible exact ih2 _ _ _ _ _ _)
      | (with_reducible exact ih3 _ _ _ _ _ _ _ _ _ _ _)
      | (with_reducible exact spec_l4Name.mono _ _)
      | (with_reducible exact spec_l5Col.mono _ _ _)
      | (with_reducible exact spec_l5Compare.mono _ _ _ _ _ _ _)
      | (with_reducible exact spec_l5Right.mono _ _ _ _ _)
      | (with_reducible exact LeO.refl _)
      | (with_reducible exact LeO.none _)
      | (with_reducible refine LeO.ite ?_ ?_)
      | (with_reducible refine LeO.bind ?_ (fun _ => ?_))
      | exact ih0 _ _ _ _
      | exact ih1 _ _ _ _ _ _
      | exact ih2 _ _ _ _ _ _
      | exact ih3 _ _ _ _ _ _ _ _ _ _ _
      | exact spec_l4Name.mono _ _
      | exact spec_l5Col.mono _ _ _
      | exact spec_l5Compare.mono _ _ _ _ _ _ _
      | exact spec_l5Right.mono _ _ _ _ _
      | exact LeO.none _
      | refine LeO.ite ?_ ?_
      | refine LeO.bind ?_ (fun _ => ?_)
    · intro y0 y1 y2 y3 y4 y5
      unfold spec_l5TableOK.l0
      repeat' first
      | (with_reducible exact ih0 _ _ _ _)
      | (with_reducible exact ih1 _ _ _ _ _ _)
      | (with_reducible exact ih2 _ _ _ _ _ _)
      | (with_reducible exact ih3 _ _ _ _ _ _ _ _ _ _ _)
      | (with_reducible exact spec_l4Name.mono _ _)
      | (with_reducible exact spec_l5Col.mono _ _ _)
      | (with_reducible exact spec_l5Compare.mono _ _ _ _ _ _ _)
      | (with_reducible exact spec_l5Right.mono _ _ _ _ _)
      | (with_reducible exact LeO.refl _)
      | (with_reducible exact LeO.none _)
      | (with_reducible refine LeO.ite ?_ ?_)
      | (with_reducible refine LeO.bind ?_ (fun _ => ?_))
      | exact ih0 _ _ _ _
      | exact ih1 _ _ _ _ _ _
      | exact ih2 _ _ _ _ _ _
      | exact ih3 _ _ _ _ _ _ _ _ _ _ _
      | exact spec_l4Name.mono _ _
      | exact spec_l5Col.mono _ _ _
      | exact spec_l5Compare.mono _ _ _ _ _ _ _
      | exact spec_l5Right.mono _ _ _ _ _
      | exact LeO.none _
      | refine LeO.ite ?_ ?_
      | refine LeO.bind ?_ (fun _ => ?_)
    · intro y0 y1 y2 y3 y4 y5
      unfold spec_l5TableOK.l1
      repeat' first
      | (with_reducible exact ih0 _ _ _ _)
      | (with_reducible exact ih1 _ _ _ _ _ _)
      | (with_reducible exact ih2 _ _ _ _ _ _)
      | (with_reducible exact ih3 _ _ _ _ _ _ _ _ _ _ _)
      | (with_reducible exact spec_l4Name.mono _ _)
      | (with_reducible exact spec_l5Col.mono _ _ _)
      | (with_reducible exact spec_l5Compare.mono _ _ _ _ _ _ _)
      | (with_reducible exact spec_l5Right.mono _ _ _ _ _)
      | (with_reducible exact LeO.refl _)
      | (with_reducible exact LeO.none _)
      | (with_reducible refine LeO.ite ?_ ?_)
      | (with_reducible refine LeO.bind ?_ (fun _ => ?_))
      | exact ih0 _ _ _ _
      | exact ih1 _ _ _ _ _ _
      | exact ih2 _ _ _ _ _ _
      | exact ih3 _ _ _ _ _ _ _ _ _ _ _
      | exact spec_l4Name.mono _ _
      | exact spec_l5Col.mono _ _ _
      | exact spec_l5Compare.mono _ _ _ _ _ _ _
      | exact spec_l5Right.mono _ _ _ _ _
      | exact LeO.none _
      | refine LeO.ite ?_ ?_
      | refine LeO.bind ?_ (fun _ => ?_)
    · intro y0 y1 y2 y3 y4 y5 y6 y7 y8 y9 y10
      unfold spec_l5TableOK.l2
      repeat' first
      | (with_reducible exact ih0 _ _ _ _)
      | (with_reducible exact ih1 _ _ _ _ _ _)
      | (with_reducible exact ih2 _ _ _ _ _ _)
      | (with_reducible exact ih3 _ _ _ _ _ _ _ _ _ _ _)
      | (with_reducible exact spec_l4Name.mono _ _)
      | (with_reducible exact spec_l5Col.mono _ _ _)
      | (with_reducible exact spec_l5Compare.mono _ _ _ _ _ _ _)
      | (with_reducible exact spec_l5Right.mono _ _ _ _ _)
      | (with_reducible exact LeO.refl _)
      | (with_reducible exact LeO.none _)
      | (with_reducible refine LeO.ite ?_ ?_)
      | (with_reducible refine LeO.bind ?_ (fun _ => ?_))
      | exact ih0 _ _ _ _
      | exact ih1 _ _ _ _ _ _
      | exact ih2 _ _ _ _ _ _
      | exact ih3 _ _ _ _ _ _ _ _ _ _ _
      | exact spec_l4Name.mono _ _
      | exact spec_l5Col.mono _ _ _
      | exact spec_l5Compare.mono _ _ _ _ _ _ _
      | exact spec_l5Right.mono _ _ _ _ _
      | exact LeO.none _
      | refine LeO.ite ?_ ?_
      | refine LeO.bind ?_ (fun _ => ?_)
theorem spec_l5TableOK.mono : ∀ a0 a1 a2 k, LeO (spec_l5TableOK.f k a0 a1 a2) (spec_l5TableOK.f (k + 1) a0 a1 a2) := by
  intro a0 a1 a2 k
  obtain ⟨ih0, ih1, ih2, ih3⟩ := spec_l5TableOK.mono_l k
  unfold spec_l5TableOK.f
  repeat' first
      | (with_reducible exact ih0 _ _ _ _)
      | (with_reducible exact ih1 _ _ _ _ _ _)
      | (with_reducible exact ih2 _ _ _ _ _ _)
      | (with_reducible exact ih3 _ _ _ _ _ _ _ _ _ _ _)
      | (with_reducible exact spec_l4Name.mono _ _)
      | (with_reducible exact spec_l5Col.mono _ _ _)
      | (with_reducible exact spec_l5Compare.mono _ _ _ _ _ _ _)
      | (with_reducible exact spec_l5Right.mono _ _ _ _ _)
      | (with_reducible exact LeO.refl _)
      | (with_reducible exact LeO.none _)
      | (with_reducible refine LeO.ite ?_ ?_)
      | (with_reducible refine LeO.bind ?_ (fun _ => ?_))
      | exact ih0 _ _ _ _
      | exact ih1 _ _ _ _ _ _
      | exact ih2 _ _ _ _ _ _
      | exact ih3 _ _ _ _ _ _ _ _ _ _ _
      | exact spec_l4Name.mono _ _
      | exact spec_l5Col.mono _ _ _
      | exact spec_l5Compare.mono _ _ _ _ _ _ _
      | exact spec_l5Right.mono _ _ _ _ _
      | exact LeO.none _
      | refine LeO.ite ?_ ?_
      | refine LeO.bind ?_ (fun _ => ?_)
def spec_l5TableOK.T6 : Bool × List (List Nat × List Nat) := (true, [([], []), ([0], [0]), ([1], [1]), ([2], [2]), ([3, 2], [3]), ([4], [4]), ([5, 4], [4, 5]), ([6, 4, 4], [4, 6]), ([7, 4], [4, 7]), ([4, 8], [4, 8]), ([9, 7], [9]), ([10], [10]), ([11, 10], [10, 11]), ([10], [10]), ([12, 13, 10], [10, 12, 13]), ([10], [10]), ([15, 10], [10, 15]), ([14, 16, 10, 10], [10, 14, 16]), ([17, 10], [10, 17]), ([10, 18], [10, 18])])
def spec_l5TableOK.B6 : List Nat := [0, 1, 3, 7, 15, 31, 63, 127, 255, 511, 1023, 2047, 4095, 2047, 16383, 2047, 34815, 131071, 262143, 524287]
theorem spec_l5TableOK.tab6 : rtab .any (opsOf Tryd.f10 6) = spec_l5TableOK.T6 := by kernel_rfl
theorem spec_l5TableOK.bits6 : waitsOk spec_l5TableOK.T6.2 spec_l5TableOK.B6 = true := by kernel_rfl
def spec_l5TableOK.T17 : Bool × List (List Nat × List Nat) := (true, [([], []), ([], []), ([1], [1]), ([], []), ([2, 3], [2, 3]), ([4], [4]), ([5], [5]), ([0, 6], [0, 6]), ([7], [7])])
def spec_l5TableOK.B17 : List Nat := [0, 0, 2, 0, 14, 30, 62, 127, 255]
theorem spec_l5TableOK.tab17 : rtab .any (opsOf Tryd.f10 17) = spec_l5TableOK.T17 := by kernel_rfl
theorem spec_l5TableOK.bits17 : waitsOk spec_l5TableOK.T17.2 spec_l5TableOK.B17 = true := by kernel_rfl
def spec_l5TableOK.T20 : Bool × List (List Nat × List Nat) := (true, [([], []), ([0], [0]), ([1], [1]), ([2], [2]), ([3, 2], [2, 3]), ([2], [2]), ([5, 2], [2, 5]), ([4, 6, 2], [2, 4, 6]), ([7, 2], [2, 7]), ([8, 2], [2, 8]), ([9, 2], [2, 9]), ([2], [2]), ([11, 2], [2, 11]), ([12, 2], [2, 12]), ([10, 13, 2, 2], [2, 10, 13]), ([14, 2], [2, 14]), ([2, 15], [2, 15])])
def spec_l5TableOK.B20 : List Nat := [0, 1, 3, 7, 15, 7, 39, 127, 255, 511, 1023, 7, 2055, 6151, 16383, 32767, 65535]
theorem spec_l5TableOK.tab20 : rtab .any (opsOf Tryd.f10 20) = spec_l5TableOK.T20 := by kernel_rfl
theorem spec_l5TableOK.bits20 : waitsOk spec_l5TableOK.T20.2 spec_l5TableOK.B20 = true := by kernel_rfl
set_option maxHeartbeats 8000000 in
set_option maxRecDepth 100000 in
theorem spec_l5TableOK.calls (k : Nat) (a0_0 : ByteArray) (A0_1 : Option Addr) (c0_1 : Nat) (l0_1 : List (S52)) (A0_2 : Option Addr) (c0_2 : Nat) (l0_2 : List (List (S57))) (r : Bool) (w : World) (hr0_1 : Kd.C k52 w A0_1 l0_1.length l0_1) (hc0_1 : l0_1.length ≤ c0_1) (hr0_2 : Kd.C (Kd.slice 57 k57) w A0_2 l0_2.length l0_2) (hc0_2 : l0_2.length ≤ c0_2) (h : spec_l5TableOK.f k a0_0 l0_1 l0_2 = some r) :
    Calls Tryd.prog 10 #[.agg #[.string a0_0, .slice A0_1 l0_1.length c0_1, .slice A0_2 l0_2.length c0_2]] w fun e w' => e = .returned (.bool r) ∧ Below w.heap.size w w' := by
  have hu37 := Tryd.underlying37; have hu52 := Tryd.underlying52; have hu57 := Tryd.underlying57; have HR0_1 := qK hr0_1; have HC0_1 := qK hc0_1; clear hr0_1 hc0_1; have HR0_2 := qK hr0_2; have HC0_2 := qK hc0_2; clear hr0_2 hc0_2; have HB := qK (Below.refl w.heap.size w); have H : ((spec_l4Name.f k a0_0).bind fun t136 => (if t136 = true then ((spec_l1Between.f (l0_1.length : Int) 1 20).bind fun t137 => (if t137 = true then (spec_l5TableOK.j0 k (decide ((l0_2.length : Int) > 1000)) a0_0 l0_1 l0_2) else (spec_l5TableOK.j0 k true a0_0 l0_1 l0_2))) else (spec_l5TableOK.j0 k true a0_0 l0_1 l0_2))) = some r := h; clear h; have HC2 := qK H; clear H; go_enter Tryd.func10, Tryd.ntmps10; go_upto_region 1 with (first | ((with_reducible refine gds (N := 1) rfl ?_); (try (refine gate_guard (by rfl) ?_; dsimp only)); refine qbx 1 #[.string a0_0, .slice A0_1 l0_1.length c0_1, .slice A0_2 l0_2.length c0_2] 37 ?_; intro gb135 hg w3 hbox hb; have BK135 := qK (hbox); have GW135 := qK ((qW : w.heap.size ≤ gb135)); have GE135 := GW135; replace HB := qHB HB hb; clear hb hbox hg)); (try simp only [Act.put, List.setIfInBounds_toArray, List.set_cons_zero, List.set_cons_succ]); go_cut [25] (fun v25 wc => ∃ (kq : Nat) (x25_1 : Bool), v25 = .bool x25_1 ∧ Aside0 (spec_l5TableOK.j0 kq x25_1 a0_0 l0_1 l0_2 = some r) ∧ Aside0 (kq ≤ k) ∧ Aside0 (wc.heap[gb135]? = some (.cells #[.string a0_0, (.slice A0_1 l0_1.length c0_1), (.slice A0_2 l0_2.length c0_2)] 37 (0, 0))) ∧ Aside0 (Below w.heap.size w wc))
  case first =>
    have H := HC2.out; clear HC2; replace H := Option.bind_eq_some_iff.mp H; obtain ⟨t136, A40, H⟩ := H; have A4 := qK A40; clear A40; by_cases c5 : t136 = true
    · subst c5; rw [if_pos rfl] at H; replace H := Option.bind_eq_some_iff.mp H; obtain ⟨t137, A60, H⟩ := H; have A6 := qK A60; clear A60; by_cases c7 : t137 = true
      · subst c7; rw [if_pos rfl] at H; have H' := qK H; clear H; obtain ⟨hcz8_0, hcz8_1, hcz8_2⟩ := zC3 BK135.out; obtain ⟨hfz8_0, hfz8_1, hfz8_2⟩ := zF3 BK135.out; go_wp2_with (first | ((with_reducible refine gcl (f := 16) rfl ?_); refine goesL_ (some 11) rfl rfl Tryd.func16 (by kernel_rfl) rfl #[.string a0_0] rfl qA ?_; (with_reducible refine (spec_l4Name.calls k a0_0 true _ A4.out).mono ?_); rintro e w9 ⟨rfl, hb⟩; refine ⟨_, rfl, ?_⟩; replace BK135 := qbb BK135 hb; replace HB := qHB HB hb; (try clear hb); (try clear hb2); (try clear hk); (try clear hi); have hz10 := qz3 BK135.out) | (go_at_call 17; (with_reducible refine (spec_l1Between.calls (l0_1.length : Int) 1 20 true _ A6.out).mono ?_); rintro e w' ⟨rfl, ⟨nd, rfl⟩⟩)); go_meet
        case rel => exact ⟨_, (decide ((l0_2.length : Int) > 1000)), qS, H', ⟨by first | omega | exact Nat.le_refl _⟩, ⟨by (with_reducible repeat (first | refine bdN ?_ _ | refine bkD ?_ | refine bkA ?_ _)); exact BK135.out⟩, ⟨qB⟩⟩
      · replace c7 := Bool.eq_false_iff.mpr c7; subst c7; rw [if_neg qff] at H; have H' := qK H; clear H; obtain ⟨hcz11_0, hcz11_1, hcz11_2⟩ := zC3 BK135.out; obtain ⟨hfz11_0, hfz11_1, hfz11_2⟩ := zF3 BK135.out; go_wp2_with (first | ((with_reducible refine gcl (f := 16) rfl ?_); refine goesL_ (some 11) rfl rfl Tryd.func16 (by kernel_rfl) rfl #[.string a0_0] rfl qA ?_; (with_reducible refine (spec_l4Name.calls k a0_0 true _ A4.out).mono ?_); rintro e w12 ⟨rfl, hb⟩; refine ⟨_, rfl, ?_⟩; replace BK135 := qbb BK135 hb; replace HB := qHB HB hb; (try clear hb); (try clear hb2); (try clear hk); (try clear hi); have hz13 := qz3 BK135.out) | (go_at_call 17; (with_reducible refine (spec_l1Between.calls (l0_1.length : Int) 1 20 false _ A6.out).mono ?_); rintro e w' ⟨rfl, ⟨nd, rfl⟩⟩)); go_meet
        case rel => exact ⟨_, (true), qS, H', ⟨by first | omega | exact Nat.le_refl _⟩, ⟨by (with_reducible repeat (first | refine bdN ?_ _ | refine bkD ?_ | refine bkA ?_ _)); exact BK135.out⟩, ⟨qB⟩⟩
    · replace c5 := Bool.eq_false_iff.mpr c5; subst c5; rw [if_neg qff] at H; have H' := qK H; clear H; obtain ⟨hcz14_0, hcz14_1, hcz14_2⟩ := zC3 BK135.out; obtain ⟨hfz14_0, hfz14_1, hfz14_2⟩ := zF3 BK135.out; go_wp2_with (first | ((with_reducible refine gcl (f := 16) rfl ?_); refine goesL_ (some 11) rfl rfl Tryd.func16 (by kernel_rfl) rfl #[.string a0_0] rfl qA ?_; (with_reducible refine (spec_l4Name.calls k a0_0 false _ A4.out).mono ?_); rintro e w15 ⟨rfl, hb⟩; refine ⟨_, rfl, ?_⟩; replace BK135 := qbb BK135 hb; replace HB := qHB HB hb; (try clear hb); (try clear hb2); (try clear hk); (try clear hi))); go_meet
      case rel => exact ⟨_, (true), qS, H', ⟨by first | omega | exact Nat.le_refl _⟩, ⟨by (with_reducible repeat (first | refine bdN ?_ _ | refine bkD ?_ | refine bkA ?_ _)); exact BK135.out⟩, ⟨qB⟩⟩
  case rest =>
    clear HC2; (try clear c1); (try clear p2); (try clear c5); (try clear c7); (try clear c10); (try clear hz10); (try clear hcz11_0); (try clear hcz11_1); (try clear hcz11_2); (try clear hz13); (try clear hcz14_0); (try clear hcz14_1); (try clear hcz14_2); (try clear hcz8_0); (try clear hcz8_1); (try clear hcz8_2); (try clear hfz11_0); (try clear hfz11_1); (try clear hfz11_2); (try clear hfz14_0); (try clear hfz14_1); (try clear hfz14_2); (try clear hfz8_0); (try clear hfz8_1); (try clear hfz8_2); obtain ⟨kq, x25_1, rfl, HA, HJ1, BK135, HB⟩ := hcut
    cases kq with
    | zero => exact absurd HA.out (by simp [spec_l5TableOK.j0])
    | succ kj1 =>
      have H := HA.out; clear HA; simp only [spec_l5TableOK.j0] at H; by_cases c16 : x25_1 = true
      · subst c16; rw [if_pos rfl] at H; obtain rfl := Option.some.inj H; go_wp2; go_ret; exact ⟨qR, qB⟩
      · replace c16 := Bool.eq_false_iff.mpr c16; subst c16; rw [if_neg qff] at H; have H' := qK H; clear H; obtain ⟨hcz17_0, hcz17_1, hcz17_2⟩ := zC3 BK135.out; obtain ⟨hfz17_0, hfz17_1, hfz17_2⟩ := zF3 BK135.out; go_wp2; go_loopg [29] kj1 (fun kq v29 w' => ∃ (x29_2 : Int), v29 = .int .i64 x29_2 ∧ Aside0 (spec_l5TableOK.l0 kq l0_1 (l0_1.length : Int) x29_2 a0_0 l0_1 l0_2 = some r) ∧ Aside0 (kq ≤ kj1) ∧ Aside0 (w'.heap[gb135]? = some (.cells #[.string a0_0, (.slice A0_1 l0_1.length c0_1), (.slice A0_2 l0_2.length c0_2)] 37 (0, 0))) ∧ Aside0 (Below w.heap.size w w'))
        case atStart => exact ⟨(0), qS, H', ⟨Nat.le_refl _⟩, ⟨by (with_reducible repeat (first | refine bdN ?_ _ | refine bkD ?_ | refine bkA ?_ _)); exact BK135.out⟩, ⟨qB⟩⟩
        case round =>
          clear H'; (try clear c1); (try clear p2); (try clear c5); (try clear c7); (try clear c10); (try clear c16); (try clear hz10); (try clear hcz11_0); (try clear hcz11_1); (try clear hcz11_2); (try clear hz13); (try clear hcz14_0); (try clear hcz14_1); (try clear hcz14_2); (try clear hcz17_0); (try clear hcz17_1); (try clear hcz17_2); (try clear hcz8_0); (try clear hcz8_1); (try clear hcz8_2); (try clear hfz11_0); (try clear hfz11_1); (try clear hfz11_2); (try clear hfz14_0); (try clear hfz14_1); (try clear hfz14_2); (try clear hfz17_0); (try clear hfz17_1); (try clear hfz17_2); (try clear hfz8_0); (try clear hfz8_1); (try clear hfz8_2); obtain ⟨x29_2, rfl, HA, HK2, BK135, HB⟩ := hrel
          cases gk with
          | zero => exact absurd HA.out (by simp [spec_l5TableOK.l0])
          | succ k2 =>
            have H := HA.out; clear HA; simp only [spec_l5TableOK.l0] at H; by_cases c18 : x29_2 < (l0_1.length : Int)
            · rw [if_pos c18] at H; have c18b0 : decide (x29_2 < (l0_1.length : Int)) = true := decide_eq_true c18; clear c18; by_cases c19 : 0 ≤ x29_2
              · rw [if_pos c19] at H; have c19b0 : decide (0 ≤ x29_2) = true := decide_eq_true c19; clear c19; by_cases c20 : x29_2 < (l0_1.length : Int)
                · rw [if_pos c20] at H; have c20b0 : decide (x29_2 < (l0_1.length : Int)) = true := decide_eq_true c20; clear c20; replace H := Option.bind_eq_some_iff.mp H; obtain ⟨t140, A210, H⟩ := H; have A21 := qK A210; clear A210; by_cases c22 : t140 = true
                  · subst c22; rw [if_pos rfl] at H; replace H := Option.bind_eq_some_iff.mp H; obtain ⟨t141, A230, H⟩ := H; have A23 := qK A230; clear A230; by_cases c24 : t141 = true
                    · subst c24; rw [if_pos rfl] at H; have c25b0 := eq_true (of_decide_eq_true qa : 0 ≤ x29_2); by_cases c26 : x29_2 ≤ (l0_1.length : Int)
                      · rw [if_pos c26] at H; have c26b0 := eq_true c26; have c26b1 : decide (x29_2 ≤ (l0_1.length : Int)) = true := decide_eq_true c26; clear c26; obtain ⟨y142, hy142⟩ : ∃ y_ : List (S52), y_ = (l0_1.take (x29_2 : Int).toNat) := ⟨_, rfl⟩; (replace H : ((spec_l5Col.f k2 y142 ((rd_T52 l0_1 x29_2).f0)).bind fun t146 => (if t146 ≥ 0 then (some false) else (spec_l5TableOK.l0 k2 l0_1 (l0_1.length : Int) (wrap64 (x29_2 + 1)) a0_0 l0_1 l0_2))) = some r := by first | (rw [hy142]; with_reducible exact H) | (have H2_ := (Option.bind_some _ _).symm.trans H; rw [hy142]; with_reducible exact H2_) | (have H2_ := (Option.bind_some _ _).symm.trans H; with_reducible exact H2_) | with_reducible exact H | (rw [hy142]; exact H) | exact H); have Ny142 := qK hy142; clear hy142; replace H := Option.bind_eq_some_iff.mp H; obtain ⟨t146, A270, H⟩ := H; have A27 := qK A270; clear A270; by_cases c28 : t146 ≥ 0
                        · rw [if_pos c28] at H; have c28b0 : decide (0 ≤ t146) = true := decide_eq_true c28; clear c28; obtain rfl := Option.some.inj H; have p138 : 0 ≤ (x29_2 : Int) := of_decide_eq_true qa; have q138 : x29_2 < (l0_1.length : Int) := of_decide_eq_true qa; obtain ⟨ad138, e138, hx138_0, hx138_1⟩ := at_T52 HR0_1.out x29_2 p138 q138; cases e138; replace hx138_0 := (HB.out.cell (World.block_lt_of_cell? w _ hx138_0)).trans hx138_0; replace hx138_1 := (HB.out.cell (World.block_lt_of_cell? w _ hx138_1)).trans hx138_1; replace p138 := eq_true p138; replace q138 := eq_true q138; (try go_wp2_with (first | ((with_reducible refine gds (N := 4) rfl ?_); (try (refine gate_guard (by rfl) ?_; dsimp only)); refine qbx 4 #[.string (⟨#[]⟩ : ByteArray), .int .i64 0] 52 ?_; intro gb139 hg w29 hbox hb; have BK139 := qK (hbox); have GW139 := qK ((qW : w.heap.size ≤ gb139)); have GE139 := GW139; replace HB := qHB HB hb; have NB135_139 := qK (qlt BK135 hg); have NB139_135 := qK (qgt BK135 hg); replace BK135 := qbb BK135 hb; clear hb hbox hg; have hnb30 := NB139_135.out; have hnc30 := NB135_139.out; have hz31 := qz2 BK139.out))); have n0_ : Aside0 (((w29.setCell ⟨gb139, 0, none⟩ (.string ((rd_T52 l0_1 x29_2).f0))).setCell ⟨gb139, 1, none⟩ (.int .i64 ((rd_T52 l0_1 x29_2).f1))).heap[gb135]? = some (.cells #[.string a0_0, .slice (some ad138) l0_1.length c0_1, .slice A0_2 l0_2.length c0_2] 37 (0, 0))) := ⟨by (with_reducible repeat (first | refine bdN ?_ _ | refine bkD ?_ | refine bkA ?_ _)); refine bfa ?_ NB135_139.out _; (with_reducible repeat (first | refine bdN ?_ _ | refine bkD ?_ | refine bkA ?_ _)); refine bfa ?_ NB135_139.out _; (with_reducible repeat (first | refine bdN ?_ _ | refine bkD ?_ | refine bkA ?_ _)); exact BK135.out⟩; have n1_ : Aside0 (((w29.setCell ⟨gb139, 0, none⟩ (.string ((rd_T52 l0_1 x29_2).f0))).setCell ⟨gb139, 1, none⟩ (.int .i64 ((rd_T52 l0_1 x29_2).f1))).heap[gb139]? = some (.cells #[.string ((rd_T52 l0_1 x29_2).f0), .int .i64 ((rd_T52 l0_1 x29_2).f1)] 52 (0, 0))) := ⟨by (with_reducible repeat (first | refine bdN ?_ _ | refine bkD ?_ | refine bkA ?_ _)); refine bpu (cs := #[.string ((rd_T52 l0_1 x29_2).f0), .int .i64 0]) ?_ 1 _ rfl; (with_reducible repeat (first | refine bdN ?_ _ | refine bkD ?_ | refine bkA ?_ _)); refine bpu (cs := #[.string (⟨#[]⟩ : ByteArray), .int .i64 0]) ?_ 0 _ rfl; (with_reducible repeat (first | refine bdN ?_ _ | refine bkD ?_ | refine bkA ?_ _)); exact BK139.out⟩; have n2_ : Aside0 (Below w.heap.size w ((w29.setCell ⟨gb139, 0, none⟩ (.string ((rd_T52 l0_1 x29_2).f0))).setCell ⟨gb139, 1, none⟩ (.int .i64 ((rd_T52 l0_1 x29_2).f1)))) := ⟨qB⟩; (try clear BK135); (try clear BK139); (try clear HB); generalize ((w29.setCell ⟨gb139, 0, none⟩ (.string ((rd_T52 l0_1 x29_2).f0))).setCell ⟨gb139, 1, none⟩ (.int .i64 ((rd_T52 l0_1 x29_2).f1))) = w32 at n0_ n1_ n2_ ⊢; have BK135 := n0_; have BK139 := n1_; have HB := n2_; clear n0_ n1_ n2_; replace BK135 := qK (bkD BK135.out); replace BK139 := qK (bkD BK139.out); replace HB := qK (bd1 HB.out); refine start_ (n := 20) (S := fun w' => w'.cell? ⟨gb139, 0, none⟩ = some (.string ((rd_T52 l0_1 x29_2).f0)) ∧ w'.cell? ⟨gb139, 1, none⟩ = some (.int .i64 ((rd_T52 l0_1 x29_2).f1)) ∧ w'.cell? ⟨gb135, 0, none⟩ = some (.string a0_0) ∧ w'.cell? ⟨gb135, 1, none⟩ = some (.slice (some ad138) l0_1.length c0_1) ∧ w'.cell? ⟨gb135, 2, none⟩ = some (.slice A0_2 l0_2.length c0_2)) (ds := []) #[false, false, false, false, false, false, false, false, false, false, false, false, false, false, false, false, false, false, false, false] (by kernel_rfl) rfl rfl ⟨(bce BK139.out 0).trans rfl, (bce BK139.out 1).trans rfl, (bce BK135.out 0).trans rfl, (bce BK135.out 1).trans rfl, (bce BK135.out 2).trans rfl⟩ (fun hHeld => ?_); refine with_tabW spec_l5TableOK.tab6 spec_l5TableOK.bits6 (fun HT_ HW_ => ?_); generalize w32.drew = w33 at BK135 BK139 HB hHeld ⊢; refine pure_ (i := 0) (N := some 34) (v := ?_) (a' := ?_) #[true, false, false, false, false, false, false, false, false, false, false, false, false, false, false, false, false, false, false, false] rfl rfl (any_of HT_.out (by kernel_rfl)) (fun _ _ _ h => h) (Or.inl ⟨by rfl, ?_⟩) ?_ ?_; rotate_left
                          · intro w'; go_simp; (with_reducible rfl)
                          rotate_left
                          · simp only [Act.put, List.setIfInBounds_toArray, List.set_cons_zero, List.set_cons_succ, i64_w, i32_w]; rfl
                          refine take_ (i := 1) (N := some 35) (v := ?_) (a' := ?_) #[true, true, false, false, false, false, false, false, false, false, false, false, false, false, false, false, false, false, false, false] rfl rfl (take_ofW HT_.out HW_.out (by kernel_rfl)) (fun _ _ _ h => h) (Or.inl ⟨by rfl, ?_⟩) hHeld ?_ ?_; rotate_left
                          · rintro w' ⟨s0, s1, s2, s3, s4⟩; go_simp; (with_reducible rfl)
                          rotate_left
                          · simp only [Act.put, List.setIfInBounds_toArray, List.set_cons_zero, List.set_cons_succ, i64_w, i32_w]; rfl
                          refine one_ (i := 2) (N := some 36) #[true, true, true, false, false, false, false, false, false, false, false, false, false, false, false, false, false, false, false, false] rfl rfl (one_of HT_.out (by kernel_rfl)) (by decide) (fun K hK => ?_); refine goes_ Tryd.func16 (by kernel_rfl) rfl #[.string ((rd_T52 l0_1 x29_2).f0)] (by rfl) rfl rfl qA ?_; (with_reducible refine (spec_l4Name.calls k2 ((rd_T52 l0_1 x29_2).f0) true _ A21.out).mono ?_); rintro e w34 ⟨rfl, hb⟩; refine ⟨_, rfl, ?_⟩; replace BK135 := qbb BK135 hb; replace BK139 := qbb BK139 hb; replace HB := qHB HB hb; (try clear hb); (try clear hb2); (try clear hk); (try clear hi); refine hK.out _ _ ⟨(bce BK139.out 0).trans rfl, (bce BK139.out 1).trans rfl, (bce BK135.out 0).trans rfl, (bce BK135.out 1).trans rfl, (bce BK135.out 2).trans rfl⟩ (fun hHeld => ?_); clear hK K; refine norm_ (a' := ?_) ?_ ?_; rotate_left
                          · show Act.put _ (some 36) _ = _; simp only [Act.put, List.setIfInBounds_toArray, List.set_cons_zero, List.set_cons_succ, i64_w, i32_w]; rfl
                          refine pure_ (i := 3) (N := some 37) (v := ?_) (a' := ?_) #[true, true, true, true, false, false, false, false, false, false, false, false, false, false, false, false, false, false, false, false] rfl rfl (any_of HT_.out (by kernel_rfl)) (fun _ _ _ h => h) (Or.inl ⟨by rfl, ?_⟩) ?_ ?_; rotate_left
                          · intro w'; go_simp; (with_reducible rfl)
                          rotate_left
                          · simp only [Act.put, List.setIfInBounds_toArray, List.set_cons_zero, List.set_cons_succ, i64_w, i32_w]; rfl
                          refine pure_ (i := 4) (N := some 38) (v := ?_) (a' := ?_) #[true, true, true, true, true, false, false, false, false, false, false, false, false, false, false, false, false, false, false, false] rfl rfl (any_of HT_.out (by kernel_rfl)) (fun _ _ _ h => h) (Or.inl ⟨by rfl, ?_⟩) ?_ ?_; rotate_left
                          · intro w'; go_simp; (with_reducible rfl)
                          rotate_left
                          · simp only [Act.put, List.setIfInBounds_toArray, List.set_cons_zero, List.set_cons_succ, i64_w, i32_w]; rfl
                          refine pure_ (i := 5) (N := some 39) (v := ?_) (a' := ?_) #[true, true, true, true, true, true, false, false, false, false, false, false, false, false, false, false, false, false, false, false] rfl rfl (any_of HT_.out (by kernel_rfl)) (fun _ _ _ h => h) (Or.inl ⟨by rfl, ?_⟩) ?_ ?_; rotate_left
                          · intro w'; go_simp; (with_reducible rfl)
                          rotate_left
                          · simp only [Act.put, List.setIfInBounds_toArray, List.set_cons_zero, List.set_cons_succ, i64_w, i32_w]; rfl
                          refine take_ (i := 6) (N := some 40) (v := ?_) (a' := ?_) #[true, true, true, true, true, true, true, false, false, false, false, false, false, false, false, false, false, false, false, false] rfl rfl (take_ofW HT_.out HW_.out (by kernel_rfl)) (fun _ _ _ h => h) (Or.inl ⟨by rfl, ?_⟩) hHeld ?_ ?_; rotate_left
                          · rintro w' ⟨s0, s1, s2, s3, s4⟩; go_simp; (with_reducible rfl)
                          rotate_left
                          · simp only [Act.put, List.setIfInBounds_toArray, List.set_cons_zero, List.set_cons_succ, i64_w, i32_w]; rfl
                          refine one_ (i := 7) (N := some 41) #[true, true, true, true, true, true, true, true, false, false, false, false, false, false, false, false, false, false, false, false] rfl rfl (one_of HT_.out (by kernel_rfl)) (by decide) (fun K hK => ?_); refine goes_ Tryd.func18 (by kernel_rfl) rfl #[.int .i64 ((rd_T52 l0_1 x29_2).f1)] (by rfl) rfl rfl qA ?_; (with_reducible refine (spec_l4Type.calls ((rd_T52 l0_1 x29_2).f1) true _ A23.out).mono ?_); rintro e w' ⟨rfl, ⟨nd, rfl⟩⟩; refine ⟨_, rfl, ?_⟩; have q35 : (x29_2 : Int) ≤ ((l0_1.length : Int) : Int) := of_decide_eq_true qa; obtain ⟨i035, hi035, _, hsz35, _⟩ := info_parts info52; have hroom35 : l0_1.length ≤ c0_1 := HC0_1.out; have hC35 : Kd.C k52 _ (some ad138) l0_1.length l0_1 := HR0_1.out; have hcut35 := cut_to (P := Tryd.prog) 34 52 .i64 Tryd.underlying34 hi035 (some ad138) l0_1.length c0_1 x29_2 (of_decide_eq_true qa) q35 hroom35; have hr35 := Kd.C_take (m := (x29_2 : Int).toNat) hC35 (by omega); have hy35 : y142.length = (x29_2 : Int).toNat := (by rw [Ny142.out, List.length_take]; omega); rw [← Ny142.out] at hr35; rw [← hy35] at hcut35; have HR145 := qK hr35; have HC145 := qK (show y142.length ≤ c0_1 from by omega); clear hr35 hC35 hroom35 hi035 hsz35; have KY35 := qK hy35; clear hy35; replace q35 := eq_true q35; refine hK.out _ _ ⟨(bce BK139.out 0).trans rfl, (bce BK139.out 1).trans rfl, (bce BK135.out 0).trans rfl, (bce BK135.out 1).trans rfl, (bce BK135.out 2).trans rfl⟩ (fun hHeld => ?_); clear hK K; refine norm_ (a' := ?_) ?_ ?_; rotate_left
                          · show Act.put _ (some 41) _ = _; simp only [Act.put, List.setIfInBounds_toArray, List.set_cons_zero, List.set_cons_succ, i64_w, i32_w]; rfl
                          refine pure_ (i := 8) (N := some 42) (v := ?_) (a' := ?_) #[true, true, true, true, true, true, true, true, true, false, false, false, false, false, false, false, false, false, false, false] rfl rfl (any_of HT_.out (by kernel_rfl)) (fun _ _ _ h => h) (Or.inl ⟨by rfl, ?_⟩) ?_ ?_; rotate_left
                          · intro w'; go_simp; (with_reducible rfl)
                          rotate_left
                          · simp only [Act.put, List.setIfInBounds_toArray, List.set_cons_zero, List.set_cons_succ, i64_w, i32_w]; rfl
                          refine pure_ (i := 9) (N := some 43) (v := ?_) (a' := ?_) #[true, true, true, true, true, true, true, true, true, true, false, false, false, false, false, false, false, false, false, false] rfl rfl (any_of HT_.out (by kernel_rfl)) (fun _ _ _ h => h) (Or.inl ⟨by rfl, ?_⟩) ?_ ?_; rotate_left
                          · intro w'; go_simp; (with_reducible rfl)
                          rotate_left
                          · simp only [Act.put, List.setIfInBounds_toArray, List.set_cons_zero, List.set_cons_succ, i64_w, i32_w]; rfl
                          refine pure_ (i := 10) (N := some 44) (v := ?_) (a' := ?_) #[true, true, true, true, true, true, true, true, true, true, true, false, false, false, false, false, false, false, false, false] rfl rfl (any_of HT_.out (by kernel_rfl)) (fun _ _ _ h => h) (Or.inl ⟨by rfl, ?_⟩) ?_ ?_; rotate_left
                          · intro w'; go_simp; (with_reducible rfl)
                          rotate_left
                          · simp only [Act.put, List.setIfInBounds_toArray, List.set_cons_zero, List.set_cons_succ, i64_w, i32_w]; rfl
                          refine pure_ (i := 11) (N := some 45) (v := ?_) (a' := ?_) #[true, true, true, true, true, true, true, true, true, true, true, true, false, false, false, false, false, false, false, false] rfl rfl (any_of HT_.out (by kernel_rfl)) (fun _ _ _ h => h) (Or.inl ⟨by rfl, ?_⟩) ?_ ?_; rotate_left
                          · intro w'; go_simp; (with_reducible rfl)
                          rotate_left
                          · simp only [Act.put, List.setIfInBounds_toArray, List.set_cons_zero, List.set_cons_succ, i64_w, i32_w]; rfl
                          refine pure_ (i := 13) (N := some 47) (v := ?_) (a' := ?_) #[true, true, true, true, true, true, true, true, true, true, true, true, false, true, false, false, false, false, false, false] rfl rfl (any_of HT_.out (by kernel_rfl)) (fun _ _ _ h => h) (Or.inl ⟨by rfl, ?_⟩) ?_ ?_; rotate_left
                          · intro w'; go_simp; (with_reducible rfl)
                          rotate_left
                          · simp only [Act.put, List.setIfInBounds_toArray, List.set_cons_zero, List.set_cons_succ, i64_w, i32_w]; rfl
                          refine pure_ (i := 15) (N := some 49) (v := ?_) (a' := ?_) #[true, true, true, true, true, true, true, true, true, true, true, true, false, true, false, true, false, false, false, false] rfl rfl (any_of HT_.out (by kernel_rfl)) (fun _ _ _ h => h) (Or.inl ⟨by rfl, ?_⟩) ?_ ?_; rotate_left
                          · intro w'; go_simp; (with_reducible rfl)
                          rotate_left
                          · simp only [Act.put, List.setIfInBounds_toArray, List.set_cons_zero, List.set_cons_succ, i64_w, i32_w]; rfl
                          refine take_ (i := 12) (N := some 46) (v := ?_) (a' := ?_) #[true, true, true, true, true, true, true, true, true, true, true, true, true, true, false, true, false, false, false, false] rfl rfl (take_ofW HT_.out HW_.out (by kernel_rfl)) (fun _ _ _ h => h) (Or.inl ⟨by rfl, ?_⟩) hHeld ?_ ?_; rotate_left
                          · rintro w' ⟨s0, s1, s2, s3, s4⟩; go_simp; (with_reducible rfl)
                          rotate_left
                          · simp only [Act.put, List.setIfInBounds_toArray, List.set_cons_zero, List.set_cons_succ, i64_w, i32_w]; rfl
                          refine pure_ (i := 14) (N := some 48) (v := ?_) (a' := ?_) #[true, true, true, true, true, true, true, true, true, true, true, true, true, true, true, true, false, false, false, false] rfl rfl (any_of HT_.out (by kernel_rfl)) (fun _ _ _ h => h) (Or.inl ⟨by rfl, ?_⟩) ?_ ?_; rotate_left
                          · intro w'; go_simp; (with_reducible rfl)
                          rotate_left
                          · simp only [Act.put, List.setIfInBounds_toArray, List.set_cons_zero, List.set_cons_succ, i64_w, i32_w]; rfl
                          refine take_ (i := 16) (N := some 50) (v := ?_) (a' := ?_) #[true, true, true, true, true, true, true, true, true, true, true, true, true, true, true, true, true, false, false, false] rfl rfl (take_ofW HT_.out HW_.out (by kernel_rfl)) (fun _ _ _ h => h) (Or.inl ⟨by rfl, ?_⟩) hHeld ?_ ?_; rotate_left
                          · rintro w' ⟨s0, s1, s2, s3, s4⟩; go_simp; (with_reducible rfl)
                          rotate_left
                          · simp only [Act.put, List.setIfInBounds_toArray, List.set_cons_zero, List.set_cons_succ, i64_w, i32_w]; rfl
                          refine one_ (i := 17) (N := some 51) #[true, true, true, true, true, true, true, true, true, true, true, true, true, true, true, true, true, true, false, false] rfl rfl (one_of HT_.out (by kernel_rfl)) (by decide) (fun K hK => ?_); refine goes_ Tryd.func19 (by kernel_rfl) rfl #[.slice (some ad138) y142.length c0_1, .string ((rd_T52 l0_1 x29_2).f0)] (by rfl) rfl rfl qA ?_; (with_reducible refine (spec_l5Col.calls k2 _ _ y142 ((rd_T52 l0_1 x29_2).f0) t146 _ ?side1 ?side2 A27.out).mono ?_); (case side1 => exact qC HR145); (case side2 => exact HC145.out); rintro e w36 ⟨rfl, hb⟩; refine ⟨_, rfl, ?_⟩; replace BK135 := qbb BK135 hb; replace BK139 := qbb BK139 hb; replace HB := qHB HB hb; (try clear hb); (try clear hb2); (try clear hk); (try clear hi); refine hK.out _ _ ⟨(bce BK139.out 0).trans rfl, (bce BK139.out 1).trans rfl, (bce BK135.out 0).trans rfl, (bce BK135.out 1).trans rfl, (bce BK135.out 2).trans rfl⟩ (fun hHeld => ?_); clear hK K; refine norm_ (a' := ?_) ?_ ?_; rotate_left
                          · show Act.put _ (some 51) _ = _; simp only [Act.put, List.setIfInBounds_toArray, List.set_cons_zero, List.set_cons_succ, i64_w, i32_w]; rfl
                          refine pure_ (i := 18) (N := some 52) (v := ?_) (a' := ?_) #[true, true, true, true, true, true, true, true, true, true, true, true, true, true, true, true, true, true, true, false] rfl rfl (any_of HT_.out (by kernel_rfl)) (fun _ _ _ h => h) (Or.inl ⟨by rfl, ?_⟩) ?_ ?_; rotate_left
                          · intro w'; go_simp; (with_reducible rfl)
                          rotate_left
                          · simp only [Act.put, List.setIfInBounds_toArray, List.set_cons_zero, List.set_cons_succ, i64_w, i32_w]; rfl
                          refine pure_ (i := 19) (N := some 53) (v := ?_) (a' := ?_) #[true, true, true, true, true, true, true, true, true, true, true, true, true, true, true, true, true, true, true, true] rfl rfl (any_of HT_.out (by kernel_rfl)) (fun _ _ _ h => h) (Or.inl ⟨by rfl, ?_⟩) ?_ ?_; rotate_left
                          · intro w'; go_simp; (with_reducible rfl)
                          rotate_left
                          · simp only [Act.put, List.setIfInBounds_toArray, List.set_cons_zero, List.set_cons_succ, i64_w, i32_w]; rfl
                          refine done_ (done_of HT_.out (by kernel_rfl)) ?_; (try go_wp2); go_ret; exact ⟨qR, qB⟩
                        · rw [if_neg c28] at H; have c28b0 : decide (0 ≤ t146) = false := decide_eq_false c28; clear c28; have H' := qK H; clear H; have p138 : 0 ≤ (x29_2 : Int) := of_decide_eq_true qa; have q138 : x29_2 < (l0_1.length : Int) := of_decide_eq_true qa; obtain ⟨ad138, e138, hx138_0, hx138_1⟩ := at_T52 HR0_1.out x29_2 p138 q138; cases e138; replace hx138_0 := (HB.out.cell (World.block_lt_of_cell? w _ hx138_0)).trans hx138_0; replace hx138_1 := (HB.out.cell (World.block_lt_of_cell? w _ hx138_1)).trans hx138_1; replace p138 := eq_true p138; replace q138 := eq_true q138; (try go_wp2_with (first | ((with_reducible refine gds (N := 4) rfl ?_); (try (refine gate_guard (by rfl) ?_; dsimp only)); refine qbx 4 #[.string (⟨#[]⟩ : ByteArray), .int .i64 0] 52 ?_; intro gb139 hg w37 hbox hb; have BK139 := qK (hbox); have GW139 := qK ((qW : w.heap.size ≤ gb139)); have GE139 := GW139; replace HB := qHB HB hb; have NB135_139 := qK (qlt BK135 hg); have NB139_135 := qK (qgt BK135 hg); replace BK135 := qbb BK135 hb; clear hb hbox hg; have hnb38 := NB139_135.out; have hnc38 := NB135_139.out; have hz39 := qz2 BK139.out))); have n0_ : Aside0 (((w37.setCell ⟨gb139, 0, none⟩ (.string ((rd_T52 l0_1 x29_2).f0))).setCell ⟨gb139, 1, none⟩ (.int .i64 ((rd_T52 l0_1 x29_2).f1))).heap[gb135]? = some (.cells #[.string a0_0, .slice (some ad138) l0_1.length c0_1, .slice A0_2 l0_2.length c0_2] 37 (0, 0))) := ⟨by (with_reducible repeat (first | refine bdN ?_ _ | refine bkD ?_ | refine bkA ?_ _)); refine bfa ?_ NB135_139.out _; (with_reducible repeat (first | refine bdN ?_ _ | refine bkD ?_ | refine bkA ?_ _)); refine bfa ?_ NB135_139.out _; (with_reducible repeat (first | refine bdN ?_ _ | refine bkD ?_ | refine bkA ?_ _)); exact BK135.out⟩; have n1_ : Aside0 (((w37.setCell ⟨gb139, 0, none⟩ (.string ((rd_T52 l0_1 x29_2).f0))).setCell ⟨gb139, 1, none⟩ (.int .i64 ((rd_T52 l0_1 x29_2).f1))).heap[gb139]? = some (.cells #[.string ((rd_T52 l0_1 x29_2).f0), .int .i64 ((rd_T52 l0_1 x29_2).f1)] 52 (0, 0))) := ⟨by (with_reducible repeat (first | refine bdN ?_ _ | refine bkD ?_ | refine bkA ?_ _)); refine bpu (cs := #[.string ((rd_T52 l0_1 x29_2).f0), .int .i64 0]) ?_ 1 _ rfl; (with_reducible repeat (first | refine bdN ?_ _ | refine bkD ?_ | refine bkA ?_ _)); refine bpu (cs := #[.string (⟨#[]⟩ : ByteArray), .int .i64 0]) ?_ 0 _ rfl; (with_reducible repeat (first | refine bdN ?_ _ | refine bkD ?_ | refine bkA ?_ _)); exact BK139.out⟩; have n2_ : Aside0 (Below w.heap.size w ((w37.setCell ⟨gb139, 0, none⟩ (.string ((rd_T52 l0_1 x29_2).f0))).setCell ⟨gb139, 1, none⟩ (.int .i64 ((rd_T52 l0_1 x29_2).f1)))) := ⟨qB⟩; (try clear BK135); (try clear BK139); (try clear HB); generalize ((w37.setCell ⟨gb139, 0, none⟩ (.string ((rd_T52 l0_1 x29_2).f0))).setCell ⟨gb139, 1, none⟩ (.int .i64 ((rd_T52 l0_1 x29_2).f1))) = w40 at n0_ n1_ n2_ ⊢; have BK135 := n0_; have BK139 := n1_; have HB := n2_; clear n0_ n1_ n2_; replace BK135 := qK (bkD BK135.out); replace BK139 := qK (bkD BK139.out); replace HB := qK (bd1 HB.out); refine start_ (n := 20) (S := fun w' => w'.cell? ⟨gb139, 0, none⟩ = some (.string ((rd_T52 l0_1 x29_2).f0)) ∧ w'.cell? ⟨gb139, 1, none⟩ = some (.int .i64 ((rd_T52 l0_1 x29_2).f1)) ∧ w'.cell? ⟨gb135, 0, none⟩ = some (.string a0_0) ∧ w'.cell? ⟨gb135, 1, none⟩ = some (.slice (some ad138) l0_1.length c0_1) ∧ w'.cell? ⟨gb135, 2, none⟩ = some (.slice A0_2 l0_2.length c0_2)) (ds := []) #[false, false, false, false, false, false, false, false, false, false, false, false, false, false, false, false, false, false, false, false] (by kernel_rfl) rfl rfl ⟨(bce BK139.out 0).trans rfl, (bce BK139.out 1).trans rfl, (bce BK135.out 0).trans rfl, (bce BK135.out 1).trans rfl, (bce BK135.out 2).trans rfl⟩ (fun hHeld => ?_); refine with_tabW spec_l5TableOK.tab6 spec_l5TableOK.bits6 (fun HT_ HW_ => ?_); generalize w40.drew = w41 at BK135 BK139 HB hHeld ⊢; refine pure_ (i := 0) (N := some 34) (v := ?_) (a' := ?_) #[true, false, false, false, false, false, false, false, false, false, false, false, false, false, false, false, false, false, false, false] rfl rfl (any_of HT_.out (by kernel_rfl)) (fun _ _ _ h => h) (Or.inl ⟨by rfl, ?_⟩) ?_ ?_; rotate_left
                          · intro w'; go_simp; (with_reducible rfl)
                          rotate_left
                          · simp only [Act.put, List.setIfInBounds_toArray, List.set_cons_zero, List.set_cons_succ, i64_w, i32_w]; rfl
                          refine take_ (i := 1) (N := some 35) (v := ?_) (a' := ?_) #[true, true, false, false, false, false, false, false, false, false, false, false, false, false, false, false, false, false, false, false] rfl rfl (take_ofW HT_.out HW_.out (by kernel_rfl)) (fun _ _ _ h => h) (Or.inl ⟨by rfl, ?_⟩) hHeld ?_ ?_; rotate_left
                          · rintro w' ⟨s0, s1, s2, s3, s4⟩; go_simp; (with_reducible rfl)
                          rotate_left
                          · simp only [Act.put, List.setIfInBounds_toArray, List.set_cons_zero, List.set_cons_succ, i64_w, i32_w]; rfl
                          refine one_ (i := 2) (N := some 36) #[true, true, true, false, false, false, false, false, false, false, false, false, false, false, false, false, false, false, false, false] rfl rfl (one_of HT_.out (by kernel_rfl)) (by decide) (fun K hK => ?_); refine goes_ Tryd.func16 (by kernel_rfl) rfl #[.string ((rd_T52 l0_1 x29_2).f0)] (by rfl) rfl rfl qA ?_; (with_reducible refine (spec_l4Name.calls k2 ((rd_T52 l0_1 x29_2).f0) true _ A21.out).mono ?_); rintro e w42 ⟨rfl, hb⟩; refine ⟨_, rfl, ?_⟩; replace BK135 := qbb BK135 hb; replace BK139 := qbb BK139 hb; replace HB := qHB HB hb; (try clear hb); (try clear hb2); (try clear hk); (try clear hi); refine hK.out _ _ ⟨(bce BK139.out 0).trans rfl, (bce BK139.out 1).trans rfl, (bce BK135.out 0).trans rfl, (bce BK135.out 1).trans rfl, (bce BK135.out 2).trans rfl⟩ (fun hHeld => ?_); clear hK K; refine norm_ (a' := ?_) ?_ ?_; rotate_left
                          · show Act.put _ (some 36) _ = _; simp only [Act.put, List.setIfInBounds_toArray, List.set_cons_zero, List.set_cons_succ, i64_w, i32_w]; rfl
                          refine pure_ (i := 3) (N := some 37) (v := ?_) (a' := ?_) #[true, true, true, true, false, false, false, false, false, false, false, false, false, false, false, false, false, false, false, false] rfl rfl (any_of HT_.out (by kernel_rfl)) (fun _ _ _ h => h) (Or.inl ⟨by rfl, ?_⟩) ?_ ?_; rotate_left
                          · intro w'; go_simp; (with_reducible rfl)
                          rotate_left
                          · simp only [Act.put, List.setIfInBounds_toArray, List.set_cons_zero, List.set_cons_succ, i64_w, i32_w]; rfl
                          refine pure_ (i := 4) (N := some 38) (v := ?_) (a' := ?_) #[true, true, true, true, true, false, false, false, false, false, false, false, false, false, false, false, false, false, false, false] rfl rfl (any_of HT_.out (by kernel_rfl)) (fun _ _ _ h => h) (Or.inl ⟨by rfl, ?_⟩) ?_ ?_; rotate_left
                          · intro w'; go_simp; (with_reducible rfl)
                          rotate_left
                          · simp only [Act.put, List.setIfInBounds_toArray, List.set_cons_zero, List.set_cons_succ, i64_w, i32_w]; rfl
                          refine pure_ (i := 5) (N := some 39) (v := ?_) (a' := ?_) #[true, true, true, true, true, true, false, false, false, false, false, false, false, false, false, false, false, false, false, false] rfl rfl (any_of HT_.out (by kernel_rfl)) (fun _ _ _ h => h) (Or.inl ⟨by rfl, ?_⟩) ?_ ?_; rotate_left
                          · intro w'; go_simp; (with_reducible rfl)
                          rotate_left
                          · simp only [Act.put, List.setIfInBounds_toArray, List.set_cons_zero, List.set_cons_succ, i64_w, i32_w]; rfl
                          refine take_ (i := 6) (N := some 40) (v := ?_) (a' := ?_) #[true, true, true, true, true, true, true, false, false, false, false, false, false, false, false, false, false, false, false, false] rfl rfl (take_ofW HT_.out HW_.out (by kernel_rfl)) (fun _ _ _ h => h) (Or.inl ⟨by rfl, ?_⟩) hHeld ?_ ?_; rotate_left
                          · rintro w' ⟨s0, s1, s2, s3, s4⟩; go_simp; (with_reducible rfl)
                          rotate_left
                          · simp only [Act.put, List.setIfInBounds_toArray, List.set_cons_zero, List.set_cons_succ, i64_w, i32_w]; rfl
                          refine one_ (i := 7) (N := some 41) #[true, true, true, true, true, true, true, true, false, false, false, false, false, false, false, false, false, false, false, false] rfl rfl (one_of HT_.out (by kernel_rfl)) (by decide) (fun K hK => ?_); refine goes_ Tryd.func18 (by kernel_rfl) rfl #[.int .i64 ((rd_T52 l0_1 x29_2).f1)] (by rfl) rfl rfl qA ?_; (with_reducible refine (spec_l4Type.calls ((rd_T52 l0_1 x29_2).f1) true _ A23.out).mono ?_); rintro e w' ⟨rfl, ⟨nd, rfl⟩⟩; refine ⟨_, rfl, ?_⟩; have q43 : (x29_2 : Int) ≤ ((l0_1.length : Int) : Int) := of_decide_eq_true qa; obtain ⟨i043, hi043, _, hsz43, _⟩ := info_parts info52; have hroom43 : l0_1.length ≤ c0_1 := HC0_1.out; have hC43 : Kd.C k52 _ (some ad138) l0_1.length l0_1 := HR0_1.out; have hcut43 := cut_to (P := Tryd.prog) 34 52 .i64 Tryd.underlying34 hi043 (some ad138) l0_1.length c0_1 x29_2 (of_decide_eq_true qa) q43 hroom43; have hr43 := Kd.C_take (m := (x29_2 : Int).toNat) hC43 (by omega); have hy43 : y142.length = (x29_2 : Int).toNat := (by rw [Ny142.out, List.length_take]; omega); rw [← Ny142.out] at hr43; rw [← hy43] at hcut43; have HR145 := qK hr43; have HC145 := qK (show y142.length ≤ c0_1 from by omega); clear hr43 hC43 hroom43 hi043 hsz43; have KY43 := qK hy43; clear hy43; replace q43 := eq_true q43; refine hK.out _ _ ⟨(bce BK139.out 0).trans rfl, (bce BK139.out 1).trans rfl, (bce BK135.out 0).trans rfl, (bce BK135.out 1).trans rfl, (bce BK135.out 2).trans rfl⟩ (fun hHeld => ?_); clear hK K; refine norm_ (a' := ?_) ?_ ?_; rotate_left
                          · show Act.put _ (some 41) _ = _; simp only [Act.put, List.setIfInBounds_toArray, List.set_cons_zero, List.set_cons_succ, i64_w, i32_w]; rfl
                          refine pure_ (i := 8) (N := some 42) (v := ?_) (a' := ?_) #[true, true, true, true, true, true, true, true, true, false, false, false, false, false, false, false, false, false, false, false] rfl rfl (any_of HT_.out (by kernel_rfl)) (fun _ _ _ h => h) (Or.inl ⟨by rfl, ?_⟩) ?_ ?_; rotate_left
                          · intro w'; go_simp; (with_reducible rfl)
                          rotate_left
                          · simp only [Act.put, List.setIfInBounds_toArray, List.set_cons_zero, List.set_cons_succ, i64_w, i32_w]; rfl
                          refine pure_ (i := 9) (N := some 43) (v := ?_) (a' := ?_) #[true, true, true, true, true, true, true, true, true, true, false, false, false, false, false, false, false, false, false, false] rfl rfl (any_of HT_.out (by kernel_rfl)) (fun _ _ _ h => h) (Or.inl ⟨by rfl, ?_⟩) ?_ ?_; rotate_left
                          · intro w'; go_simp; (with_reducible rfl)
                          rotate_left
                          · simp only [Act.put, List.setIfInBounds_toArray, List.set_cons_zero, List.set_cons_succ, i64_w, i32_w]; rfl
                          refine pure_ (i := 10) (N := some 44) (v := ?_) (a' := ?_) #[true, true, true, true, true, true, true, true, true, true, true, false, false, false, false, false, false, false, false, false] rfl rfl (any_of HT_.out (by kernel_rfl)) (fun _ _ _ h => h) (Or.inl ⟨by rfl, ?_⟩) ?_ ?_; rotate_left
                          · intro w'; go_simp; (with_reducible rfl)
                          rotate_left
                          · simp only [Act.put, List.setIfInBounds_toArray, List.set_cons_zero, List.set_cons_succ, i64_w, i32_w]; rfl
                          refine pure_ (i := 11) (N := some 45) (v := ?_) (a' := ?_) #[true, true, true, true, true, true, true, true, true, true, true, true, false, false, false, false, false, false, false, false] rfl rfl (any_of HT_.out (by kernel_rfl)) (fun _ _ _ h => h) (Or.inl ⟨by rfl, ?_⟩) ?_ ?_; rotate_left
                          · intro w'; go_simp; (with_reducible rfl)
                          rotate_left
                          · simp only [Act.put, List.setIfInBounds_toArray, List.set_cons_zero, List.set_cons_succ, i64_w, i32_w]; rfl
                          refine pure_ (i := 13) (N := some 47) (v := ?_) (a' := ?_) #[true, true, true, true, true, true, true, true, true, true, true, true, false, true, false, false, false, false, false, false] rfl rfl (any_of HT_.out (by kernel_rfl)) (fun _ _ _ h => h) (Or.inl ⟨by rfl, ?_⟩) ?_ ?_; rotate_left
                          · intro w'; go_simp; (with_reducible rfl)
                          rotate_left
                          · simp only [Act.put, List.setIfInBounds_toArray, List.set_cons_zero, List.set_cons_succ, i64_w, i32_w]; rfl
                          refine pure_ (i := 15) (N := some 49) (v := ?_) (a' := ?_) #[true, true, true, true, true, true, true, true, true, true, true, true, false, true, false, true, false, false, false, false] rfl rfl (any_of HT_.out (by kernel_rfl)) (fun _ _ _ h => h) (Or.inl ⟨by rfl, ?_⟩) ?_ ?_; rotate_left
                          · intro w'; go_simp; (with_reducible rfl)
                          rotate_left
                          · simp only [Act.put, List.setIfInBounds_toArray, List.set_cons_zero, List.set_cons_succ, i64_w, i32_w]; rfl
                          refine take_ (i := 12) (N := some 46) (v := ?_) (a' := ?_) #[true, true, true, true, true, true, true, true, true, true, true, true, true, true, false, true, false, false, false, false] rfl rfl (take_ofW HT_.out HW_.out (by kernel_rfl)) (fun _ _ _ h => h) (Or.inl ⟨by rfl, ?_⟩) hHeld ?_ ?_; rotate_left
                          · rintro w' ⟨s0, s1, s2, s3, s4⟩; go_simp; (with_reducible rfl)
                          rotate_left
                          · simp only [Act.put, List.setIfInBounds_toArray, List.set_cons_zero, List.set_cons_succ, i64_w, i32_w]; rfl
                          refine pure_ (i := 14) (N := some 48) (v := ?_) (a' := ?_) #[true, true, true, true, true, true, true, true, true, true, true, true, true, true, true, true, false, false, false, false] rfl rfl (any_of HT_.out (by kernel_rfl)) (fun _ _ _ h => h) (Or.inl ⟨by rfl, ?_⟩) ?_ ?_; rotate_left
                          · intro w'; go_simp; (with_reducible rfl)
                          rotate_left
                          · simp only [Act.put, List.setIfInBounds_toArray, List.set_cons_zero, List.set_cons_succ, i64_w, i32_w]; rfl
                          refine take_ (i := 16) (N := some 50) (v := ?_) (a' := ?_) #[true, true, true, true, true, true, true, true, true, true, true, true, true, true, true, true, true, false, false, false] rfl rfl (take_ofW HT_.out HW_.out (by kernel_rfl)) (fun _ _ _ h => h) (Or.inl ⟨by rfl, ?_⟩) hHeld ?_ ?_; rotate_left
                          · rintro w' ⟨s0, s1, s2, s3, s4⟩; go_simp; (with_reducible rfl)
                          rotate_left
                          · simp only [Act.put, List.setIfInBounds_toArray, List.set_cons_zero, List.set_cons_succ, i64_w, i32_w]; rfl
                          refine one_ (i := 17) (N := some 51) #[true, true, true, true, true, true, true, true, true, true, true, true, true, true, true, true, true, true, false, false] rfl rfl (one_of HT_.out (by kernel_rfl)) (by decide) (fun K hK => ?_); refine goes_ Tryd.func19 (by kernel_rfl) rfl #[.slice (some ad138) y142.length c0_1, .string ((rd_T52 l0_1 x29_2).f0)] (by rfl) rfl rfl qA ?_; (with_reducible refine (spec_l5Col.calls k2 _ _ y142 ((rd_T52 l0_1 x29_2).f0) t146 _ ?side1 ?side2 A27.out).mono ?_); (case side1 => exact qC HR145); (case side2 => exact HC145.out); rintro e w44 ⟨rfl, hb⟩; refine ⟨_, rfl, ?_⟩; replace BK135 := qbb BK135 hb; replace BK139 := qbb BK139 hb; replace HB := qHB HB hb; (try clear hb); (try clear hb2); (try clear hk); (try clear hi); refine hK.out _ _ ⟨(bce BK139.out 0).trans rfl, (bce BK139.out 1).trans rfl, (bce BK135.out 0).trans rfl, (bce BK135.out 1).trans rfl, (bce BK135.out 2).trans rfl⟩ (fun hHeld => ?_); clear hK K; refine norm_ (a' := ?_) ?_ ?_; rotate_left
                          · show Act.put _ (some 51) _ = _; simp only [Act.put, List.setIfInBounds_toArray, List.set_cons_zero, List.set_cons_succ, i64_w, i32_w]; rfl
                          refine pure_ (i := 18) (N := some 52) (v := ?_) (a' := ?_) #[true, true, true, true, true, true, true, true, true, true, true, true, true, true, true, true, true, true, true, false] rfl rfl (any_of HT_.out (by kernel_rfl)) (fun _ _ _ h => h) (Or.inl ⟨by rfl, ?_⟩) ?_ ?_; rotate_left
                          · intro w'; go_simp; (with_reducible rfl)
                          rotate_left
                          · simp only [Act.put, List.setIfInBounds_toArray, List.set_cons_zero, List.set_cons_succ, i64_w, i32_w]; rfl
                          refine pure_ (i := 19) (N := some 53) (v := ?_) (a' := ?_) #[true, true, true, true, true, true, true, true, true, true, true, true, true, true, true, true, true, true, true, true] rfl rfl (any_of HT_.out (by kernel_rfl)) (fun _ _ _ h => h) (Or.inl ⟨by rfl, ?_⟩) ?_ ?_; rotate_left
                          · intro w'; go_simp; (with_reducible rfl)
                          rotate_left
                          · simp only [Act.put, List.setIfInBounds_toArray, List.set_cons_zero, List.set_cons_succ, i64_w, i32_w]; rfl
                          refine done_ (done_of HT_.out (by kernel_rfl)) ?_; (try go_wp2); go_roundg k2
                          case measure => have := HJ1.out; have := HK2.out; omega
                          case rel => exact ⟨(wrap64 (x29_2 + 1)), qS, H', ⟨by have := HJ1.out; have := HK2.out; omega⟩, ⟨by (with_reducible repeat (first | refine bdN ?_ _ | refine bkD ?_ | refine bkA ?_ _)); exact BK135.out⟩, ⟨qB⟩⟩
                      · rw [if_neg c26] at H; exact absurd H (by simp)
                    · replace c24 := Bool.eq_false_iff.mpr c24; subst c24; rw [if_neg qff] at H; obtain rfl := Option.some.inj H; have p138 : 0 ≤ (x29_2 : Int) := of_decide_eq_true qa; have q138 : x29_2 < (l0_1.length : Int) := of_decide_eq_true qa; obtain ⟨ad138, e138, hx138_0, hx138_1⟩ := at_T52 HR0_1.out x29_2 p138 q138; cases e138; replace hx138_0 := (HB.out.cell (World.block_lt_of_cell? w _ hx138_0)).trans hx138_0; replace hx138_1 := (HB.out.cell (World.block_lt_of_cell? w _ hx138_1)).trans hx138_1; replace p138 := eq_true p138; replace q138 := eq_true q138; (try go_wp2_with (first | ((with_reducible refine gds (N := 4) rfl ?_); (try (refine gate_guard (by rfl) ?_; dsimp only)); refine qbx 4 #[.string (⟨#[]⟩ : ByteArray), .int .i64 0] 52 ?_; intro gb139 hg w45 hbox hb; have BK139 := qK (hbox); have GW139 := qK ((qW : w.heap.size ≤ gb139)); have GE139 := GW139; replace HB := qHB HB hb; have NB135_139 := qK (qlt BK135 hg); have NB139_135 := qK (qgt BK135 hg); replace BK135 := qbb BK135 hb; clear hb hbox hg; have hnb46 := NB139_135.out; have hnc46 := NB135_139.out; have hz47 := qz2 BK139.out))); have n0_ : Aside0 (((w45.setCell ⟨gb139, 0, none⟩ (.string ((rd_T52 l0_1 x29_2).f0))).setCell ⟨gb139, 1, none⟩ (.int .i64 ((rd_T52 l0_1 x29_2).f1))).heap[gb135]? = some (.cells #[.string a0_0, .slice (some ad138) l0_1.length c0_1, .slice A0_2 l0_2.length c0_2] 37 (0, 0))) := ⟨by (with_reducible repeat (first | refine bdN ?_ _ | refine bkD ?_ | refine bkA ?_ _)); refine bfa ?_ NB135_139.out _; (with_reducible repeat (first | refine bdN ?_ _ | refine bkD ?_ | refine bkA ?_ _)); refine bfa ?_ NB135_139.out _; (with_reducible repeat (first | refine bdN ?_ _ | refine bkD ?_ | refine bkA ?_ _)); exact BK135.out⟩; have n1_ : Aside0 (((w45.setCell ⟨gb139, 0, none⟩ (.string ((rd_T52 l0_1 x29_2).f0))).setCell ⟨gb139, 1, none⟩ (.int .i64 ((rd_T52 l0_1 x29_2).f1))).heap[gb139]? = some (.cells #[.string ((rd_T52 l0_1 x29_2).f0), .int .i64 ((rd_T52 l0_1 x29_2).f1)] 52 (0, 0))) := ⟨by (with_reducible repeat (first | refine bdN ?_ _ | refine bkD ?_ | refine bkA ?_ _)); refine bpu (cs := #[.string ((rd_T52 l0_1 x29_2).f0), .int .i64 0]) ?_ 1 _ rfl; (with_reducible repeat (first | refine bdN ?_ _ | refine bkD ?_ | refine bkA ?_ _)); refine bpu (cs := #[.string (⟨#[]⟩ : ByteArray), .int .i64 0]) ?_ 0 _ rfl; (with_reducible repeat (first | refine bdN ?_ _ | refine bkD ?_ | refine bkA ?_ _)); exact BK139.out⟩; have n2_ : Aside0 (Below w.heap.size w ((w45.setCell ⟨gb139, 0, none⟩ (.string ((rd_T52 l0_1 x29_2).f0))).setCell ⟨gb139, 1, none⟩ (.int .i64 ((rd_T52 l0_1 x29_2).f1)))) := ⟨qB⟩; (try clear BK135); (try clear BK139); (try clear HB); generalize ((w45.setCell ⟨gb139, 0, none⟩ (.string ((rd_T52 l0_1 x29_2).f0))).setCell ⟨gb139, 1, none⟩ (.int .i64 ((rd_T52 l0_1 x29_2).f1))) = w48 at n0_ n1_ n2_ ⊢; have BK135 := n0_; have BK139 := n1_; have HB := n2_; clear n0_ n1_ n2_; replace BK135 := qK (bkD BK135.out); replace BK139 := qK (bkD BK139.out); replace HB := qK (bd1 HB.out); refine start_ (n := 20) (S := fun w' => w'.cell? ⟨gb139, 0, none⟩ = some (.string ((rd_T52 l0_1 x29_2).f0)) ∧ w'.cell? ⟨gb139, 1, none⟩ = some (.int .i64 ((rd_T52 l0_1 x29_2).f1))) (ds := []) #[false, false, false, false, false, false, false, false, false, false, false, false, false, false, false, false, false, false, false, false] (by kernel_rfl) rfl rfl (qy2 BK139.out) (fun hHeld => ?_); refine with_tabW spec_l5TableOK.tab6 spec_l5TableOK.bits6 (fun HT_ HW_ => ?_); generalize w48.drew = w49 at BK135 BK139 HB hHeld ⊢; refine pure_ (i := 0) (N := some 34) (v := ?_) (a' := ?_) #[true, false, false, false, false, false, false, false, false, false, false, false, false, false, false, false, false, false, false, false] rfl rfl (any_of HT_.out (by kernel_rfl)) (fun _ _ _ h => h) (Or.inl ⟨by rfl, ?_⟩) ?_ ?_; rotate_left
                      · intro w'; go_simp; (with_reducible rfl)
                      rotate_left
                      · simp only [Act.put, List.setIfInBounds_toArray, List.set_cons_zero, List.set_cons_succ, i64_w, i32_w]; rfl
                      refine take_ (i := 1) (N := some 35) (v := ?_) (a' := ?_) #[true, true, false, false, false, false, false, false, false, false, false, false, false, false, false, false, false, false, false, false] rfl rfl (take_ofW HT_.out HW_.out (by kernel_rfl)) (fun _ _ _ h => h) (Or.inl ⟨by rfl, ?_⟩) hHeld ?_ ?_; rotate_left
                      · rintro w' ⟨s0, s1⟩; go_simp; (with_reducible rfl)
                      rotate_left
                      · simp only [Act.put, List.setIfInBounds_toArray, List.set_cons_zero, List.set_cons_succ, i64_w, i32_w]; rfl
                      refine one_ (i := 2) (N := some 36) #[true, true, true, false, false, false, false, false, false, false, false, false, false, false, false, false, false, false, false, false] rfl rfl (one_of HT_.out (by kernel_rfl)) (by decide) (fun K hK => ?_); refine goes_ Tryd.func16 (by kernel_rfl) rfl #[.string ((rd_T52 l0_1 x29_2).f0)] (by rfl) rfl rfl qA ?_; (with_reducible refine (spec_l4Name.calls k2 ((rd_T52 l0_1 x29_2).f0) true _ A21.out).mono ?_); rintro e w50 ⟨rfl, hb⟩; refine ⟨_, rfl, ?_⟩; replace BK135 := qbb BK135 hb; replace BK139 := qbb BK139 hb; replace HB := qHB HB hb; (try clear hb); (try clear hb2); (try clear hk); (try clear hi); refine hK.out _ _ (qy2 BK139.out) (fun hHeld => ?_); clear hK K; refine norm_ (a' := ?_) ?_ ?_; rotate_left
                      · show Act.put _ (some 36) _ = _; simp only [Act.put, List.setIfInBounds_toArray, List.set_cons_zero, List.set_cons_succ, i64_w, i32_w]; rfl
                      refine pure_ (i := 3) (N := some 37) (v := ?_) (a' := ?_) #[true, true, true, true, false, false, false, false, false, false, false, false, false, false, false, false, false, false, false, false] rfl rfl (any_of HT_.out (by kernel_rfl)) (fun _ _ _ h => h) (Or.inl ⟨by rfl, ?_⟩) ?_ ?_; rotate_left
                      · intro w'; go_simp; (with_reducible rfl)
                      rotate_left
                      · simp only [Act.put, List.setIfInBounds_toArray, List.set_cons_zero, List.set_cons_succ, i64_w, i32_w]; rfl
                      refine pure_ (i := 4) (N := some 38) (v := ?_) (a' := ?_) #[true, true, true, true, true, false, false, false, false, false, false, false, false, false, false, false, false, false, false, false] rfl rfl (any_of HT_.out (by kernel_rfl)) (fun _ _ _ h => h) (Or.inl ⟨by rfl, ?_⟩) ?_ ?_; rotate_left
                      · intro w'; go_simp; (with_reducible rfl)
                      rotate_left
                      · simp only [Act.put, List.setIfInBounds_toArray, List.set_cons_zero, List.set_cons_succ, i64_w, i32_w]; rfl
                      refine pure_ (i := 5) (N := some 39) (v := ?_) (a' := ?_) #[true, true, true, true, true, true, false, false, false, false, false, false, false, false, false, false, false, false, false, false] rfl rfl (any_of HT_.out (by kernel_rfl)) (fun _ _ _ h => h) (Or.inl ⟨by rfl, ?_⟩) ?_ ?_; rotate_left
                      · intro w'; go_simp; (with_reducible rfl)
                      rotate_left
                      · simp only [Act.put, List.setIfInBounds_toArray, List.set_cons_zero, List.set_cons_succ, i64_w, i32_w]; rfl
                      refine take_ (i := 6) (N := some 40) (v := ?_) (a' := ?_) #[true, true, true, true, true, true, true, false, false, false, false, false, false, false, false, false, false, false, false, false] rfl rfl (take_ofW HT_.out HW_.out (by kernel_rfl)) (fun _ _ _ h => h) (Or.inl ⟨by rfl, ?_⟩) hHeld ?_ ?_; rotate_left
                      · rintro w' ⟨s0, s1⟩; go_simp; (with_reducible rfl)
                      rotate_left
                      · simp only [Act.put, List.setIfInBounds_toArray, List.set_cons_zero, List.set_cons_succ, i64_w, i32_w]; rfl
                      refine one_ (i := 7) (N := some 41) #[true, true, true, true, true, true, true, true, false, false, false, false, false, false, false, false, false, false, false, false] rfl rfl (one_of HT_.out (by kernel_rfl)) (by decide) (fun K hK => ?_); refine goes_ Tryd.func18 (by kernel_rfl) rfl #[.int .i64 ((rd_T52 l0_1 x29_2).f1)] (by rfl) rfl rfl qA ?_; (with_reducible refine (spec_l4Type.calls ((rd_T52 l0_1 x29_2).f1) false _ A23.out).mono ?_); rintro e w' ⟨rfl, ⟨nd, rfl⟩⟩; refine ⟨_, rfl, ?_⟩; refine hK.out _ _ (qy2 BK139.out) (fun hHeld => ?_); clear hK K; refine norm_ (a' := ?_) ?_ ?_; rotate_left
                      · show Act.put _ (some 41) _ = _; simp only [Act.put, List.setIfInBounds_toArray, List.set_cons_zero, List.set_cons_succ, i64_w, i32_w]; rfl
                      refine pure_ (i := 8) (N := some 42) (v := ?_) (a' := ?_) #[true, true, true, true, true, true, true, true, true, false, false, false, false, false, false, false, false, false, false, false] rfl rfl (any_of HT_.out (by kernel_rfl)) (fun _ _ _ h => h) (Or.inl ⟨by rfl, ?_⟩) ?_ ?_; rotate_left
                      · intro w'; go_simp; (with_reducible rfl)
                      rotate_left
                      · simp only [Act.put, List.setIfInBounds_toArray, List.set_cons_zero, List.set_cons_succ, i64_w, i32_w]; rfl
                      refine pure_ (i := 9) (N := some 43) (v := ?_) (a' := ?_) #[true, true, true, true, true, true, true, true, true, true, false, false, false, false, false, false, false, false, false, false] rfl rfl (any_of HT_.out (by kernel_rfl)) (fun _ _ _ h => h) (Or.inl ⟨by rfl, ?_⟩) ?_ ?_; rotate_left
                      · intro w'; go_simp; (with_reducible rfl)
                      rotate_left
                      · simp only [Act.put, List.setIfInBounds_toArray, List.set_cons_zero, List.set_cons_succ, i64_w, i32_w]; rfl
                      refine pure_ (i := 10) (N := some 44) (v := ?_) (a' := ?_) #[true, true, true, true, true, true, true, true, true, true, true, false, false, false, false, false, false, false, false, false] rfl rfl (any_of HT_.out (by kernel_rfl)) (fun _ _ _ h => h) (Or.inl ⟨by rfl, ?_⟩) ?_ ?_; rotate_left
                      · intro w'; go_simp; (with_reducible rfl)
                      rotate_left
                      · simp only [Act.put, List.setIfInBounds_toArray, List.set_cons_zero, List.set_cons_succ, i64_w, i32_w]; rfl
                      refine pure_ (i := 11) (N := some 45) (v := undef) (a' := ?_) #[true, true, true, true, true, true, true, true, true, true, true, true, false, false, false, false, false, false, false, false] rfl rfl (any_of HT_.out (by kernel_rfl)) (fun _ _ _ h => h) (Or.inr ⟨by rfl, rfl⟩) ?_ ?_; rotate_left
                      · simp only [Act.put, List.setIfInBounds_toArray, List.set_cons_zero, List.set_cons_succ, i64_w, i32_w]; rfl
                      refine pure_ (i := 12) (N := some 46) (v := undef) (a' := ?_) #[true, true, true, true, true, true, true, true, true, true, true, true, true, false, false, false, false, false, false, false] rfl rfl (any_of HT_.out (by kernel_rfl)) (fun _ _ _ h => h) (Or.inr ⟨by rfl, rfl⟩) ?_ ?_; rotate_left
                      · simp only [Act.put, List.setIfInBounds_toArray, List.set_cons_zero, List.set_cons_succ, i64_w, i32_w]; rfl
                      refine pure_ (i := 13) (N := some 47) (v := undef) (a' := ?_) #[true, true, true, true, true, true, true, true, true, true, true, true, true, true, false, false, false, false, false, false] rfl rfl (any_of HT_.out (by kernel_rfl)) (fun _ _ _ h => h) (Or.inr ⟨by rfl, rfl⟩) ?_ ?_; rotate_left
                      · simp only [Act.put, List.setIfInBounds_toArray, List.set_cons_zero, List.set_cons_succ, i64_w, i32_w]; rfl
                      refine pure_ (i := 14) (N := some 48) (v := undef) (a' := ?_) #[true, true, true, true, true, true, true, true, true, true, true, true, true, true, true, false, false, false, false, false] rfl rfl (any_of HT_.out (by kernel_rfl)) (fun _ _ _ h => h) (Or.inr ⟨by rfl, rfl⟩) ?_ ?_; rotate_left
                      · simp only [Act.put, List.setIfInBounds_toArray, List.set_cons_zero, List.set_cons_succ, i64_w, i32_w]; rfl
                      refine pure_ (i := 15) (N := some 49) (v := undef) (a' := ?_) #[true, true, true, true, true, true, true, true, true, true, true, true, true, true, true, true, false, false, false, false] rfl rfl (any_of HT_.out (by kernel_rfl)) (fun _ _ _ h => h) (Or.inr ⟨by rfl, rfl⟩) ?_ ?_; rotate_left
                      · simp only [Act.put, List.setIfInBounds_toArray, List.set_cons_zero, List.set_cons_succ, i64_w, i32_w]; rfl
                      refine pure_ (i := 16) (N := some 50) (v := undef) (a' := ?_) #[true, true, true, true, true, true, true, true, true, true, true, true, true, true, true, true, true, false, false, false] rfl rfl (any_of HT_.out (by kernel_rfl)) (fun _ _ _ h => h) (Or.inr ⟨by rfl, rfl⟩) ?_ ?_; rotate_left
                      · simp only [Act.put, List.setIfInBounds_toArray, List.set_cons_zero, List.set_cons_succ, i64_w, i32_w]; rfl
                      refine pure_ (i := 17) (N := some 51) (v := undef) (a' := ?_) #[true, true, true, true, true, true, true, true, true, true, true, true, true, true, true, true, true, true, false, false] rfl rfl (any_of HT_.out (by kernel_rfl)) (fun _ _ _ h => h) (Or.inr ⟨by rfl, rfl⟩) ?_ ?_; rotate_left
                      · simp only [Act.put, List.setIfInBounds_toArray, List.set_cons_zero, List.set_cons_succ, i64_w, i32_w]; rfl
                      refine pure_ (i := 18) (N := some 52) (v := undef) (a' := ?_) #[true, true, true, true, true, true, true, true, true, true, true, true, true, true, true, true, true, true, true, false] rfl rfl (any_of HT_.out (by kernel_rfl)) (fun _ _ _ h => h) (Or.inr ⟨by rfl, rfl⟩) ?_ ?_; rotate_left
                      · simp only [Act.put, List.setIfInBounds_toArray, List.set_cons_zero, List.set_cons_succ, i64_w, i32_w]; rfl
                      refine pure_ (i := 19) (N := some 53) (v := ?_) (a' := ?_) #[true, true, true, true, true, true, true, true, true, true, true, true, true, true, true, true, true, true, true, true] rfl rfl (any_of HT_.out (by kernel_rfl)) (fun _ _ _ h => h) (Or.inl ⟨by rfl, ?_⟩) ?_ ?_; rotate_left
                      · intro w'; go_simp; (with_reducible rfl)
                      rotate_left
                      · simp only [Act.put, List.setIfInBounds_toArray, List.set_cons_zero, List.set_cons_succ, i64_w, i32_w]; rfl
                      refine done_ (done_of HT_.out (by kernel_rfl)) ?_; (try go_wp2); go_ret; exact ⟨qR, qB⟩
                  · replace c22 := Bool.eq_false_iff.mpr c22; subst c22; rw [if_neg qff] at H; obtain rfl := Option.some.inj H; have p138 : 0 ≤ (x29_2 : Int) := of_decide_eq_true qa; have q138 : x29_2 < (l0_1.length : Int) := of_decide_eq_true qa; obtain ⟨ad138, e138, hx138_0, hx138_1⟩ := at_T52 HR0_1.out x29_2 p138 q138; cases e138; replace hx138_0 := (HB.out.cell (World.block_lt_of_cell? w _ hx138_0)).trans hx138_0; replace hx138_1 := (HB.out.cell (World.block_lt_of_cell? w _ hx138_1)).trans hx138_1; replace p138 := eq_true p138; replace q138 := eq_true q138; (try go_wp2_with (first | ((with_reducible refine gds (N := 4) rfl ?_); (try (refine gate_guard (by rfl) ?_; dsimp only)); refine qbx 4 #[.string (⟨#[]⟩ : ByteArray), .int .i64 0] 52 ?_; intro gb139 hg w51 hbox hb; have BK139 := qK (hbox); have GW139 := qK ((qW : w.heap.size ≤ gb139)); have GE139 := GW139; replace HB := qHB HB hb; have NB135_139 := qK (qlt BK135 hg); have NB139_135 := qK (qgt BK135 hg); replace BK135 := qbb BK135 hb; clear hb hbox hg; have hnb52 := NB139_135.out; have hnc52 := NB135_139.out; have hz53 := qz2 BK139.out))); have n0_ : Aside0 (((w51.setCell ⟨gb139, 0, none⟩ (.string ((rd_T52 l0_1 x29_2).f0))).setCell ⟨gb139, 1, none⟩ (.int .i64 ((rd_T52 l0_1 x29_2).f1))).heap[gb135]? = some (.cells #[.string a0_0, .slice (some ad138) l0_1.length c0_1, .slice A0_2 l0_2.length c0_2] 37 (0, 0))) := ⟨by (with_reducible repeat (first | refine bdN ?_ _ | refine bkD ?_ | refine bkA ?_ _)); refine bfa ?_ NB135_139.out _; (with_reducible repeat (first | refine bdN ?_ _ | refine bkD ?_ | refine bkA ?_ _)); refine bfa ?_ NB135_139.out _; (with_reducible repeat (first | refine bdN ?_ _ | refine bkD ?_ | refine bkA ?_ _)); exact BK135.out⟩; have n1_ : Aside0 (((w51.setCell ⟨gb139, 0, none⟩ (.string ((rd_T52 l0_1 x29_2).f0))).setCell ⟨gb139, 1, none⟩ (.int .i64 ((rd_T52 l0_1 x29_2).f1))).heap[gb139]? = some (.cells #[.string ((rd_T52 l0_1 x29_2).f0), .int .i64 ((rd_T52 l0_1 x29_2).f1)] 52 (0, 0))) := ⟨by (with_reducible repeat (first | refine bdN ?_ _ | refine bkD ?_ | refine bkA ?_ _)); refine bpu (cs := #[.string ((rd_T52 l0_1 x29_2).f0), .int .i64 0]) ?_ 1 _ rfl; (with_reducible repeat (first | refine bdN ?_ _ | refine bkD ?_ | refine bkA ?_ _)); refine bpu (cs := #[.string (⟨#[]⟩ : ByteArray), .int .i64 0]) ?_ 0 _ rfl; (with_reducible repeat (first | refine bdN ?_ _ | refine bkD ?_ | refine bkA ?_ _)); exact BK139.out⟩; have n2_ : Aside0 (Below w.heap.size w ((w51.setCell ⟨gb139, 0, none⟩ (.string ((rd_T52 l0_1 x29_2).f0))).setCell ⟨gb139, 1, none⟩ (.int .i64 ((rd_T52 l0_1 x29_2).f1)))) := ⟨qB⟩; (try clear BK135); (try clear BK139); (try clear HB); generalize ((w51.setCell ⟨gb139, 0, none⟩ (.string ((rd_T52 l0_1 x29_2).f0))).setCell ⟨gb139, 1, none⟩ (.int .i64 ((rd_T52 l0_1 x29_2).f1))) = w54 at n0_ n1_ n2_ ⊢; have BK135 := n0_; have BK139 := n1_; have HB := n2_; clear n0_ n1_ n2_; replace BK135 := qK (bkD BK135.out); replace BK139 := qK (bkD BK139.out); replace HB := qK (bd1 HB.out); refine start_ (n := 20) (S := fun w' => w'.cell? ⟨gb139, 0, none⟩ = some (.string ((rd_T52 l0_1 x29_2).f0)) ∧ w'.cell? ⟨gb139, 1, none⟩ = some (.int .i64 ((rd_T52 l0_1 x29_2).f1))) (ds := []) #[false, false, false, false, false, false, false, false, false, false, false, false, false, false, false, false, false, false, false, false] (by kernel_rfl) rfl rfl (qy2 BK139.out) (fun hHeld => ?_); refine with_tabW spec_l5TableOK.tab6 spec_l5TableOK.bits6 (fun HT_ HW_ => ?_); generalize w54.drew = w55 at BK135 BK139 HB hHeld ⊢; refine pure_ (i := 0) (N := some 34) (v := ?_) (a' := ?_) #[true, false, false, false, false, false, false, false, false, false, false, false, false, false, false, false, false, false, false, false] rfl rfl (any_of HT_.out (by kernel_rfl)) (fun _ _ _ h => h) (Or.inl ⟨by rfl, ?_⟩) ?_ ?_; rotate_left
                    · intro w'; go_simp; (with_reducible rfl)
                    rotate_left
                    · simp only [Act.put, List.setIfInBounds_toArray, List.set_cons_zero, List.set_cons_succ, i64_w, i32_w]; rfl
                    refine take_ (i := 1) (N := some 35) (v := ?_) (a' := ?_) #[true, true, false, false, false, false, false, false, false, false, false, false, false, false, false, false, false, false, false, false] rfl rfl (take_ofW HT_.out HW_.out (by kernel_rfl)) (fun _ _ _ h => h) (Or.inl ⟨by rfl, ?_⟩) hHeld ?_ ?_; rotate_left
                    · rintro w' ⟨s0, s1⟩; go_simp; (with_reducible rfl)
                    rotate_left
                    · simp only [Act.put, List.setIfInBounds_toArray, List.set_cons_zero, List.set_cons_succ, i64_w, i32_w]; rfl
                    refine one_ (i := 2) (N := some 36) #[true, true, true, false, false, false, false, false, false, false, false, false, false, false, false, false, false, false, false, false] rfl rfl (one_of HT_.out (by kernel_rfl)) (by decide) (fun K hK => ?_); refine goes_ Tryd.func16 (by kernel_rfl) rfl #[.string ((rd_T52 l0_1 x29_2).f0)] (by rfl) rfl rfl qA ?_; (with_reducible refine (spec_l4Name.calls k2 ((rd_T52 l0_1 x29_2).f0) false _ A21.out).mono ?_); rintro e w56 ⟨rfl, hb⟩; refine ⟨_, rfl, ?_⟩; replace BK135 := qbb BK135 hb; replace BK139 := qbb BK139 hb; replace HB := qHB HB hb; (try clear hb); (try clear hb2); (try clear hk); (try clear hi); refine hK.out _ _ (qy2 BK139.out) (fun hHeld => ?_); clear hK K; refine norm_ (a' := ?_) ?_ ?_; rotate_left
                    · show Act.put _ (some 36) _ = _; simp only [Act.put, List.setIfInBounds_toArray, List.set_cons_zero, List.set_cons_succ, i64_w, i32_w]; rfl
                    refine pure_ (i := 3) (N := some 37) (v := ?_) (a' := ?_) #[true, true, true, true, false, false, false, false, false, false, false, false, false, false, false, false, false, false, false, false] rfl rfl (any_of HT_.out (by kernel_rfl)) (fun _ _ _ h => h) (Or.inl ⟨by rfl, ?_⟩) ?_ ?_; rotate_left
                    · intro w'; go_simp; (with_reducible rfl)
                    rotate_left
                    · simp only [Act.put, List.setIfInBounds_toArray, List.set_cons_zero, List.set_cons_succ, i64_w, i32_w]; rfl
                    refine pure_ (i := 4) (N := some 38) (v := ?_) (a' := ?_) #[true, true, true, true, true, false, false, false, false, false, false, false, false, false, false, false, false, false, false, false] rfl rfl (any_of HT_.out (by kernel_rfl)) (fun _ _ _ h => h) (Or.inl ⟨by rfl, ?_⟩) ?_ ?_; rotate_left
                    · intro w'; go_simp; (with_reducible rfl)
                    rotate_left
                    · simp only [Act.put, List.setIfInBounds_toArray, List.set_cons_zero, List.set_cons_succ, i64_w, i32_w]; rfl
                    refine pure_ (i := 5) (N := some 39) (v := undef) (a' := ?_) #[true, true, true, true, true, true, false, false, false, false, false, false, false, false, false, false, false, false, false, false] rfl rfl (any_of HT_.out (by kernel_rfl)) (fun _ _ _ h => h) (Or.inr ⟨by rfl, rfl⟩) ?_ ?_; rotate_left
                    · simp only [Act.put, List.setIfInBounds_toArray, List.set_cons_zero, List.set_cons_succ, i64_w, i32_w]; rfl
                    refine pure_ (i := 6) (N := some 40) (v := undef) (a' := ?_) #[true, true, true, true, true, true, true, false, false, false, false, false, false, false, false, false, false, false, false, false] rfl rfl (any_of HT_.out (by kernel_rfl)) (fun _ _ _ h => h) (Or.inr ⟨by rfl, rfl⟩) ?_ ?_; rotate_left
                    · simp only [Act.put, List.setIfInBounds_toArray, List.set_cons_zero, List.set_cons_succ, i64_w, i32_w]; rfl
                    refine pure_ (i := 7) (N := some 41) (v := undef) (a' := ?_) #[true, true, true, true, true, true, true, true, false, false, false, false, false, false, false, false, false, false, false, false] rfl rfl (any_of HT_.out (by kernel_rfl)) (fun _ _ _ h => h) (Or.inr ⟨by rfl, rfl⟩) ?_ ?_; rotate_left
                    · simp only [Act.put, List.setIfInBounds_toArray, List.set_cons_zero, List.set_cons_succ, i64_w, i32_w]; rfl
                    refine pure_ (i := 8) (N := some 42) (v := undef) (a' := ?_) #[true, true, true, true, true, true, true, true, true, false, false, false, false, false, false, false, false, false, false, false] rfl rfl (any_of HT_.out (by kernel_rfl)) (fun _ _ _ h => h) (Or.inr ⟨by rfl, rfl⟩) ?_ ?_; rotate_left
                    · simp only [Act.put, List.setIfInBounds_toArray, List.set_cons_zero, List.set_cons_succ, i64_w, i32_w]; rfl
                    refine pure_ (i := 9) (N := some 43) (v := ?_) (a' := ?_) #[true, true, true, true, true, true, true, true, true, true, false, false, false, false, false, false, false, false, false, false] rfl rfl (any_of HT_.out (by kernel_rfl)) (fun _ _ _ h => h) (Or.inl ⟨by rfl, ?_⟩) ?_ ?_; rotate_left
                    · intro w'; go_simp; (with_reducible rfl)
                    rotate_left
                    · simp only [Act.put, List.setIfInBounds_toArray, List.set_cons_zero, List.set_cons_succ, i64_w, i32_w]; rfl
                    refine pure_ (i := 10) (N := some 44) (v := ?_) (a' := ?_) #[true, true, true, true, true, true, true, true, true, true, true, false, false, false, false, false, false, false, false, false] rfl rfl (any_of HT_.out (by kernel_rfl)) (fun _ _ _ h => h) (Or.inl ⟨by rfl, ?_⟩) ?_ ?_; rotate_left
                    · intro w'; go_simp; (with_reducible rfl)
                    rotate_left
                    · simp only [Act.put, List.setIfInBounds_toArray, List.set_cons_zero, List.set_cons_succ, i64_w, i32_w]; rfl
                    refine pure_ (i := 11) (N := some 45) (v := undef) (a' := ?_) #[true, true, true, true, true, true, true, true, true, true, true, true, false, false, false, false, false, false, false, false] rfl rfl (any_of HT_.out (by kernel_rfl)) (fun _ _ _ h => h) (Or.inr ⟨by rfl, rfl⟩) ?_ ?_; rotate_left
                    · simp only [Act.put, List.setIfInBounds_toArray, List.set_cons_zero, List.set_cons_succ, i64_w, i32_w]; rfl
                    refine pure_ (i := 12) (N := some 46) (v := undef) (a' := ?_) #[true, true, true, true, true, true, true, true, true, true, true, true, true, false, false, false, false, false, false, false] rfl rfl (any_of HT_.out (by kernel_rfl)) (fun _ _ _ h => h) (Or.inr ⟨by rfl, rfl⟩) ?_ ?_; rotate_left
                    · simp only [Act.put, List.setIfInBounds_toArray, List.set_cons_zero, List.set_cons_succ, i64_w, i32_w]; rfl
                    refine pure_ (i := 13) (N := some 47) (v := undef) (a' := ?_) #[true, true, true, true, true, true, true, true, true, true, true, true, true, true, false, false, false, false, false, false] rfl rfl (any_of HT_.out (by kernel_rfl)) (fun _ _ _ h => h) (Or.inr ⟨by rfl, rfl⟩) ?_ ?_; rotate_left
                    · simp only [Act.put, List.setIfInBounds_toArray, List.set_cons_zero, List.set_cons_succ, i64_w, i32_w]; rfl
                    refine pure_ (i := 14) (N := some 48) (v := undef) (a' := ?_) #[true, true, true, true, true, true, true, true, true, true, true, true, true, true, true, false, false, false, false, false] rfl rfl (any_of HT_.out (by kernel_rfl)) (fun _ _ _ h => h) (Or.inr ⟨by rfl, rfl⟩) ?_ ?_; rotate_left
                    · simp only [Act.put, List.setIfInBounds_toArray, List.set_cons_zero, List.set_cons_succ, i64_w, i32_w]; rfl
                    refine pure_ (i := 15) (N := some 49) (v := undef) (a' := ?_) #[true, true, true, true, true, true, true, true, true, true, true, true, true, true, true, true, false, false, false, false] rfl rfl (any_of HT_.out (by kernel_rfl)) (fun _ _ _ h => h) (Or.inr ⟨by rfl, rfl⟩) ?_ ?_; rotate_left
                    · simp only [Act.put, List.setIfInBounds_toArray, List.set_cons_zero, List.set_cons_succ, i64_w, i32_w]; rfl
                    refine pure_ (i := 16) (N := some 50) (v := undef) (a' := ?_) #[true, true, true, true, true, true, true, true, true, true, true, true, true, true, true, true, true, false, false, false] rfl rfl (any_of HT_.out (by kernel_rfl)) (fun _ _ _ h => h) (Or.inr ⟨by rfl, rfl⟩) ?_ ?_; rotate_left
                    · simp only [Act.put, List.setIfInBounds_toArray, List.set_cons_zero, List.set_cons_succ, i64_w, i32_w]; rfl
                    refine pure_ (i := 17) (N := some 51) (v := undef) (a' := ?_) #[true, true, true, true, true, true, true, true, true, true, true, true, true, true, true, true, true, true, false, false] rfl rfl (any_of HT_.out (by kernel_rfl)) (fun _ _ _ h => h) (Or.inr ⟨by rfl, rfl⟩) ?_ ?_; rotate_left
                    · simp only [Act.put, List.setIfInBounds_toArray, List.set_cons_zero, List.set_cons_succ, i64_w, i32_w]; rfl
                    refine pure_ (i := 18) (N := some 52) (v := undef) (a' := ?_) #[true, true, true, true, true, true, true, true, true, true, true, true, true, true, true, true, true, true, true, false] rfl rfl (any_of HT_.out (by kernel_rfl)) (fun _ _ _ h => h) (Or.inr ⟨by rfl, rfl⟩) ?_ ?_; rotate_left
                    · simp only [Act.put, List.setIfInBounds_toArray, List.set_cons_zero, List.set_cons_succ, i64_w, i32_w]; rfl
                    refine pure_ (i := 19) (N := some 53) (v := ?_) (a' := ?_) #[true, true, true, true, true, true, true, true, true, true, true, true, true, true, true, true, true, true, true, true] rfl rfl (any_of HT_.out (by kernel_rfl)) (fun _ _ _ h => h) (Or.inl ⟨by rfl, ?_⟩) ?_ ?_; rotate_left
                    · intro w'; go_simp; (with_reducible rfl)
                    rotate_left
                    · simp only [Act.put, List.setIfInBounds_toArray, List.set_cons_zero, List.set_cons_succ, i64_w, i32_w]; rfl
                    refine done_ (done_of HT_.out (by kernel_rfl)) ?_; (try go_wp2); go_ret; exact ⟨qR, qB⟩
                · rw [if_neg c20] at H; exact absurd H (by simp)
              · rw [if_neg c19] at H; exact absurd H (by simp)
            · rw [if_neg c18] at H; have c18b0 : decide (x29_2 < (l0_1.length : Int)) = false := decide_eq_false c18; clear c18; have H' := qK H; clear H; obtain ⟨hcz57_0, hcz57_1, hcz57_2⟩ := zC3 BK135.out; obtain ⟨hfz57_0, hfz57_1, hfz57_2⟩ := zF3 BK135.out; go_wp2; go_loopg [58] k2 (fun kq v58 w' => ∃ (x58_3 : Int), v58 = .int .i64 x58_3 ∧ Aside0 (spec_l5TableOK.l1 kq l0_2 (l0_2.length : Int) x58_3 a0_0 l0_1 l0_2 = some r) ∧ Aside0 (kq ≤ k2) ∧ Aside0 (w'.heap[gb135]? = some (.cells #[.string a0_0, (.slice A0_1 l0_1.length c0_1), (.slice A0_2 l0_2.length c0_2)] 37 (0, 0))) ∧ Aside0 (Below w.heap.size w w'))
              case atStart => exact ⟨(0), qS, H', ⟨Nat.le_refl _⟩, ⟨by (with_reducible repeat (first | refine bdN ?_ _ | refine bkD ?_ | refine bkA ?_ _)); exact BK135.out⟩, ⟨qB⟩⟩
              case round =>
                clear H'; (try clear c1); (try clear p1); (try clear q1); (try clear hx1); (try clear c2); (try clear p2); (try clear c4); (try clear q4); (try clear c5); (try clear p6); (try clear p13); (try clear q13); (try clear hx13); (try clear c16); (try clear c18); (try clear c18b0); (try clear c19); (try clear c20); (try clear c22); (try clear c24); (try clear c26); (try clear q43); (try clear c46); (try clear c52); (try clear hz47); (try clear hz53); (try clear hcz57_0); (try clear hcz57_1); (try clear hcz57_2); (try clear hfz57_0); (try clear hfz57_1); (try clear hfz57_2); (try clear hx138_0); (try clear hx138_1); (try clear p138); (try clear q138); obtain ⟨x58_3, rfl, HA, HK3, BK135, HB⟩ := hrel
                cases gk with
                | zero => exact absurd HA.out (by simp [spec_l5TableOK.l1])
                | succ k3 =>
                  have H := HA.out; clear HA; simp only [spec_l5TableOK.l1] at H; by_cases c58 : x58_3 < (l0_2.length : Int)
                  · rw [if_pos c58] at H; have c58b0 : decide (x58_3 < (l0_2.length : Int)) = true := decide_eq_true c58; clear c58; by_cases c59 : 0 ≤ x58_3
                    · rw [if_pos c59] at H; have c59b0 : decide (0 ≤ x58_3) = true := decide_eq_true c59; clear c59; by_cases c60 : x58_3 < (l0_2.length : Int)
                      · rw [if_pos c60] at H; have c60b0 : decide (x58_3 < (l0_2.length : Int)) = true := decide_eq_true c60; clear c60; by_cases c61 : ((rd_L10 l0_2 x58_3).length : Int) = (l0_1.length : Int)
                        · rw [if_pos c61] at H; have c61b0 : (((rd_L10 l0_2 x58_3).length : Int) == (l0_1.length : Int)) = true := beq_iff_eq.mpr c61; have c61b1 : (((rd_L10 l0_2 x58_3).length : Int) != (l0_1.length : Int)) = false := bne_eq_false_iff_eq.mpr c61; (have c61b2 : ((rd_L10 l0_2 x58_3).length == l0_1.length) = true := by first | simpa using c61 | (simp at c61 ⊢; omega)); clear c61; have H' := qK H; clear H; have p147 : 0 ≤ (x58_3 : Int) := of_decide_eq_true qa; have q147 : x58_3 < (l0_2.length : Int) := of_decide_eq_true qa; obtain ⟨ad147, A147_0, c147_0, e147, hx147_0, hl147_0, hi147_0⟩ := at_L10 HR0_2.out x58_3 p147 q147; cases e147; replace hx147_0 := (HB.out.cell (World.block_lt_of_cell? w _ hx147_0)).trans hx147_0; have HR147_0 := qK hi147_0; have HC147_0 := qK hl147_0; clear hi147_0 hl147_0; replace p147 := eq_true p147; replace q147 := eq_true q147; obtain ⟨hcz62_0, hcz62_1, hcz62_2⟩ := zC3 BK135.out; obtain ⟨hfz62_0, hfz62_1, hfz62_2⟩ := zF3 BK135.out; go_wp2; go_loopg [71] k3 (fun kq v71 w' => ∃ (x71_4 : Int), v71 = .int .i64 x71_4 ∧ Aside0 (spec_l5TableOK.l2 kq x58_3 (rd_L10 l0_2 x58_3) l0_2 (l0_2.length : Int) x58_3 (rd_L10 l0_2 x58_3) ((rd_L10 l0_2 x58_3).length : Int) x71_4 a0_0 l0_1 l0_2 = some r) ∧ Aside0 (kq ≤ k3) ∧ Aside0 (w'.heap[gb135]? = some (.cells #[.string a0_0, (.slice A0_1 l0_1.length c0_1), (.slice (some ad147) l0_2.length c0_2)] 37 (0, 0))) ∧ Aside0 (Below w.heap.size w w'))
                          case atStart => exact ⟨(0), qS, H', ⟨Nat.le_refl _⟩, ⟨by (with_reducible repeat (first | refine bdN ?_ _ | refine bkD ?_ | refine bkA ?_ _)); exact BK135.out⟩, ⟨qB⟩⟩
                          case round =>
                            clear H'; (try clear c1); (try clear p1); (try clear q1); (try clear hx1); (try clear c2); (try clear p2); (try clear c4); (try clear q4); (try clear c5); (try clear c6); (try clear p6); (try clear p13); (try clear q13); (try clear hx13); (try clear c14); (try clear p14); (try clear q14); (try clear hx14); (try clear c16); (try clear c18); (try clear c18b0); (try clear c19); (try clear c20); (try clear c22); (try clear c24); (try clear c26); (try clear q43); (try clear c46); (try clear c52); (try clear c58); (try clear c58b0); (try clear c59); (try clear c59b0); (try clear c60); (try clear c60b0); (try clear c61); (try clear c61b0); (try clear c61b1); (try clear c61b2); (try clear hz47); (try clear hz53); (try clear hcz57_0); (try clear hcz57_1); (try clear hcz57_2); (try clear hcz62_0); (try clear hcz62_1); (try clear hcz62_2); (try clear hfz57_0); (try clear hfz57_1); (try clear hfz57_2); (try clear hfz62_0); (try clear hfz62_1); (try clear hfz62_2); (try clear hx138_0); (try clear hx138_1); (try clear hx147_0); (try clear p138); (try clear p147); (try clear q138); (try clear q147); obtain ⟨x71_4, rfl, HA, HK4, BK135, HB⟩ := hrel
                            cases gk with
                            | zero => exact absurd HA.out (by simp [spec_l5TableOK.l2])
                            | succ k4 =>
                              have H := HA.out; clear HA; simp only [spec_l5TableOK.l2] at H; by_cases c63 : x71_4 < ((rd_L10 l0_2 x58_3).length : Int)
                              · rw [if_pos c63] at H; have c63b0 : decide (x71_4 < ((rd_L10 l0_2 x58_3).length : Int)) = true := decide_eq_true c63; clear c63; by_cases c64 : 0 ≤ x71_4
                                · rw [if_pos c64] at H; have c64b0 : decide (0 ≤ x71_4) = true := decide_eq_true c64; clear c64; by_cases c65 : x71_4 < ((rd_L10 l0_2 x58_3).length : Int)
                                  · rw [if_pos c65] at H; have c65b0 : decide (x71_4 < ((rd_L10 l0_2 x58_3).length : Int)) = true := decide_eq_true c65; clear c65; by_cases c66 : x71_4 < (l0_1.length : Int)
                                    · rw [if_pos c66] at H; have c66b0 : decide (x71_4 < (l0_1.length : Int)) = true := decide_eq_true c66; clear c66; replace H := Option.bind_eq_some_iff.mp H; obtain ⟨t151, A670, H⟩ := H; have A67 := qK A670; clear A670; by_cases c68 : t151 = true
                                      · subst c68; rw [if_pos rfl] at H; have H' := qK H; clear H; have p148 : 0 ≤ (x71_4 : Int) := of_decide_eq_true qa; have q148 : x71_4 < ((rd_L10 l0_2 x58_3).length : Int) := of_decide_eq_true qa; obtain ⟨ad148, e148, hx148_0, hx148_1, hx148_2⟩ := at_T57 HR147_0.out x71_4 p148 q148; cases e148; replace hx148_0 := (HB.out.cell (World.block_lt_of_cell? w _ hx148_0)).trans hx148_0; replace hx148_1 := (HB.out.cell (World.block_lt_of_cell? w _ hx148_1)).trans hx148_1; replace hx148_2 := (HB.out.cell (World.block_lt_of_cell? w _ hx148_2)).trans hx148_2; replace p148 := eq_true p148; replace q148 := eq_true q148; (try go_wp2_with (first | ((with_reducible refine gds (N := 8) rfl ?_); (try (refine gate_guard (by rfl) ?_; dsimp only)); refine qbx 8 #[.int .i64 0, .int .i64 0, .string (⟨#[]⟩ : ByteArray)] 57 ?_; intro gb149 hg w69 hbox hb; have BK149 := qK (hbox); have GW149 := qK ((qW : w.heap.size ≤ gb149)); have GE149 := GW149; replace HB := qHB HB hb; have NB135_149 := qK (qlt BK135 hg); have NB149_135 := qK (qgt BK135 hg); replace BK135 := qbb BK135 hb; clear hb hbox hg; have hnb70 := NB149_135.out; have hnc70 := NB135_149.out; have hz71 := qz3 BK149.out))); have n0_ : Aside0 ((((w69.setCell ⟨gb149, 0, none⟩ (.int .i64 ((rd_T57 (rd_L10 l0_2 x58_3) x71_4).f0))).setCell ⟨gb149, 1, none⟩ (.int .i64 ((rd_T57 (rd_L10 l0_2 x58_3) x71_4).f1))).setCell ⟨gb149, 2, none⟩ (.string ((rd_T57 (rd_L10 l0_2 x58_3) x71_4).f2))).heap[gb135]? = some (.cells #[.string a0_0, .slice A0_1 l0_1.length c0_1, .slice (some ad147) l0_2.length c0_2] 37 (0, 0))) := ⟨by (with_reducible repeat (first | refine bdN ?_ _ | refine bkD ?_ | refine bkA ?_ _)); refine bfa ?_ NB135_149.out _; (with_reducible repeat (first | refine bdN ?_ _ | refine bkD ?_ | refine bkA ?_ _)); refine bfa ?_ NB135_149.out _; (with_reducible repeat (first | refine bdN ?_ _ | refine bkD ?_ | refine bkA ?_ _)); refine bfa ?_ NB135_149.out _; (with_reducible repeat (first | refine bdN ?_ _ | refine bkD ?_ | refine bkA ?_ _)); exact BK135.out⟩; have n1_ : Aside0 ((((w69.setCell ⟨gb149, 0, none⟩ (.int .i64 ((rd_T57 (rd_L10 l0_2 x58_3) x71_4).f0))).setCell ⟨gb149, 1, none⟩ (.int .i64 ((rd_T57 (rd_L10 l0_2 x58_3) x71_4).f1))).setCell ⟨gb149, 2, none⟩ (.string ((rd_T57 (rd_L10 l0_2 x58_3) x71_4).f2))).heap[gb149]? = some (.cells #[.int .i64 ((rd_T57 (rd_L10 l0_2 x58_3) x71_4).f0), .int .i64 ((rd_T57 (rd_L10 l0_2 x58_3) x71_4).f1), .string ((rd_T57 (rd_L10 l0_2 x58_3) x71_4).f2)] 57 (0, 0))) := ⟨by (with_reducible repeat (first | refine bdN ?_ _ | refine bkD ?_ | refine bkA ?_ _)); refine bpu (cs := #[.int .i64 ((rd_T57 (rd_L10 l0_2 x58_3) x71_4).f0), .int .i64 ((rd_T57 (rd_L10 l0_2 x58_3) x71_4).f1), .string (⟨#[]⟩ : ByteArray)]) ?_ 2 _ rfl; (with_reducible repeat (first | refine bdN ?_ _ | refine bkD ?_ | refine bkA ?_ _)); refine bpu (cs := #[.int .i64 ((rd_T57 (rd_L10 l0_2 x58_3) x71_4).f0), .int .i64 0, .string (⟨#[]⟩ : ByteArray)]) ?_ 1 _ rfl; (with_reducible repeat (first | refine bdN ?_ _ | refine bkD ?_ | refine bkA ?_ _)); refine bpu (cs := #[.int .i64 0, .int .i64 0, .string (⟨#[]⟩ : ByteArray)]) ?_ 0 _ rfl; (with_reducible repeat (first | refine bdN ?_ _ | refine bkD ?_ | refine bkA ?_ _)); exact BK149.out⟩; have n2_ : Aside0 (Below w.heap.size w (((w69.setCell ⟨gb149, 0, none⟩ (.int .i64 ((rd_T57 (rd_L10 l0_2 x58_3) x71_4).f0))).setCell ⟨gb149, 1, none⟩ (.int .i64 ((rd_T57 (rd_L10 l0_2 x58_3) x71_4).f1))).setCell ⟨gb149, 2, none⟩ (.string ((rd_T57 (rd_L10 l0_2 x58_3) x71_4).f2)))) := ⟨qB⟩; (try clear BK135); (try clear BK149); (try clear HB); generalize (((w69.setCell ⟨gb149, 0, none⟩ (.int .i64 ((rd_T57 (rd_L10 l0_2 x58_3) x71_4).f0))).setCell ⟨gb149, 1, none⟩ (.int .i64 ((rd_T57 (rd_L10 l0_2 x58_3) x71_4).f1))).setCell ⟨gb149, 2, none⟩ (.string ((rd_T57 (rd_L10 l0_2 x58_3) x71_4).f2))) = w72 at n0_ n1_ n2_ ⊢; have BK135 := n0_; have BK149 := n1_; have HB := n2_; clear n0_ n1_ n2_; replace BK135 := qK (bkD BK135.out); replace BK149 := qK (bkD BK149.out); replace HB := qK (bd1 HB.out); have p150 : 0 ≤ (x71_4 : Int) := of_decide_eq_true qa; have q150 : x71_4 < (l0_1.length : Int) := of_decide_eq_true qa; obtain ⟨ad150, e150, hx150_0, hx150_1⟩ := at_T52 HR0_1.out x71_4 p150 q150; have hw150_1 := hx150_1; have hw150_0 := hx150_0; cases e150; replace hx150_0 := (HB.out.cell (World.block_lt_of_cell? w _ hx150_0)).trans hx150_0; replace hx150_1 := (HB.out.cell (World.block_lt_of_cell? w _ hx150_1)).trans hx150_1; replace p150 := eq_true p150; replace q150 := eq_true q150; refine start_ (n := 9) (S := fun w' => w'.cell? ⟨gb149, 0, none⟩ = some (.int .i64 ((rd_T57 (rd_L10 l0_2 x58_3) x71_4).f0)) ∧ w'.cell? ⟨gb149, 1, none⟩ = some (.int .i64 ((rd_T57 (rd_L10 l0_2 x58_3) x71_4).f1)) ∧ w'.cell? ⟨gb149, 2, none⟩ = some (.string ((rd_T57 (rd_L10 l0_2 x58_3) x71_4).f2)) ∧ w'.cell? ⟨gb135, 0, none⟩ = some (.string a0_0) ∧ w'.cell? ⟨gb135, 1, none⟩ = some (.slice (some ad150) l0_1.length c0_1) ∧ w'.cell? ⟨gb135, 2, none⟩ = some (.slice (some ad147) l0_2.length c0_2) ∧ w'.cell? (ad150.add ((x71_4).toNat * 2)) = some (.string ((rd_T52 l0_1 x71_4).f0)) ∧ w'.cell? ⟨(ad150.add ((x71_4).toNat * 2)).block, (ad150.add ((x71_4).toNat * 2)).off + 1, none⟩ = some (.int .i64 ((rd_T52 l0_1 x71_4).f1))) (ds := []) #[false, false, false, false, false, false, false, false, false] (by kernel_rfl) rfl rfl ⟨(bce BK149.out 0).trans rfl, (bce BK149.out 1).trans rfl, (bce BK149.out 2).trans rfl, (bce BK135.out 0).trans rfl, (bce BK135.out 1).trans rfl, (bce BK135.out 2).trans rfl, ((HB.out.cell (World.block_lt_of_cell? w _ hw150_0)).trans hw150_0), ((HB.out.cell (World.block_lt_of_cell? w _ hw150_1)).trans hw150_1)⟩ (fun hHeld => ?_); refine with_tabW spec_l5TableOK.tab17 spec_l5TableOK.bits17 (fun HT_ HW_ => ?_); generalize w72.drew = w73 at BK135 BK149 HB hx150_0 hx150_1 hHeld ⊢; refine pure_ (i := 1) (N := some 77) (v := ?_) (a' := ?_) #[false, true, false, false, false, false, false, false, false] rfl rfl (any_of HT_.out (by kernel_rfl)) (fun _ _ _ h => h) (Or.inl ⟨by rfl, ?_⟩) ?_ ?_; rotate_left
                                        · intro w'; go_simp; (with_reducible rfl)
                                        rotate_left
                                        · simp only [Act.put, List.setIfInBounds_toArray, List.set_cons_zero, List.set_cons_succ, i64_w, i32_w]; rfl
                                        refine pure_ (i := 3) (N := some 79) (v := ?_) (a' := ?_) #[false, true, false, true, false, false, false, false, false] rfl rfl (any_of HT_.out (by kernel_rfl)) (fun _ _ _ h => h) (Or.inl ⟨by rfl, ?_⟩) ?_ ?_; rotate_left
                                        · intro w'; go_simp; (with_reducible rfl)
                                        rotate_left
                                        · simp only [Act.put, List.setIfInBounds_toArray, List.set_cons_zero, List.set_cons_succ, i64_w, i32_w]; rfl
                                        refine take_ (i := 0) (N := some 76) (v := ?_) (a' := ?_) #[true, true, false, true, false, false, false, false, false] rfl rfl (take_ofW HT_.out HW_.out (by kernel_rfl)) (fun _ _ _ h => h) (Or.inl ⟨by rfl, ?_⟩) hHeld ?_ ?_; rotate_left
                                        · rintro w' ⟨s0, s1, s2, s3, s4, s5, s6, s7⟩; go_simp; (with_reducible rfl)
                                        rotate_left
                                        · simp only [Act.put, List.setIfInBounds_toArray, List.set_cons_zero, List.set_cons_succ, i64_w, i32_w]; rfl
                                        refine take_ (i := 2) (N := some 78) (v := ?_) (a' := ?_) #[true, true, true, true, false, false, false, false, false] rfl rfl (take_ofW HT_.out HW_.out (by kernel_rfl)) (fun _ _ _ h => h) (Or.inl ⟨by rfl, ?_⟩) hHeld ?_ ?_; rotate_left
                                        · rintro w' ⟨s0, s1, s2, s3, s4, s5, s6, s7⟩; go_simp; (with_reducible rfl)
                                        rotate_left
                                        · simp only [Act.put, List.setIfInBounds_toArray, List.set_cons_zero, List.set_cons_succ, i64_w, i32_w]; rfl
                                        refine pure_ (i := 4) (N := some 80) (v := ?_) (a' := ?_) #[true, true, true, true, true, false, false, false, false] rfl rfl (any_of HT_.out (by kernel_rfl)) (fun _ _ _ h => h) (Or.inl ⟨by rfl, ?_⟩) ?_ ?_; rotate_left
                                        · intro w'; go_simp; (with_reducible rfl)
                                        rotate_left
                                        · simp only [Act.put, List.setIfInBounds_toArray, List.set_cons_zero, List.set_cons_succ, i64_w, i32_w]; rfl
                                        refine pure_ (i := 5) (N := some 81) (v := ?_) (a' := ?_) #[true, true, true, true, true, true, false, false, false] rfl rfl (any_of HT_.out (by kernel_rfl)) (fun _ _ _ h => h) (Or.inl ⟨by rfl, ?_⟩) ?_ ?_; rotate_left
                                        · intro w'; go_simp; (with_reducible rfl)
                                        rotate_left
                                        · simp only [Act.put, List.setIfInBounds_toArray, List.set_cons_zero, List.set_cons_succ, i64_w, i32_w]; rfl
                                        refine take_ (i := 6) (N := some 82) (v := ?_) (a' := ?_) #[true, true, true, true, true, true, true, false, false] rfl rfl (take_ofW HT_.out HW_.out (by kernel_rfl)) (fun _ _ _ h => h) (Or.inl ⟨by rfl, ?_⟩) hHeld ?_ ?_; rotate_left
                                        · rintro w' ⟨s0, s1, s2, s3, s4, s5, s6, s7⟩; go_simp; (with_reducible rfl)
                                        rotate_left
                                        · simp only [Act.put, List.setIfInBounds_toArray, List.set_cons_zero, List.set_cons_succ, i64_w, i32_w]; rfl
                                        refine one_ (i := 7) (N := some 83) #[true, true, true, true, true, true, true, true, false] rfl rfl (one_of HT_.out (by kernel_rfl)) (by decide) (fun K hK => ?_); refine goes_ Tryd.func20 (by kernel_rfl) rfl #[.agg #[.int .i64 ((rd_T57 (rd_L10 l0_2 x58_3) x71_4).f0), .int .i64 ((rd_T57 (rd_L10 l0_2 x58_3) x71_4).f1), .string ((rd_T57 (rd_L10 l0_2 x58_3) x71_4).f2)], .int .i64 ((rd_T52 l0_1 x71_4).f1)] (by rfl) rfl rfl qA ?_; (with_reducible refine (spec_l5Right.calls k4 ((rd_T57 (rd_L10 l0_2 x58_3) x71_4).f0) ((rd_T57 (rd_L10 l0_2 x58_3) x71_4).f1) ((rd_T57 (rd_L10 l0_2 x58_3) x71_4).f2) ((rd_T52 l0_1 x71_4).f1) true _ A67.out).mono ?_); rintro e w74 ⟨rfl, hb⟩; refine ⟨_, rfl, ?_⟩; replace BK135 := qbb BK135 hb; replace BK149 := qbb BK149 hb; replace HB := qHB HB hb; (try clear hb); (try clear hb2); (try clear hk); (try clear hi); refine hK.out _ _ ⟨(bce BK149.out 0).trans rfl, (bce BK149.out 1).trans rfl, (bce BK149.out 2).trans rfl, (bce BK135.out 0).trans rfl, (bce BK135.out 1).trans rfl, (bce BK135.out 2).trans rfl, ((HB.out.cell (World.block_lt_of_cell? w _ hw150_0)).trans hw150_0), ((HB.out.cell (World.block_lt_of_cell? w _ hw150_1)).trans hw150_1)⟩ (fun hHeld => ?_); clear hK K; refine norm_ (a' := ?_) ?_ ?_; rotate_left
                                        · show Act.put _ (some 83) _ = _; simp only [Act.put, List.setIfInBounds_toArray, List.set_cons_zero, List.set_cons_succ, i64_w, i32_w]; rfl
                                        refine pure_ (i := 8) (N := some 84) (v := ?_) (a' := ?_) #[true, true, true, true, true, true, true, true, true] rfl rfl (any_of HT_.out (by kernel_rfl)) (fun _ _ _ h => h) (Or.inl ⟨by rfl, ?_⟩) ?_ ?_; rotate_left
                                        · intro w'; go_simp; (with_reducible rfl)
                                        rotate_left
                                        · simp only [Act.put, List.setIfInBounds_toArray, List.set_cons_zero, List.set_cons_succ, i64_w, i32_w]; rfl
                                        refine done_ (done_of HT_.out (by kernel_rfl)) ?_; (try go_wp2); go_roundg k4
                                        case measure => have := HJ1.out; have := HK2.out; have := HK3.out; have := HK4.out; omega
                                        case rel => exact ⟨(wrap64 (x71_4 + 1)), qS, H', ⟨by have := HJ1.out; have := HK2.out; have := HK3.out; have := HK4.out; omega⟩, ⟨by (with_reducible repeat (first | refine bdN ?_ _ | refine bkD ?_ | refine bkA ?_ _)); exact BK135.out⟩, ⟨qB⟩⟩
                                      · replace c68 := Bool.eq_false_iff.mpr c68; subst c68; rw [if_neg qff] at H; obtain rfl := Option.some.inj H; have p148 : 0 ≤ (x71_4 : Int) := of_decide_eq_true qa; have q148 : x71_4 < ((rd_L10 l0_2 x58_3).length : Int) := of_decide_eq_true qa; obtain ⟨ad148, e148, hx148_0, hx148_1, hx148_2⟩ := at_T57 HR147_0.out x71_4 p148 q148; cases e148; replace hx148_0 := (HB.out.cell (World.block_lt_of_cell? w _ hx148_0)).trans hx148_0; replace hx148_1 := (HB.out.cell (World.block_lt_of_cell? w _ hx148_1)).trans hx148_1; replace hx148_2 := (HB.out.cell (World.block_lt_of_cell? w _ hx148_2)).trans hx148_2; replace p148 := eq_true p148; replace q148 := eq_true q148; (try go_wp2_with (first | ((with_reducible refine gds (N := 8) rfl ?_); (try (refine gate_guard (by rfl) ?_; dsimp only)); refine qbx 8 #[.int .i64 0, .int .i64 0, .string (⟨#[]⟩ : ByteArray)] 57 ?_; intro gb149 hg w75 hbox hb; have BK149 := qK (hbox); have GW149 := qK ((qW : w.heap.size ≤ gb149)); have GE149 := GW149; replace HB := qHB HB hb; have NB135_149 := qK (qlt BK135 hg); have NB149_135 := qK (qgt BK135 hg); replace BK135 := qbb BK135 hb; clear hb hbox hg; have hnb76 := NB149_135.out; have hnc76 := NB135_149.out; have hz77 := qz3 BK149.out))); have n0_ : Aside0 ((((w75.setCell ⟨gb149, 0, none⟩ (.int .i64 ((rd_T57 (rd_L10 l0_2 x58_3) x71_4).f0))).setCell ⟨gb149, 1, none⟩ (.int .i64 ((rd_T57 (rd_L10 l0_2 x58_3) x71_4).f1))).setCell ⟨gb149, 2, none⟩ (.string ((rd_T57 (rd_L10 l0_2 x58_3) x71_4).f2))).heap[gb135]? = some (.cells #[.string a0_0, .slice A0_1 l0_1.length c0_1, .slice (some ad147) l0_2.length c0_2] 37 (0, 0))) := ⟨by (with_reducible repeat (first | refine bdN ?_ _ | refine bkD ?_ | refine bkA ?_ _)); refine bfa ?_ NB135_149.out _; (with_reducible repeat (first | refine bdN ?_ _ | refine bkD ?_ | refine bkA ?_ _)); refine bfa ?_ NB135_149.out _; (with_reducible repeat (first | refine bdN ?_ _ | refine bkD ?_ | refine bkA ?_ _)); refine bfa ?_ NB135_149.out _; (with_reducible repeat (first | refine bdN ?_ _ | refine bkD ?_ | refine bkA ?_ _)); exact BK135.out⟩; have n1_ : Aside0 ((((w75.setCell ⟨gb149, 0, none⟩ (.int .i64 ((rd_T57 (rd_L10 l0_2 x58_3) x71_4).f0))).setCell ⟨gb149, 1, none⟩ (.int .i64 ((rd_T57 (rd_L10 l0_2 x58_3) x71_4).f1))).setCell ⟨gb149, 2, none⟩ (.string ((rd_T57 (rd_L10 l0_2 x58_3) x71_4).f2))).heap[gb149]? = some (.cells #[.int .i64 ((rd_T57 (rd_L10 l0_2 x58_3) x71_4).f0), .int .i64 ((rd_T57 (rd_L10 l0_2 x58_3) x71_4).f1), .string ((rd_T57 (rd_L10 l0_2 x58_3) x71_4).f2)] 57 (0, 0))) := ⟨by (with_reducible repeat (first | refine bdN ?_ _ | refine bkD ?_ | refine bkA ?_ _)); refine bpu (cs := #[.int .i64 ((rd_T57 (rd_L10 l0_2 x58_3) x71_4).f0), .int .i64 ((rd_T57 (rd_L10 l0_2 x58_3) x71_4).f1), .string (⟨#[]⟩ : ByteArray)]) ?_ 2 _ rfl; (with_reducible repeat (first | refine bdN ?_ _ | refine bkD ?_ | refine bkA ?_ _)); refine bpu (cs := #[.int .i64 ((rd_T57 (rd_L10 l0_2 x58_3) x71_4).f0), .int .i64 0, .string (⟨#[]⟩ : ByteArray)]) ?_ 1 _ rfl; (with_reducible repeat (first | refine bdN ?_ _ | refine bkD ?_ | refine bkA ?_ _)); refine bpu (cs := #[.int .i64 0, .int .i64 0, .string (⟨#[]⟩ : ByteArray)]) ?_ 0 _ rfl; (with_reducible repeat (first | refine bdN ?_ _ | refine bkD ?_ | refine bkA ?_ _)); exact BK149.out⟩; have n2_ : Aside0 (Below w.heap.size w (((w75.setCell ⟨gb149, 0, none⟩ (.int .i64 ((rd_T57 (rd_L10 l0_2 x58_3) x71_4).f0))).setCell ⟨gb149, 1, none⟩ (.int .i64 ((rd_T57 (rd_L10 l0_2 x58_3) x71_4).f1))).setCell ⟨gb149, 2, none⟩ (.string ((rd_T57 (rd_L10 l0_2 x58_3) x71_4).f2)))) := ⟨qB⟩; (try clear BK135); (try clear BK149); (try clear HB); generalize (((w75.setCell ⟨gb149, 0, none⟩ (.int .i64 ((rd_T57 (rd_L10 l0_2 x58_3) x71_4).f0))).setCell ⟨gb149, 1, none⟩ (.int .i64 ((rd_T57 (rd_L10 l0_2 x58_3) x71_4).f1))).setCell ⟨gb149, 2, none⟩ (.string ((rd_T57 (rd_L10 l0_2 x58_3) x71_4).f2))) = w78 at n0_ n1_ n2_ ⊢; have BK135 := n0_; have BK149 := n1_; have HB := n2_; clear n0_ n1_ n2_; replace BK135 := qK (bkD BK135.out); replace BK149 := qK (bkD BK149.out); replace HB := qK (bd1 HB.out); have p150 : 0 ≤ (x71_4 : Int) := of_decide_eq_true qa; have q150 : x71_4 < (l0_1.length : Int) := of_decide_eq_true qa; obtain ⟨ad150, e150, hx150_0, hx150_1⟩ := at_T52 HR0_1.out x71_4 p150 q150; have hw150_1 := hx150_1; have hw150_0 := hx150_0; cases e150; replace hx150_0 := (HB.out.cell (World.block_lt_of_cell? w _ hx150_0)).trans hx150_0; replace hx150_1 := (HB.out.cell (World.block_lt_of_cell? w _ hx150_1)).trans hx150_1; replace p150 := eq_true p150; replace q150 := eq_true q150; refine start_ (n := 9) (S := fun w' => w'.cell? ⟨gb149, 0, none⟩ = some (.int .i64 ((rd_T57 (rd_L10 l0_2 x58_3) x71_4).f0)) ∧ w'.cell? ⟨gb149, 1, none⟩ = some (.int .i64 ((rd_T57 (rd_L10 l0_2 x58_3) x71_4).f1)) ∧ w'.cell? ⟨gb149, 2, none⟩ = some (.string ((rd_T57 (rd_L10 l0_2 x58_3) x71_4).f2)) ∧ w'.cell? ⟨gb135, 0, none⟩ = some (.string a0_0) ∧ w'.cell? ⟨gb135, 1, none⟩ = some (.slice (some ad150) l0_1.length c0_1) ∧ w'.cell? ⟨gb135, 2, none⟩ = some (.slice (some ad147) l0_2.length c0_2) ∧ w'.cell? (ad150.add ((x71_4).toNat * 2)) = some (.string ((rd_T52 l0_1 x71_4).f0)) ∧ w'.cell? ⟨(ad150.add ((x71_4).toNat * 2)).block, (ad150.add ((x71_4).toNat * 2)).off + 1, none⟩ = some (.int .i64 ((rd_T52 l0_1 x71_4).f1))) (ds := []) #[false, false, false, false, false, false, false, false, false] (by kernel_rfl) rfl rfl ⟨(bce BK149.out 0).trans rfl, (bce BK149.out 1).trans rfl, (bce BK149.out 2).trans rfl, (bce BK135.out 0).trans rfl, (bce BK135.out 1).trans rfl, (bce BK135.out 2).trans rfl, ((HB.out.cell (World.block_lt_of_cell? w _ hw150_0)).trans hw150_0), ((HB.out.cell (World.block_lt_of_cell? w _ hw150_1)).trans hw150_1)⟩ (fun hHeld => ?_); refine with_tabW spec_l5TableOK.tab17 spec_l5TableOK.bits17 (fun HT_ HW_ => ?_); generalize w78.drew = w79 at BK135 BK149 HB hx150_0 hx150_1 hHeld ⊢; refine pure_ (i := 1) (N := some 77) (v := ?_) (a' := ?_) #[false, true, false, false, false, false, false, false, false] rfl rfl (any_of HT_.out (by kernel_rfl)) (fun _ _ _ h => h) (Or.inl ⟨by rfl, ?_⟩) ?_ ?_; rotate_left
                                        · intro w'; go_simp; (with_reducible rfl)
                                        rotate_left
                                        · simp only [Act.put, List.setIfInBounds_toArray, List.set_cons_zero, List.set_cons_succ, i64_w, i32_w]; rfl
                                        refine pure_ (i := 3) (N := some 79) (v := ?_) (a' := ?_) #[false, true, false, true, false, false, false, false, false] rfl rfl (any_of HT_.out (by kernel_rfl)) (fun _ _ _ h => h) (Or.inl ⟨by rfl, ?_⟩) ?_ ?_; rotate_left
                                        · intro w'; go_simp; (with_reducible rfl)
                                        rotate_left
                                        · simp only [Act.put, List.setIfInBounds_toArray, List.set_cons_zero, List.set_cons_succ, i64_w, i32_w]; rfl
                                        refine take_ (i := 0) (N := some 76) (v := ?_) (a' := ?_) #[true, true, false, true, false, false, false, false, false] rfl rfl (take_ofW HT_.out HW_.out (by kernel_rfl)) (fun _ _ _ h => h) (Or.inl ⟨by rfl, ?_⟩) hHeld ?_ ?_; rotate_left
                                        · rintro w' ⟨s0, s1, s2, s3, s4, s5, s6, s7⟩; go_simp; (with_reducible rfl)
                                        rotate_left
                                        · simp only [Act.put, List.setIfInBounds_toArray, List.set_cons_zero, List.set_cons_succ, i64_w, i32_w]; rfl
                                        refine take_ (i := 2) (N := some 78) (v := ?_) (a' := ?_) #[true, true, true, true, false, false, false, false, false] rfl rfl (take_ofW HT_.out HW_.out (by kernel_rfl)) (fun _ _ _ h => h) (Or.inl ⟨by rfl, ?_⟩) hHeld ?_ ?_; rotate_left
                                        · rintro w' ⟨s0, s1, s2, s3, s4, s5, s6, s7⟩; go_simp; (with_reducible rfl)
                                        rotate_left
                                        · simp only [Act.put, List.setIfInBounds_toArray, List.set_cons_zero, List.set_cons_succ, i64_w, i32_w]; rfl
                                        refine pure_ (i := 4) (N := some 80) (v := ?_) (a' := ?_) #[true, true, true, true, true, false, false, false, false] rfl rfl (any_of HT_.out (by kernel_rfl)) (fun _ _ _ h => h) (Or.inl ⟨by rfl, ?_⟩) ?_ ?_; rotate_left
                                        · intro w'; go_simp; (with_reducible rfl)
                                        rotate_left
                                        · simp only [Act.put, List.setIfInBounds_toArray, List.set_cons_zero, List.set_cons_succ, i64_w, i32_w]; rfl
                                        refine pure_ (i := 5) (N := some 81) (v := ?_) (a' := ?_) #[true, true, true, true, true, true, false, false, false] rfl rfl (any_of HT_.out (by kernel_rfl)) (fun _ _ _ h => h) (Or.inl ⟨by rfl, ?_⟩) ?_ ?_; rotate_left
                                        · intro w'; go_simp; (with_reducible rfl)
                                        rotate_left
                                        · simp only [Act.put, List.setIfInBounds_toArray, List.set_cons_zero, List.set_cons_succ, i64_w, i32_w]; rfl
                                        refine take_ (i := 6) (N := some 82) (v := ?_) (a' := ?_) #[true, true, true, true, true, true, true, false, false] rfl rfl (take_ofW HT_.out HW_.out (by kernel_rfl)) (fun _ _ _ h => h) (Or.inl ⟨by rfl, ?_⟩) hHeld ?_ ?_; rotate_left
                                        · rintro w' ⟨s0, s1, s2, s3, s4, s5, s6, s7⟩; go_simp; (with_reducible rfl)
                                        rotate_left
                                        · simp only [Act.put, List.setIfInBounds_toArray, List.set_cons_zero, List.set_cons_succ, i64_w, i32_w]; rfl
                                        refine one_ (i := 7) (N := some 83) #[true, true, true, true, true, true, true, true, false] rfl rfl (one_of HT_.out (by kernel_rfl)) (by decide) (fun K hK => ?_); refine goes_ Tryd.func20 (by kernel_rfl) rfl #[.agg #[.int .i64 ((rd_T57 (rd_L10 l0_2 x58_3) x71_4).f0), .int .i64 ((rd_T57 (rd_L10 l0_2 x58_3) x71_4).f1), .string ((rd_T57 (rd_L10 l0_2 x58_3) x71_4).f2)], .int .i64 ((rd_T52 l0_1 x71_4).f1)] (by rfl) rfl rfl qA ?_; (with_reducible refine (spec_l5Right.calls k4 ((rd_T57 (rd_L10 l0_2 x58_3) x71_4).f0) ((rd_T57 (rd_L10 l0_2 x58_3) x71_4).f1) ((rd_T57 (rd_L10 l0_2 x58_3) x71_4).f2) ((rd_T52 l0_1 x71_4).f1) false _ A67.out).mono ?_); rintro e w80 ⟨rfl, hb⟩; refine ⟨_, rfl, ?_⟩; replace BK135 := qbb BK135 hb; replace BK149 := qbb BK149 hb; replace HB := qHB HB hb; (try clear hb); (try clear hb2); (try clear hk); (try clear hi); refine hK.out _ _ ⟨(bce BK149.out 0).trans rfl, (bce BK149.out 1).trans rfl, (bce BK149.out 2).trans rfl, (bce BK135.out 0).trans rfl, (bce BK135.out 1).trans rfl, (bce BK135.out 2).trans rfl, ((HB.out.cell (World.block_lt_of_cell? w _ hw150_0)).trans hw150_0), ((HB.out.cell (World.block_lt_of_cell? w _ hw150_1)).trans hw150_1)⟩ (fun hHeld => ?_); clear hK K; refine norm_ (a' := ?_) ?_ ?_; rotate_left
                                        · show Act.put _ (some 83) _ = _; simp only [Act.put, List.setIfInBounds_toArray, List.set_cons_zero, List.set_cons_succ, i64_w, i32_w]; rfl
                                        refine pure_ (i := 8) (N := some 84) (v := ?_) (a' := ?_) #[true, true, true, true, true, true, true, true, true] rfl rfl (any_of HT_.out (by kernel_rfl)) (fun _ _ _ h => h) (Or.inl ⟨by rfl, ?_⟩) ?_ ?_; rotate_left
                                        · intro w'; go_simp; (with_reducible rfl)
                                        rotate_left
                                        · simp only [Act.put, List.setIfInBounds_toArray, List.set_cons_zero, List.set_cons_succ, i64_w, i32_w]; rfl
                                        refine done_ (done_of HT_.out (by kernel_rfl)) ?_; (try go_wp2); go_ret; exact ⟨qR, qB⟩
                                    · rw [if_neg c66] at H; exact absurd H (by simp)
                                  · rw [if_neg c65] at H; exact absurd H (by simp)
                                · rw [if_neg c64] at H; exact absurd H (by simp)
                              · rw [if_neg c63] at H; have c63b0 : decide (x71_4 < ((rd_L10 l0_2 x58_3).length : Int)) = false := decide_eq_false c63; clear c63; by_cases c81 : x58_3 > 0
                                · rw [if_pos c81] at H; have c81b0 : decide (0 < x58_3) = true := decide_eq_true c81; clear c81; obtain ⟨ji82, hji82⟩ : ∃ j_ : Int, (wrap64 (x58_3 - 1)) = j_ := ⟨_, rfl⟩; (replace H : (if 0 ≤ (ji82) then (if (ji82) < (l0_2.length : Int) then (if 0 < ((rd_L10 l0_2 (ji82)).length : Int) then (if 0 < ((rd_L10 l0_2 x58_3).length : Int) then ((spec_l5Compare.f k4 ((rd_T57 (rd_L10 l0_2 (ji82)) 0).f0) ((rd_T57 (rd_L10 l0_2 (ji82)) 0).f1) ((rd_T57 (rd_L10 l0_2 (ji82)) 0).f2) ((rd_T57 (rd_L10 l0_2 x58_3) 0).f0) ((rd_T57 (rd_L10 l0_2 x58_3) 0).f1) ((rd_T57 (rd_L10 l0_2 x58_3) 0).f2)).bind fun t155 => (if t155 ≥ 0 then (some false) else (spec_l5TableOK.l1 k4 l0_2 (l0_2.length : Int) (wrap64 (x58_3 + 1)) a0_0 l0_1 l0_2))) else (none)) else (none)) else (none)) else (none)) = some r := by first | (rw [hji82] at H; exact H) | (simp only [hji82] at H ⊢; exact H)); have hji82w : (IntKind.i64.wrap (x58_3 - 1)) = ji82 := (i64_w _).trans hji82; by_cases c83 : 0 ≤ (ji82)
                                  · rw [if_pos c83] at H; have c83b0 : decide (0 ≤ (ji82)) = true := decide_eq_true c83; clear c83; by_cases c84 : (ji82) < (l0_2.length : Int)
                                    · rw [if_pos c84] at H; have c84b0 : decide ((ji82) < (l0_2.length : Int)) = true := decide_eq_true c84; clear c84; by_cases c85 : 0 < ((rd_L10 l0_2 (ji82)).length : Int)
                                      · rw [if_pos c85] at H; have c85b0 : decide (0 < ((rd_L10 l0_2 (ji82)).length : Int)) = true := decide_eq_true c85; have c85b1 : decide (0 < (rd_L10 l0_2 (ji82)).length) = true := decide_eq_true (by omega); clear c85; by_cases c86 : 0 < ((rd_L10 l0_2 x58_3).length : Int)
                                        · rw [if_pos c86] at H; have c86b0 : decide (0 < ((rd_L10 l0_2 x58_3).length : Int)) = true := decide_eq_true c86; have c86b1 : decide (0 < (rd_L10 l0_2 x58_3).length) = true := decide_eq_true (by omega); clear c86; replace H := Option.bind_eq_some_iff.mp H; obtain ⟨t155, A870, H⟩ := H; have A87 := qK A870; clear A870; by_cases c88 : t155 ≥ 0
                                          · rw [if_pos c88] at H; have c88b0 : decide (0 ≤ t155) = true := decide_eq_true c88; clear c88; obtain rfl := Option.some.inj H; (try go_wp2); replace BK135 := qK (bkD BK135.out); replace HB := qK (bd1 HB.out); have p152 : 0 ≤ ((ji82) : Int) := of_decide_eq_true qa; have q152 : (ji82) < (l0_2.length : Int) := of_decide_eq_true qa; obtain ⟨ad152, A152_0, c152_0, e152, hx152_0, hl152_0, hi152_0⟩ := at_L10 HR0_2.out (ji82) p152 q152; have hw152_0 := hx152_0; obtain rfl : ad147 = ad152 := (by injection e152); replace hx152_0 := (HB.out.cell (World.block_lt_of_cell? w _ hx152_0)).trans hx152_0; have HR152_0 := qK hi152_0; have HC152_0 := qK hl152_0; clear hi152_0 hl152_0; replace p152 := eq_true p152; replace q152 := eq_true q152; have p153 : 0 ≤ (0 : Int) := (by omega); have q153 : 0 < ((rd_L10 l0_2 (ji82)).length : Int) := of_decide_eq_true qa; obtain ⟨ad153, e153, hx153_0, hx153_1, hx153_2⟩ := at_T57 HR152_0.out 0 p153 q153; have hw153_2 := hx153_2; (try rw [show ((0 : Int)).toNat = 0 from rfl] at hw153_2); (try rw [show 0 * 3 = 0 from rfl] at hw153_2); (try rw [Addr.add_zero'] at hw153_2); have hw153_1 := hx153_1; (try rw [show ((0 : Int)).toNat = 0 from rfl] at hw153_1); (try rw [show 0 * 3 = 0 from rfl] at hw153_1); (try rw [Addr.add_zero'] at hw153_1); have hw153_0 := hx153_0; (try rw [show ((0 : Int)).toNat = 0 from rfl] at hw153_0); (try rw [show 0 * 3 = 0 from rfl] at hw153_0); (try rw [Addr.add_zero'] at hw153_0); cases e153; have qi153 : (0 < (rd_L10 l0_2 (ji82)).length) = True := eq_true (by omega); (try rw [show ((0 : Int)).toNat = 0 from rfl] at hx153_0); (try rw [show 0 * 3 = 0 from rfl] at hx153_0); (try rw [Addr.add_zero'] at hx153_0); (try rw [show ((0 : Int)).toNat = 0 from rfl] at hx153_1); (try rw [show 0 * 3 = 0 from rfl] at hx153_1); (try rw [Addr.add_zero'] at hx153_1); (try rw [show ((0 : Int)).toNat = 0 from rfl] at hx153_2); (try rw [show 0 * 3 = 0 from rfl] at hx153_2); (try rw [Addr.add_zero'] at hx153_2); replace hx153_0 := (HB.out.cell (World.block_lt_of_cell? w _ hx153_0)).trans hx153_0; replace hx153_1 := (HB.out.cell (World.block_lt_of_cell? w _ hx153_1)).trans hx153_1; replace hx153_2 := (HB.out.cell (World.block_lt_of_cell? w _ hx153_2)).trans hx153_2; replace p153 := eq_true p153; replace q153 := eq_true q153; have p154 : 0 ≤ (0 : Int) := (by omega); have q154 : 0 < ((rd_L10 l0_2 x58_3).length : Int) := of_decide_eq_true qa; obtain ⟨ad154, e154, hx154_0, hx154_1, hx154_2⟩ := at_T57 HR147_0.out 0 p154 q154; have hw154_2 := hx154_2; (try rw [show ((0 : Int)).toNat = 0 from rfl] at hw154_2); (try rw [show 0 * 3 = 0 from rfl] at hw154_2); (try rw [Addr.add_zero'] at hw154_2); have hw154_1 := hx154_1; (try rw [show ((0 : Int)).toNat = 0 from rfl] at hw154_1); (try rw [show 0 * 3 = 0 from rfl] at hw154_1); (try rw [Addr.add_zero'] at hw154_1); have hw154_0 := hx154_0; (try rw [show ((0 : Int)).toNat = 0 from rfl] at hw154_0); (try rw [show 0 * 3 = 0 from rfl] at hw154_0); (try rw [Addr.add_zero'] at hw154_0); cases e154; have qi154 : (0 < (rd_L10 l0_2 x58_3).length) = True := eq_true (by omega); (try rw [show ((0 : Int)).toNat = 0 from rfl] at hx154_0); (try rw [show 0 * 3 = 0 from rfl] at hx154_0); (try rw [Addr.add_zero'] at hx154_0); (try rw [show ((0 : Int)).toNat = 0 from rfl] at hx154_1); (try rw [show 0 * 3 = 0 from rfl] at hx154_1); (try rw [Addr.add_zero'] at hx154_1); (try rw [show ((0 : Int)).toNat = 0 from rfl] at hx154_2); (try rw [show 0 * 3 = 0 from rfl] at hx154_2); (try rw [Addr.add_zero'] at hx154_2); replace hx154_0 := (HB.out.cell (World.block_lt_of_cell? w _ hx154_0)).trans hx154_0; replace hx154_1 := (HB.out.cell (World.block_lt_of_cell? w _ hx154_1)).trans hx154_1; replace hx154_2 := (HB.out.cell (World.block_lt_of_cell? w _ hx154_2)).trans hx154_2; replace p154 := eq_true p154; replace q154 := eq_true q154; refine start_ (n := 17) (S := fun w' => w'.cell? ⟨gb135, 0, none⟩ = some (.string a0_0) ∧ w'.cell? ⟨gb135, 1, none⟩ = some (.slice A0_1 l0_1.length c0_1) ∧ w'.cell? ⟨gb135, 2, none⟩ = some (.slice (some ad147) l0_2.length c0_2) ∧ w'.cell? (ad147.add ((ji82)).toNat) = some (.slice (some ad153) (rd_L10 l0_2 (ji82)).length c152_0) ∧ w'.cell? ad153 = some (.int .i64 ((rd_T57 (rd_L10 l0_2 (ji82)) 0).f0)) ∧ w'.cell? ⟨ad153.block, ad153.off + 1, none⟩ = some (.int .i64 ((rd_T57 (rd_L10 l0_2 (ji82)) 0).f1)) ∧ w'.cell? ⟨ad153.block, ad153.off + 2, none⟩ = some (.string ((rd_T57 (rd_L10 l0_2 (ji82)) 0).f2)) ∧ w'.cell? ad154 = some (.int .i64 ((rd_T57 (rd_L10 l0_2 x58_3) 0).f0)) ∧ w'.cell? ⟨ad154.block, ad154.off + 1, none⟩ = some (.int .i64 ((rd_T57 (rd_L10 l0_2 x58_3) 0).f1)) ∧ w'.cell? ⟨ad154.block, ad154.off + 2, none⟩ = some (.string ((rd_T57 (rd_L10 l0_2 x58_3) 0).f2))) (ds := []) #[false, false, false, false, false, false, false, false, false, false, false, false, false, false, false, false, false] (by kernel_rfl) rfl rfl ⟨(bce BK135.out 0).trans rfl, (bce BK135.out 1).trans rfl, (bce BK135.out 2).trans rfl, ((HB.out.cell (World.block_lt_of_cell? w _ hw152_0)).trans hw152_0), ((HB.out.cell (World.block_lt_of_cell? w _ hw153_0)).trans hw153_0), ((HB.out.cell (World.block_lt_of_cell? w _ hw153_1)).trans hw153_1), ((HB.out.cell (World.block_lt_of_cell? w _ hw153_2)).trans hw153_2), ((HB.out.cell (World.block_lt_of_cell? w _ hw154_0)).trans hw154_0), ((HB.out.cell (World.block_lt_of_cell? w _ hw154_1)).trans hw154_1), ((HB.out.cell (World.block_lt_of_cell? w _ hw154_2)).trans hw154_2)⟩ (fun hHeld => ?_); refine with_tabW spec_l5TableOK.tab20 spec_l5TableOK.bits20 (fun HT_ HW_ => ?_); generalize wr.drew = w89 at BK135 HB HR152_0 hx152_0 hx153_0 hx153_1 hx153_2 hx154_0 hx154_1 hx154_2 hHeld ⊢; refine pure_ (i := 0) (N := some 86) (v := ?_) (a' := ?_) #[true, false, false, false, false, false, false, false, false, false, false, false, false, false, false, false, false] rfl rfl (any_of HT_.out (by kernel_rfl)) (fun _ _ _ h => h) (Or.inl ⟨by rfl, ?_⟩) ?_ ?_; rotate_left
                                            · intro w'; go_simp; (with_reducible rfl)
                                            rotate_left
                                            · simp only [Act.put, List.setIfInBounds_toArray, List.set_cons_zero, List.set_cons_succ, i64_w, i32_w]; rfl
                                            refine pure_ (i := 1) (N := some 87) (v := ?_) (a' := ?_) #[true, true, false, false, false, false, false, false, false, false, false, false, false, false, false, false, false] rfl rfl (any_of HT_.out (by kernel_rfl)) (fun _ _ _ h => h) (Or.inl ⟨by rfl, ?_⟩) ?_ ?_; rotate_left
                                            · intro w'; go_simp; (with_reducible rfl)
                                            rotate_left
                                            · simp only [Act.put, List.setIfInBounds_toArray, List.set_cons_zero, List.set_cons_succ, i64_w, i32_w]; rfl
                                            refine pure_ (i := 2) (N := some 88) (v := ?_) (a' := ?_) #[true, true, true, false, false, false, false, false, false, false, false, false, false, false, false, false, false] rfl rfl (any_of HT_.out (by kernel_rfl)) (fun _ _ _ h => h) (Or.inl ⟨by rfl, ?_⟩) ?_ ?_; rotate_left
                                            · intro w'; go_simp; (with_reducible rfl)
                                            rotate_left
                                            · simp only [Act.put, List.setIfInBounds_toArray, List.set_cons_zero, List.set_cons_succ, i64_w, i32_w]; rfl
                                            refine pure_ (i := 3) (N := some 89) (v := ?_) (a' := ?_) #[true, true, true, true, false, false, false, false, false, false, false, false, false, false, false, false, false] rfl rfl (any_of HT_.out (by kernel_rfl)) (fun _ _ _ h => h) (Or.inl ⟨by rfl, ?_⟩) ?_ ?_; rotate_left
                                            · intro w'; go_simp; (with_reducible rfl)
                                            rotate_left
                                            · simp only [Act.put, List.setIfInBounds_toArray, List.set_cons_zero, List.set_cons_succ, i64_w, i32_w]; rfl
                                            refine pure_ (i := 5) (N := some 91) (v := ?_) (a' := ?_) #[true, true, true, true, false, true, false, false, false, false, false, false, false, false, false, false, false] rfl rfl (any_of HT_.out (by kernel_rfl)) (fun _ _ _ h => h) (Or.inl ⟨by rfl, ?_⟩) ?_ ?_; rotate_left
                                            · intro w'; go_simp; (with_reducible rfl)
                                            rotate_left
                                            · simp only [Act.put, List.setIfInBounds_toArray, List.set_cons_zero, List.set_cons_succ, i64_w, i32_w]; rfl
                                            refine pure_ (i := 6) (N := some 92) (v := ?_) (a' := ?_) #[true, true, true, true, false, true, true, false, false, false, false, false, false, false, false, false, false] rfl rfl (any_of HT_.out (by kernel_rfl)) (fun _ _ _ h => h) (Or.inl ⟨by rfl, ?_⟩) ?_ ?_; rotate_left
                                            · intro w'; go_simp; (with_reducible rfl)
                                            rotate_left
                                            · simp only [Act.put, List.setIfInBounds_toArray, List.set_cons_zero, List.set_cons_succ, i64_w, i32_w]; rfl
                                            refine pure_ (i := 11) (N := some 97) (v := ?_) (a' := ?_) #[true, true, true, true, false, true, true, false, false, false, false, true, false, false, false, false, false] rfl rfl (any_of HT_.out (by kernel_rfl)) (fun _ _ _ h => h) (Or.inl ⟨by rfl, ?_⟩) ?_ ?_; rotate_left
                                            · intro w'; go_simp; (with_reducible rfl)
                                            rotate_left
                                            · simp only [Act.put, List.setIfInBounds_toArray, List.set_cons_zero, List.set_cons_succ, i64_w, i32_w]; rfl
                                            refine pure_ (i := 12) (N := some 98) (v := ?_) (a' := ?_) #[true, true, true, true, false, true, true, false, false, false, false, true, true, false, false, false, false] rfl rfl (any_of HT_.out (by kernel_rfl)) (fun _ _ _ h => h) (Or.inl ⟨by rfl, ?_⟩) ?_ ?_; rotate_left
                                            · intro w'; go_simp; (with_reducible rfl)
                                            rotate_left
                                            · simp only [Act.put, List.setIfInBounds_toArray, List.set_cons_zero, List.set_cons_succ, i64_w, i32_w]; rfl
                                            refine take_ (i := 4) (N := some 90) (v := ?_) (a' := ?_) #[true, true, true, true, true, true, true, false, false, false, false, true, true, false, false, false, false] rfl rfl (take_ofW HT_.out HW_.out (by kernel_rfl)) (fun _ _ _ h => h) (Or.inl ⟨by rfl, ?_⟩) hHeld ?_ ?_; rotate_left
                                            · rintro w' ⟨s0, s1, s2, s3, s4, s5, s6, s7, s8, s9⟩; go_simp; (with_reducible rfl)
                                            rotate_left
                                            · simp only [Act.put, List.setIfInBounds_toArray, List.set_cons_zero, List.set_cons_succ, i64_w, i32_w]; rfl
                                            refine pure_ (i := 7) (N := some 93) (v := ?_) (a' := ?_) #[true, true, true, true, true, true, true, true, false, false, false, true, true, false, false, false, false] rfl rfl (any_of HT_.out (by kernel_rfl)) (fun _ _ _ h => h) (Or.inl ⟨by rfl, ?_⟩) ?_ ?_; rotate_left
                                            · intro w'; go_simp; (with_reducible rfl)
                                            rotate_left
                                            · simp only [Act.put, List.setIfInBounds_toArray, List.set_cons_zero, List.set_cons_succ, i64_w, i32_w]; rfl
                                            refine take_ (i := 8) (N := some 94) (v := ?_) (a' := ?_) #[true, true, true, true, true, true, true, true, true, false, false, true, true, false, false, false, false] rfl rfl (take_ofW HT_.out HW_.out (by kernel_rfl)) (fun _ _ _ h => h) (Or.inl ⟨by rfl, ?_⟩) hHeld ?_ ?_; rotate_left
                                            · rintro w' ⟨s0, s1, s2, s3, s4, s5, s6, s7, s8, s9⟩; go_simp; (with_reducible rfl)
                                            rotate_left
                                            · simp only [Act.put, List.setIfInBounds_toArray, List.set_cons_zero, List.set_cons_succ, i64_w, i32_w]; rfl
                                            refine pure_ (i := 9) (N := some 95) (v := ?_) (a' := ?_) #[true, true, true, true, true, true, true, true, true, true, false, true, true, false, false, false, false] rfl rfl (any_of HT_.out (by kernel_rfl)) (fun _ _ _ h => h) (Or.inl ⟨by rfl, ?_⟩) ?_ ?_; rotate_left
                                            · intro w'; go_simp; (with_reducible rfl)
                                            rotate_left
                                            · simp only [Act.put, List.setIfInBounds_toArray, List.set_cons_zero, List.set_cons_succ, i64_w, i32_w]; rfl
                                            refine take_ (i := 10) (N := some 96) (v := ?_) (a' := ?_) #[true, true, true, true, true, true, true, true, true, true, true, true, true, false, false, false, false] rfl rfl (take_ofW HT_.out HW_.out (by kernel_rfl)) (fun _ _ _ h => h) (Or.inl ⟨by rfl, ?_⟩) hHeld ?_ ?_; rotate_left
                                            · rintro w' ⟨s0, s1, s2, s3, s4, s5, s6, s7, s8, s9⟩; go_simp; (with_reducible rfl)
                                            rotate_left
                                            · simp only [Act.put, List.setIfInBounds_toArray, List.set_cons_zero, List.set_cons_succ, i64_w, i32_w]; rfl
                                            refine take_ (i := 13) (N := some 99) (v := ?_) (a' := ?_) #[true, true, true, true, true, true, true, true, true, true, true, true, true, true, false, false, false] rfl rfl (take_ofW HT_.out HW_.out (by kernel_rfl)) (fun _ _ _ h => h) (Or.inl ⟨by rfl, ?_⟩) hHeld ?_ ?_; rotate_left
                                            · rintro w' ⟨s0, s1, s2, s3, s4, s5, s6, s7, s8, s9⟩; go_simp; (with_reducible rfl)
                                            rotate_left
                                            · simp only [Act.put, List.setIfInBounds_toArray, List.set_cons_zero, List.set_cons_succ, i64_w, i32_w]; rfl
                                            refine one_ (i := 14) (N := some 100) #[true, true, true, true, true, true, true, true, true, true, true, true, true, true, true, false, false] rfl rfl (one_of HT_.out (by kernel_rfl)) (by decide) (fun K hK => ?_); refine goes_ Tryd.func21 (by kernel_rfl) rfl #[.agg #[.int .i64 ((rd_T57 (rd_L10 l0_2 (ji82)) 0).f0), .int .i64 ((rd_T57 (rd_L10 l0_2 (ji82)) 0).f1), .string ((rd_T57 (rd_L10 l0_2 (ji82)) 0).f2)], .agg #[.int .i64 ((rd_T57 (rd_L10 l0_2 x58_3) 0).f0), .int .i64 ((rd_T57 (rd_L10 l0_2 x58_3) 0).f1), .string ((rd_T57 (rd_L10 l0_2 x58_3) 0).f2)]] (by rfl) rfl rfl (by (try simp only [List.map_toArray, List.map_cons, List.map_nil]); first | done | (simp only [hji82]; rfl) | rfl | (simp only [List.length_drop, List.length_take]; rfl)) ?_; (with_reducible refine (spec_l5Compare.calls k4 ((rd_T57 (rd_L10 l0_2 (ji82)) 0).f0) ((rd_T57 (rd_L10 l0_2 (ji82)) 0).f1) ((rd_T57 (rd_L10 l0_2 (ji82)) 0).f2) ((rd_T57 (rd_L10 l0_2 x58_3) 0).f0) ((rd_T57 (rd_L10 l0_2 x58_3) 0).f1) ((rd_T57 (rd_L10 l0_2 x58_3) 0).f2) t155 _ A87.out).mono ?_); rintro e w90 ⟨rfl, hb⟩; refine ⟨_, rfl, ?_⟩; replace BK135 := qbb BK135 hb; replace HB := qHB HB hb; (try clear hb); (try clear hb2); (try clear hk); (try clear hi); refine hK.out _ _ ⟨(bce BK135.out 0).trans rfl, (bce BK135.out 1).trans rfl, (bce BK135.out 2).trans rfl, ((HB.out.cell (World.block_lt_of_cell? w _ hw152_0)).trans hw152_0), ((HB.out.cell (World.block_lt_of_cell? w _ hw153_0)).trans hw153_0), ((HB.out.cell (World.block_lt_of_cell? w _ hw153_1)).trans hw153_1), ((HB.out.cell (World.block_lt_of_cell? w _ hw153_2)).trans hw153_2), ((HB.out.cell (World.block_lt_of_cell? w _ hw154_0)).trans hw154_0), ((HB.out.cell (World.block_lt_of_cell? w _ hw154_1)).trans hw154_1), ((HB.out.cell (World.block_lt_of_cell? w _ hw154_2)).trans hw154_2)⟩ (fun hHeld => ?_); clear hK K; refine norm_ (a' := ?_) ?_ ?_; rotate_left
                                            · show Act.put _ (some 100) _ = _; simp only [Act.put, List.setIfInBounds_toArray, List.set_cons_zero, List.set_cons_succ, i64_w, i32_w]; rfl
                                            refine pure_ (i := 15) (N := some 101) (v := ?_) (a' := ?_) #[true, true, true, true, true, true, true, true, true, true, true, true, true, true, true, true, false] rfl rfl (any_of HT_.out (by kernel_rfl)) (fun _ _ _ h => h) (Or.inl ⟨by rfl, ?_⟩) ?_ ?_; rotate_left
                                            · intro w'; go_simp; (with_reducible rfl)
                                            rotate_left
                                            · simp only [Act.put, List.setIfInBounds_toArray, List.set_cons_zero, List.set_cons_succ, i64_w, i32_w]; rfl
                                            refine pure_ (i := 16) (N := some 102) (v := ?_) (a' := ?_) #[true, true, true, true, true, true, true, true, true, true, true, true, true, true, true, true, true] rfl rfl (any_of HT_.out (by kernel_rfl)) (fun _ _ _ h => h) (Or.inl ⟨by rfl, ?_⟩) ?_ ?_; rotate_left
                                            · intro w'; go_simp; (with_reducible rfl)
                                            rotate_left
                                            · simp only [Act.put, List.setIfInBounds_toArray, List.set_cons_zero, List.set_cons_succ, i64_w, i32_w]; rfl
                                            refine done_ (done_of HT_.out (by kernel_rfl)) ?_; (try go_wp2); go_ret; exact ⟨by first | rfl | (simp [eWn, eWs] <;> rfl) | (simp only [← hji82]; first | rfl | (simp [eWn, eWs] <;> rfl)) | (simp [*, eWn, eWs] <;> rfl), qB⟩
                                          · rw [if_neg c88] at H; have c88b0 : decide (0 ≤ t155) = false := decide_eq_false c88; clear c88; have H' := qK H; clear H; (try go_wp2); replace BK135 := qK (bkD BK135.out); replace HB := qK (bd1 HB.out); have p152 : 0 ≤ ((ji82) : Int) := of_decide_eq_true qa; have q152 : (ji82) < (l0_2.length : Int) := of_decide_eq_true qa; obtain ⟨ad152, A152_0, c152_0, e152, hx152_0, hl152_0, hi152_0⟩ := at_L10 HR0_2.out (ji82) p152 q152; have hw152_0 := hx152_0; obtain rfl : ad147 = ad152 := (by injection e152); replace hx152_0 := (HB.out.cell (World.block_lt_of_cell? w _ hx152_0)).trans hx152_0; have HR152_0 := qK hi152_0; have HC152_0 := qK hl152_0; clear hi152_0 hl152_0; replace p152 := eq_true p152; replace q152 := eq_true q152; have p153 : 0 ≤ (0 : Int) := (by omega); have q153 : 0 < ((rd_L10 l0_2 (ji82)).length : Int) := of_decide_eq_true qa; obtain ⟨ad153, e153, hx153_0, hx153_1, hx153_2⟩ := at_T57 HR152_0.out 0 p153 q153; have hw153_2 := hx153_2; (try rw [show ((0 : Int)).toNat = 0 from rfl] at hw153_2); (try rw [show 0 * 3 = 0 from rfl] at hw153_2); (try rw [Addr.add_zero'] at hw153_2); have hw153_1 := hx153_1; (try rw [show ((0 : Int)).toNat = 0 from rfl] at hw153_1); (try rw [show 0 * 3 = 0 from rfl] at hw153_1); (try rw [Addr.add_zero'] at hw153_1); have hw153_0 := hx153_0; (try rw [show ((0 : Int)).toNat = 0 from rfl] at hw153_0); (try rw [show 0 * 3 = 0 from rfl] at hw153_0); (try rw [Addr.add_zero'] at hw153_0); cases e153; have qi153 : (0 < (rd_L10 l0_2 (ji82)).length) = True := eq_true (by omega); (try rw [show ((0 : Int)).toNat = 0 from rfl] at hx153_0); (try rw [show 0 * 3 = 0 from rfl] at hx153_0); (try rw [Addr.add_zero'] at hx153_0); (try rw [show ((0 : Int)).toNat = 0 from rfl] at hx153_1); (try rw [show 0 * 3 = 0 from rfl] at hx153_1); (try rw [Addr.add_zero'] at hx153_1); (try rw [show ((0 : Int)).toNat = 0 from rfl] at hx153_2); (try rw [show 0 * 3 = 0 from rfl] at hx153_2); (try rw [Addr.add_zero'] at hx153_2); replace hx153_0 := (HB.out.cell (World.block_lt_of_cell? w _ hx153_0)).trans hx153_0; replace hx153_1 := (HB.out.cell (World.block_lt_of_cell? w _ hx153_1)).trans hx153_1; replace hx153_2 := (HB.out.cell (World.block_lt_of_cell? w _ hx153_2)).trans hx153_2; replace p153 := eq_true p153; replace q153 := eq_true q153; have p154 : 0 ≤ (0 : Int) := (by omega); have q154 : 0 < ((rd_L10 l0_2 x58_3).length : Int) := of_decide_eq_true qa; obtain ⟨ad154, e154, hx154_0, hx154_1, hx154_2⟩ := at_T57 HR147_0.out 0 p154 q154; have hw154_2 := hx154_2; (try rw [show ((0 : Int)).toNat = 0 from rfl] at hw154_2); (try rw [show 0 * 3 = 0 from rfl] at hw154_2); (try rw [Addr.add_zero'] at hw154_2); have hw154_1 := hx154_1; (try rw [show ((0 : Int)).toNat = 0 from rfl] at hw154_1); (try rw [show 0 * 3 = 0 from rfl] at hw154_1); (try rw [Addr.add_zero'] at hw154_1); have hw154_0 := hx154_0; (try rw [show ((0 : Int)).toNat = 0 from rfl] at hw154_0); (try rw [show 0 * 3 = 0 from rfl] at hw154_0); (try rw [Addr.add_zero'] at hw154_0); cases e154; have qi154 : (0 < (rd_L10 l0_2 x58_3).length) = True := eq_true (by omega); (try rw [show ((0 : Int)).toNat = 0 from rfl] at hx154_0); (try rw [show 0 * 3 = 0 from rfl] at hx154_0); (try rw [Addr.add_zero'] at hx154_0); (try rw [show ((0 : Int)).toNat = 0 from rfl] at hx154_1); (try rw [show 0 * 3 = 0 from rfl] at hx154_1); (try rw [Addr.add_zero'] at hx154_1); (try rw [show ((0 : Int)).toNat = 0 from rfl] at hx154_2); (try rw [show 0 * 3 = 0 from rfl] at hx154_2); (try rw [Addr.add_zero'] at hx154_2); replace hx154_0 := (HB.out.cell (World.block_lt_of_cell? w _ hx154_0)).trans hx154_0; replace hx154_1 := (HB.out.cell (World.block_lt_of_cell? w _ hx154_1)).trans hx154_1; replace hx154_2 := (HB.out.cell (World.block_lt_of_cell? w _ hx154_2)).trans hx154_2; replace p154 := eq_true p154; replace q154 := eq_true q154; refine start_ (n := 17) (S := fun w' => w'.cell? ⟨gb135, 0, none⟩ = some (.string a0_0) ∧ w'.cell? ⟨gb135, 1, none⟩ = some (.slice A0_1 l0_1.length c0_1) ∧ w'.cell? ⟨gb135, 2, none⟩ = some (.slice (some ad147) l0_2.length c0_2) ∧ w'.cell? (ad147.add ((ji82)).toNat) = some (.slice (some ad153) (rd_L10 l0_2 (ji82)).length c152_0) ∧ w'.cell? ad153 = some (.int .i64 ((rd_T57 (rd_L10 l0_2 (ji82)) 0).f0)) ∧ w'.cell? ⟨ad153.block, ad153.off + 1, none⟩ = some (.int .i64 ((rd_T57 (rd_L10 l0_2 (ji82)) 0).f1)) ∧ w'.cell? ⟨ad153.block, ad153.off + 2, none⟩ = some (.string ((rd_T57 (rd_L10 l0_2 (ji82)) 0).f2)) ∧ w'.cell? ad154 = some (.int .i64 ((rd_T57 (rd_L10 l0_2 x58_3) 0).f0)) ∧ w'.cell? ⟨ad154.block, ad154.off + 1, none⟩ = some (.int .i64 ((rd_T57 (rd_L10 l0_2 x58_3) 0).f1)) ∧ w'.cell? ⟨ad154.block, ad154.off + 2, none⟩ = some (.string ((rd_T57 (rd_L10 l0_2 x58_3) 0).f2))) (ds := []) #[false, false, false, false, false, false, false, false, false, false, false, false, false, false, false, false, false] (by kernel_rfl) rfl rfl ⟨(bce BK135.out 0).trans rfl, (bce BK135.out 1).trans rfl, (bce BK135.out 2).trans rfl, ((HB.out.cell (World.block_lt_of_cell? w _ hw152_0)).trans hw152_0), ((HB.out.cell (World.block_lt_of_cell? w _ hw153_0)).trans hw153_0), ((HB.out.cell (World.block_lt_of_cell? w _ hw153_1)).trans hw153_1), ((HB.out.cell (World.block_lt_of_cell? w _ hw153_2)).trans hw153_2), ((HB.out.cell (World.block_lt_of_cell? w _ hw154_0)).trans hw154_0), ((HB.out.cell (World.block_lt_of_cell? w _ hw154_1)).trans hw154_1), ((HB.out.cell (World.block_lt_of_cell? w _ hw154_2)).trans hw154_2)⟩ (fun hHeld => ?_); refine with_tabW spec_l5TableOK.tab20 spec_l5TableOK.bits20 (fun HT_ HW_ => ?_); generalize wr.drew = w91 at BK135 HB HR152_0 hx152_0 hx153_0 hx153_1 hx153_2 hx154_0 hx154_1 hx154_2 hHeld ⊢; refine pure_ (i := 0) (N := some 86) (v := ?_) (a' := ?_) #[true, false, false, false, false, false, false, false, false, false, false, false, false, false, false, false, false] rfl rfl (any_of HT_.out (by kernel_rfl)) (fun _ _ _ h => h) (Or.inl ⟨by rfl, ?_⟩) ?_ ?_; rotate_left
                                            · intro w'; go_simp; (with_reducible rfl)
                                            rotate_left
                                            · simp only [Act.put, List.setIfInBounds_toArray, List.set_cons_zero, List.set_cons_succ, i64_w, i32_w]; rfl
                                            refine pure_ (i := 1) (N := some 87) (v := ?_) (a' := ?_) #[true, true, false, false, false, false, false, false, false, false, false, false, false, false, false, false, false] rfl rfl (any_of HT_.out (by kernel_rfl)) (fun _ _ _ h => h) (Or.inl ⟨by rfl, ?_⟩) ?_ ?_; rotate_left
                                            · intro w'; go_simp; (with_reducible rfl)
                                            rotate_left
                                            · simp only [Act.put, List.setIfInBounds_toArray, List.set_cons_zero, List.set_cons_succ, i64_w, i32_w]; rfl
                                            refine pure_ (i := 2) (N := some 88) (v := ?_) (a' := ?_) #[true, true, true, false, false, false, false, false, false, false, false, false, false, false, false, false, false] rfl rfl (any_of HT_.out (by kernel_rfl)) (fun _ _ _ h => h) (Or.inl ⟨by rfl, ?_⟩) ?_ ?_; rotate_left
                                            · intro w'; go_simp; (with_reducible rfl)
                                            rotate_left
                                            · simp only [Act.put, List.setIfInBounds_toArray, List.set_cons_zero, List.set_cons_succ, i64_w, i32_w]; rfl
                                            refine pure_ (i := 3) (N := some 89) (v := ?_) (a' := ?_) #[true, true, true, true, false, false, false, false, false, false, false, false, false, false, false, false, false] rfl rfl (any_of HT_.out (by kernel_rfl)) (fun _ _ _ h => h) (Or.inl ⟨by rfl, ?_⟩) ?_ ?_; rotate_left
                                            · intro w'; go_simp; (with_reducible rfl)
                                            rotate_left
                                            · simp only [Act.put, List.setIfInBounds_toArray, List.set_cons_zero, List.set_cons_succ, i64_w, i32_w]; rfl
                                            refine pure_ (i := 5) (N := some 91) (v := ?_) (a' := ?_) #[true, true, true, true, false, true, false, false, false, false, false, false, false, false, false, false, false] rfl rfl (any_of HT_.out (by kernel_rfl)) (fun _ _ _ h => h) (Or.inl ⟨by rfl, ?_⟩) ?_ ?_; rotate_left
                                            · intro w'; go_simp; (with_reducible rfl)
                                            rotate_left
                                            · simp only [Act.put, List.setIfInBounds_toArray, List.set_cons_zero, List.set_cons_succ, i64_w, i32_w]; rfl
                                            refine pure_ (i := 6) (N := some 92) (v := ?_) (a' := ?_) #[true, true, true, true, false, true, true, false, false, false, false, false, false, false, false, false, false] rfl rfl (any_of HT_.out (by kernel_rfl)) (fun _ _ _ h => h) (Or.inl ⟨by rfl, ?_⟩) ?_ ?_; rotate_left
                                            · intro w'; go_simp; (with_reducible rfl)
                                            rotate_left
                                            · simp only [Act.put, List.setIfInBounds_toArray, List.set_cons_zero, List.set_cons_succ, i64_w, i32_w]; rfl
                                            refine pure_ (i := 11) (N := some 97) (v := ?_) (a' := ?_) #[true, true, true, true, false, true, true, false, false, false, false, true, false, false, false, false, false] rfl rfl (any_of HT_.out (by kernel_rfl)) (fun _ _ _ h => h) (Or.inl ⟨by rfl, ?_⟩) ?_ ?_; rotate_left
                                            · intro w'; go_simp; (with_reducible rfl)
                                            rotate_left
                                            · simp only [Act.put, List.setIfInBounds_toArray, List.set_cons_zero, List.set_cons_succ, i64_w, i32_w]; rfl
                                            refine pure_ (i := 12) (N := some 98) (v := ?_) (a' := ?_) #[true, true, true, true, false, true, true, false, false, false, false, true, true, false, false, false, false] rfl rfl (any_of HT_.out (by kernel_rfl)) (fun _ _ _ h => h) (Or.inl ⟨by rfl, ?_⟩) ?_ ?_; rotate_left
                                            · intro w'; go_simp; (with_reducible rfl)
                                            rotate_left
                                            · simp only [Act.put, List.setIfInBounds_toArray, List.set_cons_zero, List.set_cons_succ, i64_w, i32_w]; rfl
                                            refine take_ (i := 4) (N := some 90) (v := ?_) (a' := ?_) #[true, true, true, true, true, true, true, false, false, false, false, true, true, false, false, false, false] rfl rfl (take_ofW HT_.out HW_.out (by kernel_rfl)) (fun _ _ _ h => h) (Or.inl ⟨by rfl, ?_⟩) hHeld ?_ ?_; rotate_left
                                            · rintro w' ⟨s0, s1, s2, s3, s4, s5, s6, s7, s8, s9⟩; go_simp; (with_reducible rfl)
                                            rotate_left
                                            · simp only [Act.put, List.setIfInBounds_toArray, List.set_cons_zero, List.set_cons_succ, i64_w, i32_w]; rfl
                                            refine pure_ (i := 7) (N := some 93) (v := ?_) (a' := ?_) #[true, true, true, true, true, true, true, true, false, false, false, true, true, false, false, false, false] rfl rfl (any_of HT_.out (by kernel_rfl)) (fun _ _ _ h => h) (Or.inl ⟨by rfl, ?_⟩) ?_ ?_; rotate_left
                                            · intro w'; go_simp; (with_reducible rfl)
                                            rotate_left
                                            · simp only [Act.put, List.setIfInBounds_toArray, List.set_cons_zero, List.set_cons_succ, i64_w, i32_w]; rfl
                                            refine take_ (i := 8) (N := some 94) (v := ?_) (a' := ?_) #[true, true, true, true, true, true, true, true, true, false, false, true, true, false, false, false, false] rfl rfl (take_ofW HT_.out HW_.out (by kernel_rfl)) (fun _ _ _ h => h) (Or.inl ⟨by rfl, ?_⟩) hHeld ?_ ?_; rotate_left
                                            · rintro w' ⟨s0, s1, s2, s3, s4, s5, s6, s7, s8, s9⟩; go_simp; (with_reducible rfl)
                                            rotate_left
                                            · simp only [Act.put, List.setIfInBounds_toArray, List.set_cons_zero, List.set_cons_succ, i64_w, i32_w]; rfl
                                            refine pure_ (i := 9) (N := some 95) (v := ?_) (a' := ?_) #[true, true, true, true, true, true, true, true, true, true, false, true, true, false, false, false, false] rfl rfl (any_of HT_.out (by kernel_rfl)) (fun _ _ _ h => h) (Or.inl ⟨by rfl, ?_⟩) ?_ ?_; rotate_left
                                            · intro w'; go_simp; (with_reducible rfl)
                                            rotate_left
                                            · simp only [Act.put, List.setIfInBounds_toArray, List.set_cons_zero, List.set_cons_succ, i64_w, i32_w]; rfl
                                            refine take_ (i := 10) (N := some 96) (v := ?_) (a' := ?_) #[true, true, true, true, true, true, true, true, true, true, true, true, true, false, false, false, false] rfl rfl (take_ofW HT_.out HW_.out (by kernel_rfl)) (fun _ _ _ h => h) (Or.inl ⟨by rfl, ?_⟩) hHeld ?_ ?_; rotate_left
                                            · rintro w' ⟨s0, s1, s2, s3, s4, s5, s6, s7, s8, s9⟩; go_simp; (with_reducible rfl)
                                            rotate_left
                                            · simp only [Act.put, List.setIfInBounds_toArray, List.set_cons_zero, List.set_cons_succ, i64_w, i32_w]; rfl
                                            refine take_ (i := 13) (N := some 99) (v := ?_) (a' := ?_) #[true, true, true, true, true, true, true, true, true, true, true, true, true, true, false, false, false] rfl rfl (take_ofW HT_.out HW_.out (by kernel_rfl)) (fun _ _ _ h => h) (Or.inl ⟨by rfl, ?_⟩) hHeld ?_ ?_; rotate_left
                                            · rintro w' ⟨s0, s1, s2, s3, s4, s5, s6, s7, s8, s9⟩; go_simp; (with_reducible rfl)
                                            rotate_left
                                            · simp only [Act.put, List.setIfInBounds_toArray, List.set_cons_zero, List.set_cons_succ, i64_w, i32_w]; rfl
                                            refine one_ (i := 14) (N := some 100) #[true, true, true, true, true, true, true, true, true, true, true, true, true, true, true, false, false] rfl rfl (one_of HT_.out (by kernel_rfl)) (by decide) (fun K hK => ?_); refine goes_ Tryd.func21 (by kernel_rfl) rfl #[.agg #[.int .i64 ((rd_T57 (rd_L10 l0_2 (ji82)) 0).f0), .int .i64 ((rd_T57 (rd_L10 l0_2 (ji82)) 0).f1), .string ((rd_T57 (rd_L10 l0_2 (ji82)) 0).f2)], .agg #[.int .i64 ((rd_T57 (rd_L10 l0_2 x58_3) 0).f0), .int .i64 ((rd_T57 (rd_L10 l0_2 x58_3) 0).f1), .string ((rd_T57 (rd_L10 l0_2 x58_3) 0).f2)]] (by rfl) rfl rfl (by (try simp only [List.map_toArray, List.map_cons, List.map_nil]); first | done | (simp only [hji82]; rfl) | rfl | (simp only [List.length_drop, List.length_take]; rfl)) ?_; (with_reducible refine (spec_l5Compare.calls k4 ((rd_T57 (rd_L10 l0_2 (ji82)) 0).f0) ((rd_T57 (rd_L10 l0_2 (ji82)) 0).f1) ((rd_T57 (rd_L10 l0_2 (ji82)) 0).f2) ((rd_T57 (rd_L10 l0_2 x58_3) 0).f0) ((rd_T57 (rd_L10 l0_2 x58_3) 0).f1) ((rd_T57 (rd_L10 l0_2 x58_3) 0).f2) t155 _ A87.out).mono ?_); rintro e w92 ⟨rfl, hb⟩; refine ⟨_, rfl, ?_⟩; replace BK135 := qbb BK135 hb; replace HB := qHB HB hb; (try clear hb); (try clear hb2); (try clear hk); (try clear hi); refine hK.out _ _ ⟨(bce BK135.out 0).trans rfl, (bce BK135.out 1).trans rfl, (bce BK135.out 2).trans rfl, ((HB.out.cell (World.block_lt_of_cell? w _ hw152_0)).trans hw152_0), ((HB.out.cell (World.block_lt_of_cell? w _ hw153_0)).trans hw153_0), ((HB.out.cell (World.block_lt_of_cell? w _ hw153_1)).trans hw153_1), ((HB.out.cell (World.block_lt_of_cell? w _ hw153_2)).trans hw153_2), ((HB.out.cell (World.block_lt_of_cell? w _ hw154_0)).trans hw154_0), ((HB.out.cell (World.block_lt_of_cell? w _ hw154_1)).trans hw154_1), ((HB.out.cell (World.block_lt_of_cell? w _ hw154_2)).trans hw154_2)⟩ (fun hHeld => ?_); clear hK K; refine norm_ (a' := ?_) ?_ ?_; rotate_left
                                            · show Act.put _ (some 100) _ = _; simp only [Act.put, List.setIfInBounds_toArray, List.set_cons_zero, List.set_cons_succ, i64_w, i32_w]; rfl
                                            refine pure_ (i := 15) (N := some 101) (v := ?_) (a' := ?_) #[true, true, true, true, true, true, true, true, true, true, true, true, true, true, true, true, false] rfl rfl (any_of HT_.out (by kernel_rfl)) (fun _ _ _ h => h) (Or.inl ⟨by rfl, ?_⟩) ?_ ?_; rotate_left
                                            · intro w'; go_simp; (with_reducible rfl)
                                            rotate_left
                                            · simp only [Act.put, List.setIfInBounds_toArray, List.set_cons_zero, List.set_cons_succ, i64_w, i32_w]; rfl
                                            refine pure_ (i := 16) (N := some 102) (v := ?_) (a' := ?_) #[true, true, true, true, true, true, true, true, true, true, true, true, true, true, true, true, true] rfl rfl (any_of HT_.out (by kernel_rfl)) (fun _ _ _ h => h) (Or.inl ⟨by rfl, ?_⟩) ?_ ?_; rotate_left
                                            · intro w'; go_simp; (with_reducible rfl)
                                            rotate_left
                                            · simp only [Act.put, List.setIfInBounds_toArray, List.set_cons_zero, List.set_cons_succ, i64_w, i32_w]; rfl
                                            refine done_ (done_of HT_.out (by kernel_rfl)) ?_; (try go_wp2); go_roundg k4
                                            case measure => have := HJ1.out; have := HK2.out; have := HK3.out; have := HK4.out; omega
                                            case rel => exact ⟨(wrap64 (x58_3 + 1)), qS, H', ⟨by have := HJ1.out; have := HK2.out; have := HK3.out; have := HK4.out; omega⟩, ⟨by (with_reducible repeat (first | refine bdN ?_ _ | refine bkD ?_ | refine bkA ?_ _)); exact BK135.out⟩, ⟨qB⟩⟩
                                        · rw [if_neg c86] at H; exact absurd H (by simp)
                                      · rw [if_neg c85] at H; exact absurd H (by simp)
                                    · rw [if_neg c84] at H; exact absurd H (by simp)
                                  · rw [if_neg c83] at H; exact absurd H (by simp)
                                · rw [if_neg c81] at H; have c81b0 : decide (0 < x58_3) = false := decide_eq_false c81; clear c81; have H' := qK H; clear H; (try go_wp2); replace BK135 := qK (bkD BK135.out); replace HB := qK (bd1 HB.out); refine start_ (n := 17) (S := fun w' => True) (ds := []) #[false, false, false, false, false, false, false, false, false, false, false, false, false, false, false, false, false] (by kernel_rfl) rfl rfl trivial (fun hHeld => ?_); refine with_tabW spec_l5TableOK.tab20 spec_l5TableOK.bits20 (fun HT_ HW_ => ?_); generalize wr.drew = w93 at BK135 HB hHeld ⊢; refine pure_ (i := 0) (N := some 86) (v := ?_) (a' := ?_) #[true, false, false, false, false, false, false, false, false, false, false, false, false, false, false, false, false] rfl rfl (any_of HT_.out (by kernel_rfl)) (fun _ _ _ h => h) (Or.inl ⟨by rfl, ?_⟩) ?_ ?_; rotate_left
                                  · intro w'; go_simp; (with_reducible rfl)
                                  rotate_left
                                  · simp only [Act.put, List.setIfInBounds_toArray, List.set_cons_zero, List.set_cons_succ, i64_w, i32_w]; rfl
                                  refine pure_ (i := 1) (N := some 87) (v := ?_) (a' := ?_) #[true, true, false, false, false, false, false, false, false, false, false, false, false, false, false, false, false] rfl rfl (any_of HT_.out (by kernel_rfl)) (fun _ _ _ h => h) (Or.inl ⟨by rfl, ?_⟩) ?_ ?_; rotate_left
                                  · intro w'; go_simp; (with_reducible rfl)
                                  rotate_left
                                  · simp only [Act.put, List.setIfInBounds_toArray, List.set_cons_zero, List.set_cons_succ, i64_w, i32_w]; rfl
                                  refine pure_ (i := 2) (N := some 88) (v := ?_) (a' := ?_) #[true, true, true, false, false, false, false, false, false, false, false, false, false, false, false, false, false] rfl rfl (any_of HT_.out (by kernel_rfl)) (fun _ _ _ h => h) (Or.inl ⟨by rfl, ?_⟩) ?_ ?_; rotate_left
                                  · intro w'; go_simp; (with_reducible rfl)
                                  rotate_left
                                  · simp only [Act.put, List.setIfInBounds_toArray, List.set_cons_zero, List.set_cons_succ, i64_w, i32_w]; rfl
                                  refine pure_ (i := 3) (N := some 89) (v := undef) (a' := ?_) #[true, true, true, true, false, false, false, false, false, false, false, false, false, false, false, false, false] rfl rfl (any_of HT_.out (by kernel_rfl)) (fun _ _ _ h => h) (Or.inr ⟨by rfl, rfl⟩) ?_ ?_; rotate_left
                                  · simp only [Act.put, List.setIfInBounds_toArray, List.set_cons_zero, List.set_cons_succ, i64_w, i32_w]; rfl
                                  refine pure_ (i := 4) (N := some 90) (v := undef) (a' := ?_) #[true, true, true, true, true, false, false, false, false, false, false, false, false, false, false, false, false] rfl rfl (any_of HT_.out (by kernel_rfl)) (fun _ _ _ h => h) (Or.inr ⟨by rfl, rfl⟩) ?_ ?_; rotate_left
                                  · simp only [Act.put, List.setIfInBounds_toArray, List.set_cons_zero, List.set_cons_succ, i64_w, i32_w]; rfl
                                  refine pure_ (i := 5) (N := some 91) (v := undef) (a' := ?_) #[true, true, true, true, true, true, false, false, false, false, false, false, false, false, false, false, false] rfl rfl (any_of HT_.out (by kernel_rfl)) (fun _ _ _ h => h) (Or.inr ⟨by rfl, rfl⟩) ?_ ?_; rotate_left
                                  · simp only [Act.put, List.setIfInBounds_toArray, List.set_cons_zero, List.set_cons_succ, i64_w, i32_w]; rfl
                                  refine pure_ (i := 6) (N := some 92) (v := undef) (a' := ?_) #[true, true, true, true, true, true, true, false, false, false, false, false, false, false, false, false, false] rfl rfl (any_of HT_.out (by kernel_rfl)) (fun _ _ _ h => h) (Or.inr ⟨by rfl, rfl⟩) ?_ ?_; rotate_left
                                  · simp only [Act.put, List.setIfInBounds_toArray, List.set_cons_zero, List.set_cons_succ, i64_w, i32_w]; rfl
                                  refine pure_ (i := 7) (N := some 93) (v := undef) (a' := ?_) #[true, true, true, true, true, true, true, true, false, false, false, false, false, false, false, false, false] rfl rfl (any_of HT_.out (by kernel_rfl)) (fun _ _ _ h => h) (Or.inr ⟨by rfl, rfl⟩) ?_ ?_; rotate_left
                                  · simp only [Act.put, List.setIfInBounds_toArray, List.set_cons_zero, List.set_cons_succ, i64_w, i32_w]; rfl
                                  refine pure_ (i := 8) (N := some 94) (v := undef) (a' := ?_) #[true, true, true, true, true, true, true, true, true, false, false, false, false, false, false, false, false] rfl rfl (any_of HT_.out (by kernel_rfl)) (fun _ _ _ h => h) (Or.inr ⟨by rfl, rfl⟩) ?_ ?_; rotate_left
                                  · simp only [Act.put, List.setIfInBounds_toArray, List.set_cons_zero, List.set_cons_succ, i64_w, i32_w]; rfl
                                  refine pure_ (i := 9) (N := some 95) (v := undef) (a' := ?_) #[true, true, true, true, true, true, true, true, true, true, false, false, false, false, false, false, false] rfl rfl (any_of HT_.out (by kernel_rfl)) (fun _ _ _ h => h) (Or.inr ⟨by rfl, rfl⟩) ?_ ?_; rotate_left
                                  · simp only [Act.put, List.setIfInBounds_toArray, List.set_cons_zero, List.set_cons_succ, i64_w, i32_w]; rfl
                                  refine pure_ (i := 10) (N := some 96) (v := undef) (a' := ?_) #[true, true, true, true, true, true, true, true, true, true, true, false, false, false, false, false, false] rfl rfl (any_of HT_.out (by kernel_rfl)) (fun _ _ _ h => h) (Or.inr ⟨by rfl, rfl⟩) ?_ ?_; rotate_left
                                  · simp only [Act.put, List.setIfInBounds_toArray, List.set_cons_zero, List.set_cons_succ, i64_w, i32_w]; rfl
                                  refine pure_ (i := 11) (N := some 97) (v := undef) (a' := ?_) #[true, true, true, true, true, true, true, true, true, true, true, true, false, false, false, false, false] rfl rfl (any_of HT_.out (by kernel_rfl)) (fun _ _ _ h => h) (Or.inr ⟨by rfl, rfl⟩) ?_ ?_; rotate_left
                                  · simp only [Act.put, List.setIfInBounds_toArray, List.set_cons_zero, List.set_cons_succ, i64_w, i32_w]; rfl
                                  refine pure_ (i := 12) (N := some 98) (v := undef) (a' := ?_) #[true, true, true, true, true, true, true, true, true, true, true, true, true, false, false, false, false] rfl rfl (any_of HT_.out (by kernel_rfl)) (fun _ _ _ h => h) (Or.inr ⟨by rfl, rfl⟩) ?_ ?_; rotate_left
                                  · simp only [Act.put, List.setIfInBounds_toArray, List.set_cons_zero, List.set_cons_succ, i64_w, i32_w]; rfl
                                  refine pure_ (i := 13) (N := some 99) (v := undef) (a' := ?_) #[true, true, true, true, true, true, true, true, true, true, true, true, true, true, false, false, false] rfl rfl (any_of HT_.out (by kernel_rfl)) (fun _ _ _ h => h) (Or.inr ⟨by rfl, rfl⟩) ?_ ?_; rotate_left
                                  · simp only [Act.put, List.setIfInBounds_toArray, List.set_cons_zero, List.set_cons_succ, i64_w, i32_w]; rfl
                                  refine pure_ (i := 14) (N := some 100) (v := undef) (a' := ?_) #[true, true, true, true, true, true, true, true, true, true, true, true, true, true, true, false, false] rfl rfl (any_of HT_.out (by kernel_rfl)) (fun _ _ _ h => h) (Or.inr ⟨by rfl, rfl⟩) ?_ ?_; rotate_left
                                  · simp only [Act.put, List.setIfInBounds_toArray, List.set_cons_zero, List.set_cons_succ, i64_w, i32_w]; rfl
                                  refine pure_ (i := 15) (N := some 101) (v := undef) (a' := ?_) #[true, true, true, true, true, true, true, true, true, true, true, true, true, true, true, true, false] rfl rfl (any_of HT_.out (by kernel_rfl)) (fun _ _ _ h => h) (Or.inr ⟨by rfl, rfl⟩) ?_ ?_; rotate_left
                                  · simp only [Act.put, List.setIfInBounds_toArray, List.set_cons_zero, List.set_cons_succ, i64_w, i32_w]; rfl
                                  refine pure_ (i := 16) (N := some 102) (v := ?_) (a' := ?_) #[true, true, true, true, true, true, true, true, true, true, true, true, true, true, true, true, true] rfl rfl (any_of HT_.out (by kernel_rfl)) (fun _ _ _ h => h) (Or.inl ⟨by rfl, ?_⟩) ?_ ?_; rotate_left
                                  · intro w'; go_simp; (with_reducible rfl)
                                  rotate_left
                                  · simp only [Act.put, List.setIfInBounds_toArray, List.set_cons_zero, List.set_cons_succ, i64_w, i32_w]; rfl
                                  refine done_ (done_of HT_.out (by kernel_rfl)) ?_; (try go_wp2); go_roundg k4
                                  case measure => have := HJ1.out; have := HK2.out; have := HK3.out; have := HK4.out; omega
                                  case rel => exact ⟨(wrap64 (x58_3 + 1)), qS, H', ⟨by have := HJ1.out; have := HK2.out; have := HK3.out; have := HK4.out; omega⟩, ⟨by (with_reducible repeat (first | refine bdN ?_ _ | refine bkD ?_ | refine bkA ?_ _)); exact BK135.out⟩, ⟨qB⟩⟩
                        · rw [if_neg c61] at H; have c61b0 : (((rd_L10 l0_2 x58_3).length : Int) == (l0_1.length : Int)) = false := beq_eq_false_iff_ne.mpr c61; have c61b1 : (((rd_L10 l0_2 x58_3).length : Int) != (l0_1.length : Int)) = true := bne_iff_ne.mpr c61; (have c61b2 : ((rd_L10 l0_2 x58_3).length == l0_1.length) = false := by first | simpa using c61 | (simp at c61 ⊢; omega)); obtain rfl := Option.some.inj H; have p147 : 0 ≤ (x58_3 : Int) := of_decide_eq_true qa; have q147 : x58_3 < (l0_2.length : Int) := of_decide_eq_true qa; obtain ⟨ad147, A147_0, c147_0, e147, hx147_0, hl147_0, hi147_0⟩ := at_L10 HR0_2.out x58_3 p147 q147; cases e147; replace hx147_0 := (HB.out.cell (World.block_lt_of_cell? w _ hx147_0)).trans hx147_0; have HR147_0 := qK hi147_0; have HC147_0 := qK hl147_0; clear hi147_0 hl147_0; replace p147 := eq_true p147; replace q147 := eq_true q147; obtain ⟨hcz94_0, hcz94_1, hcz94_2⟩ := zC3 BK135.out; obtain ⟨hfz94_0, hfz94_1, hfz94_2⟩ := zF3 BK135.out; go_wp2; go_ret; exact ⟨qR, qB⟩
                      · rw [if_neg c60] at H; exact absurd H (by simp)
                    · rw [if_neg c59] at H; exact absurd H (by simp)
                  · rw [if_neg c58] at H; have c58b0 : decide (x58_3 < (l0_2.length : Int)) = false := decide_eq_false c58; clear c58; obtain rfl := Option.some.inj H; go_wp2; go_ret; exact ⟨qR, qB⟩
end Go.Proofs.YtoebfjfhdodakaaDoor.L
end
section
namespace Go.Proofs.YtoebfjfhdodakaaDoor.L
open Go.RowKit Go.Proofs.YtoebfjfhdodakaaDoorW.PrintWords Go.Proofs.YtoebfjfhdodakaaDoorW.PrintLast Go.Proofs.YtoebfjfhdodakaaDoorW.PrintMore
attribute [local go_sem] max2_int min2_int max_two min_two max_three min_three max_four min_four
set_option linter.unusedVariables false
set_option linter.unusedSimpArgs false
def spec_DbOK.l0 : Nat → List (S37) → Int → Int → List (S37) → Option (Bool)
  | 0, _, _, _, _ => none
  | k + 1, x10, x11, x12, x157000 => if x12 < x11 then (if 0 ≤ x12 then (if x12 < (x10.length : Int) then ((spec_l5TableOK.f k ((rd_T37 x10 x12).f0) ((rd_T37 x10 x12).f1) ((rd_T37 x10 x12).f2)).bind fun t159 => (if t159 = true then (if x12 > 0 then (if 0 ≤ (wrap64 (x12 - 1)) then (if (wrap64 (x12 - 1)) < (x157000.length : Int) then (if ((Op.bytesLess (((rd_T37 x157000 (wrap64 (x12 - 1))).f0).toList) (((rd_T37 x10 x12).f0).toList)) = true) then (spec_DbOK.l0 k x10 x11 (wrap64 (x12 + 1)) x157000) else (some false)) else (none)) else (none)) else (spec_DbOK.l0 k x10 x11 (wrap64 (x12 + 1)) x157000)) else (some false))) else (none)) else (none)) else (some true)
def spec_DbOK.f (k : Nat) (l0_0 : List (S37)) : Option (Bool) := if (l0_0.length : Int) > 100 then (some false) else (spec_DbOK.l0 k l0_0 (l0_0.length : Int) 0 l0_0)
theorem spec_DbOK.mono_l : ∀ k, (∀ y0 y1 y2 y3, LeO (spec_DbOK.l0 k y0 y1 y2 y3) (spec_DbOK.l0 (k + 1) y0 y1 y2 y3))
  | 0 => fun _ _ _ _ r h => by simp [spec_DbOK.l0] at h
  | k + 1 => by
    have ih0 := spec_DbOK.mono_l k
    · intro y0 y1 y2 y3
      unfold spec_DbOK.l0
      repeat' first
      | (with_reducible exact ih0 _ _ _ _)
      | (with_reducible exact spec_l5TableOK.mono _ _ _ _)
      | (with_reducible exact LeO.refl _)
      | (with_reducible exact LeO.none _)
      | (with_reducible refine LeO.ite ?_ ?_)
      | (with_reducible refine LeO.bind ?_ (fun _ => ?_))
      | exact ih0 _ _ _ _
      | exact spec_l5TableOK.mono _ _ _ _
      | exact LeO.none _
      | refine LeO.ite ?_ ?_
      | refine LeO.bind ?_ (fun _ => ?_)
theorem spec_DbOK.mono : ∀ a0 k, LeO (spec_DbOK.f k a0) (spec_DbOK.f (k + 1) a0) := by
  intro a0 k
  have ih0 := spec_DbOK.mono_l k
  unfold spec_DbOK.f
  repeat' first
      | (with_reducible exact ih0 _ _ _ _)
      | (with_reducible exact spec_l5TableOK.mono _ _ _ _)
      | (with_reducible exact LeO.refl _)
      | (with_reducible exact LeO.none _)
      | (with_reducible refine LeO.ite ?_ ?_)
      | (with_reducible refine LeO.bind ?_ (fun _ => ?_))
      | exact ih0 _ _ _ _
      | exact spec_l5TableOK.mono _ _ _ _
      | exact LeO.none _
      | refine LeO.ite ?_ ?_
      | refine LeO.bind ?_ (fun _ => ?_)
def spec_DbOK.T6 : Bool × List (List Nat × List Nat) := (true, [([], []), ([0], [0]), ([1], [1]), ([2, 1], [2]), ([3], [3]), ([4, 3], [3, 4]), ([5, 3, 3], [3, 5]), ([6], [6]), ([7, 6], [6, 7]), ([6], [6]), ([9, 6], [6, 9]), ([8, 10, 6], [6, 8, 10]), ([11, 6], [6, 11]), ([12, 6], [6, 12]), ([6], [6]), ([14, 6], [6, 14]), ([13, 15, 6], [6, 13, 15]), ([6, 16, 3], [3, 6, 16]), ([3, 17], [3, 17])])
def spec_DbOK.B6 : List Nat := [0, 1, 3, 7, 15, 31, 63, 127, 255, 127, 639, 2047, 4095, 8191, 127, 16511, 65535, 131071, 262143]
theorem spec_DbOK.tab6 : rtab .any (opsOf Tryd.f5 6) = spec_DbOK.T6 := by kernel_rfl
theorem spec_DbOK.bits6 : waitsOk spec_DbOK.T6.2 spec_DbOK.B6 = true := by kernel_rfl
set_option maxHeartbeats 8000000 in
set_option maxRecDepth 100000 in
theorem spec_DbOK.calls (k : Nat) (A0_0 : Option Addr) (c0_0 : Nat) (l0_0 : List (S37)) (r : Bool) (w : World) (hr0_0 : Kd.C k37 w A0_0 l0_0.length l0_0) (hc0_0 : l0_0.length ≤ c0_0) (h : spec_DbOK.f k l0_0 = some r) :
    Calls Tryd.prog 5 #[.agg #[.slice A0_0 l0_0.length c0_0]] w fun e w' => e = .returned (.bool r) ∧ Below w.heap.size w w' := by
  have hu29 := Tryd.underlying29; have hu37 := Tryd.underlying37; have HR0_0 := qK hr0_0; have HC0_0 := qK hc0_0; clear hr0_0 hc0_0; have HB := qK (Below.refl w.heap.size w); have H : (if (l0_0.length : Int) > 100 then (some false) else (spec_DbOK.l0 k l0_0 (l0_0.length : Int) 0 l0_0)) = some r := h; clear h; by_cases c2 : (l0_0.length : Int) > 100
  · rw [if_pos c2] at H; have c2b0 : decide (100 < (l0_0.length : Int)) = true := decide_eq_true c2; have c2b1 : decide (100 < l0_0.length) = true := decide_eq_true (by omega); clear c2; obtain rfl := Option.some.inj H; go_enter Tryd.func5, Tryd.ntmps5; go_wp2_with (first | ((with_reducible refine gds (N := 1) rfl ?_); refine qbx 1 #[.slice A0_0 l0_0.length c0_0] 29 ?_; intro gb156 hg w3 hbox hb; have BK156 := qK (hbox); have GW156 := qK ((qW : w.heap.size ≤ gb156)); have GE156 := GW156; replace HB := qHB HB hb; clear hb hbox hg; have hz4 := qz1 BK156.out)); go_ret; exact ⟨qR, qB⟩
  · rw [if_neg c2] at H; have c2b0 : decide (100 < (l0_0.length : Int)) = false := decide_eq_false c2; have c2b1 : decide (100 < l0_0.length) = false := decide_eq_false (by omega); clear c2; have H' := qK H; clear H; go_enter Tryd.func5, Tryd.ntmps5; go_wp2_with (first | ((with_reducible refine gds (N := 1) rfl ?_); refine qbx 1 #[.slice A0_0 l0_0.length c0_0] 29 ?_; intro gb156 hg w5 hbox hb; have BK156 := qK (hbox); have GW156 := qK ((qW : w.heap.size ≤ gb156)); have GE156 := GW156; replace HB := qHB HB hb; clear hb hbox hg; have hz6 := qz1 BK156.out)); go_loopg [12] k (fun kq v12 w' => ∃ (x12_1 : Int), v12 = .int .i64 x12_1 ∧ Aside0 (spec_DbOK.l0 kq l0_0 (l0_0.length : Int) x12_1 l0_0 = some r) ∧ Aside0 (kq ≤ k) ∧ Aside0 (w'.heap[gb156]? = some (.cells #[(.slice A0_0 l0_0.length c0_0)] 29 (0, 0))) ∧ Aside0 (Below w.heap.size w w'))
    case atStart => exact ⟨(0), qS, H', ⟨Nat.le_refl _⟩, ⟨by (with_reducible repeat (first | refine bdN ?_ _ | refine bkD ?_ | refine bkA ?_ _)); exact BK156.out⟩, ⟨qB⟩⟩
    case round =>
      clear H'; (try clear c2); (try clear c2b0); (try clear c2b1); (try clear p2); (try clear c5); (try clear hz4); (try clear hz6); obtain ⟨x12_1, rfl, HA, HK1, BK156, HB⟩ := hrel
      cases gk with
      | zero => exact absurd HA.out (by simp [spec_DbOK.l0])
      | succ k1 =>
        have H := HA.out; clear HA; simp only [spec_DbOK.l0] at H; by_cases c7 : x12_1 < (l0_0.length : Int)
        · rw [if_pos c7] at H; have c7b0 : decide (x12_1 < (l0_0.length : Int)) = true := decide_eq_true c7; clear c7; by_cases c8 : 0 ≤ x12_1
          · rw [if_pos c8] at H; have c8b0 : decide (0 ≤ x12_1) = true := decide_eq_true c8; clear c8; by_cases c9 : x12_1 < (l0_0.length : Int)
            · rw [if_pos c9] at H; have c9b0 : decide (x12_1 < (l0_0.length : Int)) = true := decide_eq_true c9; clear c9; replace H := Option.bind_eq_some_iff.mp H; obtain ⟨t159, A100, H⟩ := H; have A10 := qK A100; clear A100; by_cases c11 : t159 = true
              · subst c11; rw [if_pos rfl] at H; by_cases c12 : x12_1 > 0
                · rw [if_pos c12] at H; have c12b0 : decide (0 < x12_1) = true := decide_eq_true c12; clear c12; obtain ⟨ji13, hji13⟩ : ∃ j_ : Int, (wrap64 (x12_1 - 1)) = j_ := ⟨_, rfl⟩; (replace H : (if 0 ≤ (ji13) then (if (ji13) < (l0_0.length : Int) then (if ((Op.bytesLess (((rd_T37 l0_0 (ji13)).f0).toList) (((rd_T37 l0_0 x12_1).f0).toList)) = true) then (spec_DbOK.l0 k1 l0_0 (l0_0.length : Int) (wrap64 (x12_1 + 1)) l0_0) else (some false)) else (none)) else (none)) = some r := by first | (rw [hji13] at H; exact H) | (simp only [hji13] at H ⊢; exact H)); (try rw [hji13] at A10); have hji13w : (IntKind.i64.wrap (x12_1 - 1)) = ji13 := (i64_w _).trans hji13; by_cases c14 : 0 ≤ (ji13)
                  · rw [if_pos c14] at H; have c14b0 : decide (0 ≤ (ji13)) = true := decide_eq_true c14; clear c14; by_cases c15 : (ji13) < (l0_0.length : Int)
                    · rw [if_pos c15] at H; have c15b0 : decide ((ji13) < (l0_0.length : Int)) = true := decide_eq_true c15; clear c15; by_cases c16 : ((Op.bytesLess (((rd_T37 l0_0 (ji13)).f0).toList) (((rd_T37 l0_0 x12_1).f0).toList)) = true)
                      · rw [if_pos c16] at H; have c16b0 : (Op.bytesLess (((rd_T37 l0_0 (ji13)).f0).toList) (((rd_T37 l0_0 x12_1).f0).toList)) = true := c16; clear c16; have H' := qK H; clear H; have p157 : 0 ≤ (x12_1 : Int) := of_decide_eq_true qa; have q157 : x12_1 < (l0_0.length : Int) := of_decide_eq_true qa; obtain ⟨ad157, A157_1, c157_1, A157_2, c157_2, e157, hx157_0, hx157_1, hx157_2, hl157_1, hi157_1, hl157_2, hi157_2⟩ := at_T37 HR0_0.out x12_1 p157 q157; cases e157; replace hx157_0 := (HB.out.cell (World.block_lt_of_cell? w _ hx157_0)).trans hx157_0; replace hx157_1 := (HB.out.cell (World.block_lt_of_cell? w _ hx157_1)).trans hx157_1; replace hx157_2 := (HB.out.cell (World.block_lt_of_cell? w _ hx157_2)).trans hx157_2; have HR157_1 := qK hi157_1; have HC157_1 := qK hl157_1; clear hi157_1 hl157_1; have HR157_2 := qK hi157_2; have HC157_2 := qK hl157_2; clear hi157_2 hl157_2; replace p157 := eq_true p157; replace q157 := eq_true q157; (try go_wp2_with (first | ((with_reducible refine gds (N := 4) rfl ?_); refine qbx 4 #[.string (⟨#[]⟩ : ByteArray), .slice none 0 0, .slice none 0 0] 37 ?_; intro gb158 hg w17 hbox hb; have BK158 := qK (hbox); have GW158 := qK ((qW : w.heap.size ≤ gb158)); have GE158 := GW158; replace HB := qHB HB hb; have NB156_158 := qK (qlt BK156 hg); have NB158_156 := qK (qgt BK156 hg); replace BK156 := qbb BK156 hb; clear hb hbox hg; have hnb18 := NB158_156.out; have hnc18 := NB156_158.out; have hz19 := qz3 BK158.out))); have n0_ : Aside0 ((((w17.setCell ⟨gb158, 0, none⟩ (.string ((rd_T37 l0_0 x12_1).f0))).setCell ⟨gb158, 1, none⟩ (.slice A157_1 ((rd_T37 l0_0 x12_1).f1).length c157_1)).setCell ⟨gb158, 2, none⟩ (.slice A157_2 ((rd_T37 l0_0 x12_1).f2).length c157_2)).heap[gb156]? = some (.cells #[.slice (some ad157) l0_0.length c0_0] 29 (0, 0))) := ⟨by (with_reducible repeat (first | refine bdN ?_ _ | refine bkD ?_ | refine bkA ?_ _)); refine bfa ?_ NB156_158.out _; (with_reducible repeat (first | refine bdN ?_ _ | refine bkD ?_ | refine bkA ?_ _)); refine bfa ?_ NB156_158.out _; (with_reducible repeat (first | refine bdN ?_ _ | refine bkD ?_ | refine bkA ?_ _)); refine bfa ?_ NB156_158.out _; (with_reducible repeat (first | refine bdN ?_ _ | refine bkD ?_ | refine bkA ?_ _)); exact BK156.out⟩; have n1_ : Aside0 ((((w17.setCell ⟨gb158, 0, none⟩ (.string ((rd_T37 l0_0 x12_1).f0))).setCell ⟨gb158, 1, none⟩ (.slice A157_1 ((rd_T37 l0_0 x12_1).f1).length c157_1)).setCell ⟨gb158, 2, none⟩ (.slice A157_2 ((rd_T37 l0_0 x12_1).f2).length c157_2)).heap[gb158]? = some (.cells #[.string ((rd_T37 l0_0 x12_1).f0), .slice A157_1 ((rd_T37 l0_0 x12_1).f1).length c157_1, .slice A157_2 ((rd_T37 l0_0 x12_1).f2).length c157_2] 37 (0, 0))) := ⟨by (with_reducible repeat (first | refine bdN ?_ _ | refine bkD ?_ | refine bkA ?_ _)); refine bpu (cs := #[.string ((rd_T37 l0_0 x12_1).f0), .slice A157_1 ((rd_T37 l0_0 x12_1).f1).length c157_1, .slice none 0 0]) ?_ 2 _ rfl; (with_reducible repeat (first | refine bdN ?_ _ | refine bkD ?_ | refine bkA ?_ _)); refine bpu (cs := #[.string ((rd_T37 l0_0 x12_1).f0), .slice none 0 0, .slice none 0 0]) ?_ 1 _ rfl; (with_reducible repeat (first | refine bdN ?_ _ | refine bkD ?_ | refine bkA ?_ _)); refine bpu (cs := #[.string (⟨#[]⟩ : ByteArray), .slice none 0 0, .slice none 0 0]) ?_ 0 _ rfl; (with_reducible repeat (first | refine bdN ?_ _ | refine bkD ?_ | refine bkA ?_ _)); exact BK158.out⟩; have n2_ : Aside0 (Below w.heap.size w (((w17.setCell ⟨gb158, 0, none⟩ (.string ((rd_T37 l0_0 x12_1).f0))).setCell ⟨gb158, 1, none⟩ (.slice A157_1 ((rd_T37 l0_0 x12_1).f1).length c157_1)).setCell ⟨gb158, 2, none⟩ (.slice A157_2 ((rd_T37 l0_0 x12_1).f2).length c157_2))) := ⟨qB⟩; (try clear BK156); (try clear BK158); (try clear HB); generalize (((w17.setCell ⟨gb158, 0, none⟩ (.string ((rd_T37 l0_0 x12_1).f0))).setCell ⟨gb158, 1, none⟩ (.slice A157_1 ((rd_T37 l0_0 x12_1).f1).length c157_1)).setCell ⟨gb158, 2, none⟩ (.slice A157_2 ((rd_T37 l0_0 x12_1).f2).length c157_2)) = w20 at n0_ n1_ n2_ ⊢; have BK156 := n0_; have BK158 := n1_; have HB := n2_; clear n0_ n1_ n2_; replace BK156 := qK (bkD BK156.out); replace BK158 := qK (bkD BK158.out); replace HB := qK (bd1 HB.out); have p160 : 0 ≤ ((ji13) : Int) := of_decide_eq_true qa; have q160 : (ji13) < (l0_0.length : Int) := of_decide_eq_true qa; obtain ⟨ad160, A160_1, c160_1, A160_2, c160_2, e160, hx160_0, hx160_1, hx160_2, hl160_1, hi160_1, hl160_2, hi160_2⟩ := at_T37 HR0_0.out (ji13) p160 q160; have hw160_2 := hx160_2; have hw160_1 := hx160_1; have hw160_0 := hx160_0; obtain rfl : ad157 = ad160 := (by injection e160); replace hx160_0 := (HB.out.cell (World.block_lt_of_cell? w _ hx160_0)).trans hx160_0; replace hx160_1 := (HB.out.cell (World.block_lt_of_cell? w _ hx160_1)).trans hx160_1; replace hx160_2 := (HB.out.cell (World.block_lt_of_cell? w _ hx160_2)).trans hx160_2; have HR160_1 := qK hi160_1; have HC160_1 := qK hl160_1; clear hi160_1 hl160_1; have HR160_2 := qK hi160_2; have HC160_2 := qK hl160_2; clear hi160_2 hl160_2; replace p160 := eq_true p160; replace q160 := eq_true q160; refine start_ (n := 19) (S := fun w' => w'.cell? ⟨gb158, 0, none⟩ = some (.string ((rd_T37 l0_0 x12_1).f0)) ∧ w'.cell? ⟨gb158, 1, none⟩ = some (.slice A157_1 ((rd_T37 l0_0 x12_1).f1).length c157_1) ∧ w'.cell? ⟨gb158, 2, none⟩ = some (.slice A157_2 ((rd_T37 l0_0 x12_1).f2).length c157_2) ∧ w'.cell? ⟨gb156, 0, none⟩ = some (.slice (some ad157) l0_0.length c0_0) ∧ w'.cell? (ad157.add (((ji13)).toNat * 3)) = some (.string ((rd_T37 l0_0 (ji13)).f0)) ∧ w'.cell? ⟨(ad157.add (((ji13)).toNat * 3)).block, (ad157.add (((ji13)).toNat * 3)).off + 1, none⟩ = some (.slice A160_1 ((rd_T37 l0_0 (ji13)).f1).length c160_1) ∧ w'.cell? ⟨(ad157.add (((ji13)).toNat * 3)).block, (ad157.add (((ji13)).toNat * 3)).off + 2, none⟩ = some (.slice A160_2 ((rd_T37 l0_0 (ji13)).f2).length c160_2)) (ds := []) #[false, false, false, false, false, false, false, false, false, false, false, false, false, false, false, false, false, false, false] (by kernel_rfl) rfl rfl ⟨(bce BK158.out 0).trans rfl, (bce BK158.out 1).trans rfl, (bce BK158.out 2).trans rfl, (bce BK156.out 0).trans rfl, ((HB.out.cell (World.block_lt_of_cell? w _ hw160_0)).trans hw160_0), ((HB.out.cell (World.block_lt_of_cell? w _ hw160_1)).trans hw160_1), ((HB.out.cell (World.block_lt_of_cell? w _ hw160_2)).trans hw160_2)⟩ (fun hHeld => ?_); refine with_tabW spec_DbOK.tab6 spec_DbOK.bits6 (fun HT_ HW_ => ?_); generalize w20.drew = w21 at BK156 BK158 HB HR160_1 HR160_2 hx160_0 hx160_1 hx160_2 hHeld ⊢; refine take_ (i := 0) (N := some 17) (v := ?_) (a' := ?_) #[true, false, false, false, false, false, false, false, false, false, false, false, false, false, false, false, false, false, false] rfl rfl (take_ofW HT_.out HW_.out (by kernel_rfl)) (fun _ _ _ h => h) (Or.inl ⟨by rfl, ?_⟩) hHeld ?_ ?_; rotate_left
                        · rintro w' ⟨s0, s1, s2, s3, s4, s5, s6⟩; go_simp; (with_reducible rfl)
                        rotate_left
                        · simp only [Act.put, List.setIfInBounds_toArray, List.set_cons_zero, List.set_cons_succ, i64_w, i32_w]; rfl
                        refine one_ (i := 1) (N := some 18) #[true, true, false, false, false, false, false, false, false, false, false, false, false, false, false, false, false, false, false] rfl rfl (one_of HT_.out (by kernel_rfl)) (by decide) (fun K hK => ?_); refine goes_ Tryd.func10 (by kernel_rfl) rfl #[.agg #[.string ((rd_T37 l0_0 x12_1).f0), .slice A157_1 ((rd_T37 l0_0 x12_1).f1).length c157_1, .slice A157_2 ((rd_T37 l0_0 x12_1).f2).length c157_2]] (by rfl) rfl rfl qA ?_; (with_reducible refine (spec_l5TableOK.calls k1 ((rd_T37 l0_0 x12_1).f0) _ _ ((rd_T37 l0_0 x12_1).f1) _ _ ((rd_T37 l0_0 x12_1).f2) true _ ?side1 ?side2 ?side3 ?side4 A10.out).mono ?_); (case side1 => exact qC HR157_1); (case side2 => exact HC157_1.out); (case side3 => exact qC HR157_2); (case side4 => exact HC157_2.out); rintro e w22 ⟨rfl, hb⟩; refine ⟨_, rfl, ?_⟩; replace BK156 := qbb BK156 hb; replace BK158 := qbb BK158 hb; replace HB := qHB HB hb; (try clear hb); (try clear hb2); (try clear hk); (try clear hi); refine hK.out _ _ ⟨(bce BK158.out 0).trans rfl, (bce BK158.out 1).trans rfl, (bce BK158.out 2).trans rfl, (bce BK156.out 0).trans rfl, ((HB.out.cell (World.block_lt_of_cell? w _ hw160_0)).trans hw160_0), ((HB.out.cell (World.block_lt_of_cell? w _ hw160_1)).trans hw160_1), ((HB.out.cell (World.block_lt_of_cell? w _ hw160_2)).trans hw160_2)⟩ (fun hHeld => ?_); clear hK K; refine norm_ (a' := ?_) ?_ ?_; rotate_left
                        · show Act.put _ (some 18) _ = _; simp only [Act.put, List.setIfInBounds_toArray, List.set_cons_zero, List.set_cons_succ, i64_w, i32_w]; rfl
                        refine pure_ (i := 2) (N := some 19) (v := ?_) (a' := ?_) #[true, true, true, false, false, false, false, false, false, false, false, false, false, false, false, false, false, false, false] rfl rfl (any_of HT_.out (by kernel_rfl)) (fun _ _ _ h => h) (Or.inl ⟨by rfl, ?_⟩) ?_ ?_; rotate_left
                        · intro w'; go_simp; (with_reducible rfl)
                        rotate_left
                        · simp only [Act.put, List.setIfInBounds_toArray, List.set_cons_zero, List.set_cons_succ, i64_w, i32_w]; rfl
                        refine pure_ (i := 3) (N := some 20) (v := ?_) (a' := ?_) #[true, true, true, true, false, false, false, false, false, false, false, false, false, false, false, false, false, false, false] rfl rfl (any_of HT_.out (by kernel_rfl)) (fun _ _ _ h => h) (Or.inl ⟨by rfl, ?_⟩) ?_ ?_; rotate_left
                        · intro w'; go_simp; (with_reducible rfl)
                        rotate_left
                        · simp only [Act.put, List.setIfInBounds_toArray, List.set_cons_zero, List.set_cons_succ, i64_w, i32_w]; rfl
                        refine pure_ (i := 4) (N := some 21) (v := ?_) (a' := ?_) #[true, true, true, true, true, false, false, false, false, false, false, false, false, false, false, false, false, false, false] rfl rfl (any_of HT_.out (by kernel_rfl)) (fun _ _ _ h => h) (Or.inl ⟨by rfl, ?_⟩) ?_ ?_; rotate_left
                        · intro w'; go_simp; (with_reducible rfl)
                        rotate_left
                        · simp only [Act.put, List.setIfInBounds_toArray, List.set_cons_zero, List.set_cons_succ, i64_w, i32_w]; rfl
                        refine pure_ (i := 5) (N := some 22) (v := ?_) (a' := ?_) #[true, true, true, true, true, true, false, false, false, false, false, false, false, false, false, false, false, false, false] rfl rfl (any_of HT_.out (by kernel_rfl)) (fun _ _ _ h => h) (Or.inl ⟨by rfl, ?_⟩) ?_ ?_; rotate_left
                        · intro w'; go_simp; (with_reducible rfl)
                        rotate_left
                        · simp only [Act.put, List.setIfInBounds_toArray, List.set_cons_zero, List.set_cons_succ, i64_w, i32_w]; rfl
                        refine pure_ (i := 6) (N := some 23) (v := ?_) (a' := ?_) #[true, true, true, true, true, true, true, false, false, false, false, false, false, false, false, false, false, false, false] rfl rfl (any_of HT_.out (by kernel_rfl)) (fun _ _ _ h => h) (Or.inl ⟨by rfl, ?_⟩) ?_ ?_; rotate_left
                        · intro w'; go_simp; (with_reducible rfl)
                        rotate_left
                        · simp only [Act.put, List.setIfInBounds_toArray, List.set_cons_zero, List.set_cons_succ, i64_w, i32_w]; rfl
                        refine pure_ (i := 7) (N := some 24) (v := ?_) (a' := ?_) #[true, true, true, true, true, true, true, true, false, false, false, false, false, false, false, false, false, false, false] rfl rfl (any_of HT_.out (by kernel_rfl)) (fun _ _ _ h => h) (Or.inl ⟨by rfl, ?_⟩) ?_ ?_; rotate_left
                        · intro w'; go_simp; (with_reducible rfl)
                        rotate_left
                        · simp only [Act.put, List.setIfInBounds_toArray, List.set_cons_zero, List.set_cons_succ, i64_w, i32_w]; rfl
                        refine pure_ (i := 9) (N := some 26) (v := ?_) (a' := ?_) #[true, true, true, true, true, true, true, true, false, true, false, false, false, false, false, false, false, false, false] rfl rfl (any_of HT_.out (by kernel_rfl)) (fun _ _ _ h => h) (Or.inl ⟨by rfl, ?_⟩) ?_ ?_; rotate_left
                        · intro w'; go_simp; (with_reducible rfl)
                        rotate_left
                        · simp only [Act.put, List.setIfInBounds_toArray, List.set_cons_zero, List.set_cons_succ, i64_w, i32_w]; rfl
                        refine pure_ (i := 10) (N := some 27) (v := ?_) (a' := ?_) #[true, true, true, true, true, true, true, true, false, true, true, false, false, false, false, false, false, false, false] rfl rfl (any_of HT_.out (by kernel_rfl)) (fun _ _ _ h => h) (Or.inl ⟨by rfl, ?_⟩) ?_ ?_; rotate_left
                        · intro w'; go_simp; (with_reducible rfl)
                        rotate_left
                        · simp only [Act.put, List.setIfInBounds_toArray, List.set_cons_zero, List.set_cons_succ, i64_w, i32_w]; rfl
                        refine pure_ (i := 14) (N := some 31) (v := ?_) (a' := ?_) #[true, true, true, true, true, true, true, true, false, true, true, false, false, false, true, false, false, false, false] rfl rfl (any_of HT_.out (by kernel_rfl)) (fun _ _ _ h => h) (Or.inl ⟨by rfl, ?_⟩) ?_ ?_; rotate_left
                        · intro w'; go_simp; (with_reducible rfl)
                        rotate_left
                        · simp only [Act.put, List.setIfInBounds_toArray, List.set_cons_zero, List.set_cons_succ, i64_w, i32_w]; rfl
                        refine take_ (i := 8) (N := some 25) (v := ?_) (a' := ?_) #[true, true, true, true, true, true, true, true, true, true, true, false, false, false, true, false, false, false, false] rfl rfl (take_ofW HT_.out HW_.out (by kernel_rfl)) (fun _ _ _ h => h) (Or.inl ⟨by rfl, ?_⟩) hHeld ?_ ?_; rotate_left
                        · rintro w' ⟨s0, s1, s2, s3, s4, s5, s6⟩; go_simp; (with_reducible rfl)
                        rotate_left
                        · simp only [Act.put, List.setIfInBounds_toArray, List.set_cons_zero, List.set_cons_succ, i64_w, i32_w]; rfl
                        refine pure_ (i := 11) (N := some 28) (v := ?_) (a' := ?_) #[true, true, true, true, true, true, true, true, true, true, true, true, false, false, true, false, false, false, false] rfl rfl (any_of HT_.out (by kernel_rfl)) (fun _ _ _ h => h) (Or.inl ⟨by rfl, ?_⟩) ?_ ?_; rotate_left
                        · intro w'; go_simp; (with_reducible rfl)
                        rotate_left
                        · simp only [Act.put, List.setIfInBounds_toArray, List.set_cons_zero, List.set_cons_succ, i64_w, i32_w]; rfl
                        refine pure_ (i := 12) (N := some 29) (v := ?_) (a' := ?_) #[true, true, true, true, true, true, true, true, true, true, true, true, true, false, true, false, false, false, false] rfl rfl (any_of HT_.out (by kernel_rfl)) (fun _ _ _ h => h) (Or.inl ⟨by rfl, ?_⟩) ?_ ?_; rotate_left
                        · intro w'; go_simp; (with_reducible rfl)
                        rotate_left
                        · simp only [Act.put, List.setIfInBounds_toArray, List.set_cons_zero, List.set_cons_succ, i64_w, i32_w]; rfl
                        refine take_ (i := 13) (N := some 30) (v := ?_) (a' := ?_) #[true, true, true, true, true, true, true, true, true, true, true, true, true, true, true, false, false, false, false] rfl rfl (take_ofW HT_.out HW_.out (by kernel_rfl)) (fun _ _ _ h => h) (Or.inl ⟨by rfl, ?_⟩) hHeld ?_ ?_; rotate_left
                        · rintro w' ⟨s0, s1, s2, s3, s4, s5, s6⟩; go_simp; (with_reducible rfl)
                        rotate_left
                        · simp only [Act.put, List.setIfInBounds_toArray, List.set_cons_zero, List.set_cons_succ, i64_w, i32_w]; rfl
                        refine take_ (i := 15) (N := some 32) (v := ?_) (a' := ?_) #[true, true, true, true, true, true, true, true, true, true, true, true, true, true, true, true, false, false, false] rfl rfl (take_ofW HT_.out HW_.out (by kernel_rfl)) (fun _ _ _ h => h) (Or.inl ⟨by rfl, ?_⟩) hHeld ?_ ?_; rotate_left
                        · rintro w' ⟨s0, s1, s2, s3, s4, s5, s6⟩; go_simp; (with_reducible rfl)
                        rotate_left
                        · simp only [Act.put, List.setIfInBounds_toArray, List.set_cons_zero, List.set_cons_succ, i64_w, i32_w]; rfl
                        refine pure_ (i := 16) (N := some 33) (v := ?_) (a' := ?_) #[true, true, true, true, true, true, true, true, true, true, true, true, true, true, true, true, true, false, false] rfl rfl (any_of HT_.out (by kernel_rfl)) (fun _ _ _ h => h) (Or.inl ⟨by rfl, ?_⟩) ?_ ?_; rotate_left
                        · intro w'; go_simp; (with_reducible rfl)
                        rotate_left
                        · simp only [Act.put, List.setIfInBounds_toArray, List.set_cons_zero, List.set_cons_succ, i64_w, i32_w]; rfl
                        refine pure_ (i := 17) (N := some 34) (v := ?_) (a' := ?_) #[true, true, true, true, true, true, true, true, true, true, true, true, true, true, true, true, true, true, false] rfl rfl (any_of HT_.out (by kernel_rfl)) (fun _ _ _ h => h) (Or.inl ⟨by rfl, ?_⟩) ?_ ?_; rotate_left
                        · intro w'; go_simp; (with_reducible rfl)
                        rotate_left
                        · simp only [Act.put, List.setIfInBounds_toArray, List.set_cons_zero, List.set_cons_succ, i64_w, i32_w]; rfl
                        refine pure_ (i := 18) (N := some 35) (v := ?_) (a' := ?_) #[true, true, true, true, true, true, true, true, true, true, true, true, true, true, true, true, true, true, true] rfl rfl (any_of HT_.out (by kernel_rfl)) (fun _ _ _ h => h) (Or.inl ⟨by rfl, ?_⟩) ?_ ?_; rotate_left
                        · intro w'; go_simp; (with_reducible rfl)
                        rotate_left
                        · simp only [Act.put, List.setIfInBounds_toArray, List.set_cons_zero, List.set_cons_succ, i64_w, i32_w]; rfl
                        refine done_ (done_of HT_.out (by kernel_rfl)) ?_; (try go_wp2); go_roundg k1
                        case measure => have := HK1.out; omega
                        case rel => exact ⟨(wrap64 (x12_1 + 1)), qS, H', ⟨by have := HK1.out; omega⟩, ⟨by (with_reducible repeat (first | refine bdN ?_ _ | refine bkD ?_ | refine bkA ?_ _)); exact BK156.out⟩, ⟨qB⟩⟩
                      · rw [if_neg c16] at H; (have c16b0 : (Op.bytesLess (((rd_T37 l0_0 (ji13)).f0).toList) (((rd_T37 l0_0 x12_1).f0).toList)) = false := by simpa using c16); clear c16; obtain rfl := Option.some.inj H; have p157 : 0 ≤ (x12_1 : Int) := of_decide_eq_true qa; have q157 : x12_1 < (l0_0.length : Int) := of_decide_eq_true qa; obtain ⟨ad157, A157_1, c157_1, A157_2, c157_2, e157, hx157_0, hx157_1, hx157_2, hl157_1, hi157_1, hl157_2, hi157_2⟩ := at_T37 HR0_0.out x12_1 p157 q157; cases e157; replace hx157_0 := (HB.out.cell (World.block_lt_of_cell? w _ hx157_0)).trans hx157_0; replace hx157_1 := (HB.out.cell (World.block_lt_of_cell? w _ hx157_1)).trans hx157_1; replace hx157_2 := (HB.out.cell (World.block_lt_of_cell? w _ hx157_2)).trans hx157_2; have HR157_1 := qK hi157_1; have HC157_1 := qK hl157_1; clear hi157_1 hl157_1; have HR157_2 := qK hi157_2; have HC157_2 := qK hl157_2; clear hi157_2 hl157_2; replace p157 := eq_true p157; replace q157 := eq_true q157; (try go_wp2_with (first | ((with_reducible refine gds (N := 4) rfl ?_); refine qbx 4 #[.string (⟨#[]⟩ : ByteArray), .slice none 0 0, .slice none 0 0] 37 ?_; intro gb158 hg w23 hbox hb; have BK158 := qK (hbox); have GW158 := qK ((qW : w.heap.size ≤ gb158)); have GE158 := GW158; replace HB := qHB HB hb; have NB156_158 := qK (qlt BK156 hg); have NB158_156 := qK (qgt BK156 hg); replace BK156 := qbb BK156 hb; clear hb hbox hg; have hnb24 := NB158_156.out; have hnc24 := NB156_158.out; have hz25 := qz3 BK158.out))); have n0_ : Aside0 ((((w23.setCell ⟨gb158, 0, none⟩ (.string ((rd_T37 l0_0 x12_1).f0))).setCell ⟨gb158, 1, none⟩ (.slice A157_1 ((rd_T37 l0_0 x12_1).f1).length c157_1)).setCell ⟨gb158, 2, none⟩ (.slice A157_2 ((rd_T37 l0_0 x12_1).f2).length c157_2)).heap[gb156]? = some (.cells #[.slice (some ad157) l0_0.length c0_0] 29 (0, 0))) := ⟨by (with_reducible repeat (first | refine bdN ?_ _ | refine bkD ?_ | refine bkA ?_ _)); refine bfa ?_ NB156_158.out _; (with_reducible repeat (first | refine bdN ?_ _ | refine bkD ?_ | refine bkA ?_ _)); refine bfa ?_ NB156_158.out _; (with_reducible repeat (first | refine bdN ?_ _ | refine bkD ?_ | refine bkA ?_ _)); refine bfa ?_ NB156_158.out _; (with_reducible repeat (first | refine bdN ?_ _ | refine bkD ?_ | refine bkA ?_ _)); exact BK156.out⟩; have n1_ : Aside0 ((((w23.setCell ⟨gb158, 0, none⟩ (.string ((rd_T37 l0_0 x12_1).f0))).setCell ⟨gb158, 1, none⟩ (.slice A157_1 ((rd_T37 l0_0 x12_1).f1).length c157_1)).setCell ⟨gb158, 2, none⟩ (.slice A157_2 ((rd_T37 l0_0 x12_1).f2).length c157_2)).heap[gb158]? = some (.cells #[.string ((rd_T37 l0_0 x12_1).f0), .slice A157_1 ((rd_T37 l0_0 x12_1).f1).length c157_1, .slice A157_2 ((rd_T37 l0_0 x12_1).f2).length c157_2] 37 (0, 0))) := ⟨by (with_reducible repeat (first | refine bdN ?_ _ | refine bkD ?_ | refine bkA ?_ _)); refine bpu (cs := #[.string ((rd_T37 l0_0 x12_1).f0), .slice A157_1 ((rd_T37 l0_0 x12_1).f1).length c157_1, .slice none 0 0]) ?_ 2 _ rfl; (with_reducible repeat (first | refine bdN ?_ _ | refine bkD ?_ | refine bkA ?_ _)); refine bpu (cs := #[.string ((rd_T37 l0_0 x12_1).f0), .slice none 0 0, .slice none 0 0]) ?_ 1 _ rfl; (with_reducible repeat (first | refine bdN ?_ _ | refine bkD ?_ | refine bkA ?_ _)); refine bpu (cs := #[.string (⟨#[]⟩ : ByteArray), .slice none 0 0, .slice none 0 0]) ?_ 0 _ rfl; (with_reducible repeat (first | refine bdN ?_ _ | refine bkD ?_ | refine bkA ?_ _)); exact BK158.out⟩; have n2_ : Aside0 (Below w.heap.size w (((w23.setCell ⟨gb158, 0, none⟩ (.string ((rd_T37 l0_0 x12_1).f0))).setCell ⟨gb158, 1, none⟩ (.slice A157_1 ((rd_T37 l0_0 x12_1).f1).length c157_1)).setCell ⟨gb158, 2, none⟩ (.slice A157_2 ((rd_T37 l0_0 x12_1).f2).length c157_2))) := ⟨qB⟩; (try clear BK156); (try clear BK158); (try clear HB); generalize (((w23.setCell ⟨gb158, 0, none⟩ (.string ((rd_T37 l0_0 x12_1).f0))).setCell ⟨gb158, 1, none⟩ (.slice A157_1 ((rd_T37 l0_0 x12_1).f1).length c157_1)).setCell ⟨gb158, 2, none⟩ (.slice A157_2 ((rd_T37 l0_0 x12_1).f2).length c157_2)) = w26 at n0_ n1_ n2_ ⊢; have BK156 := n0_; have BK158 := n1_; have HB := n2_; clear n0_ n1_ n2_; replace BK156 := qK (bkD BK156.out); replace BK158 := qK (bkD BK158.out); replace HB := qK (bd1 HB.out); have p160 : 0 ≤ ((ji13) : Int) := of_decide_eq_true qa; have q160 : (ji13) < (l0_0.length : Int) := of_decide_eq_true qa; obtain ⟨ad160, A160_1, c160_1, A160_2, c160_2, e160, hx160_0, hx160_1, hx160_2, hl160_1, hi160_1, hl160_2, hi160_2⟩ := at_T37 HR0_0.out (ji13) p160 q160; have hw160_2 := hx160_2; have hw160_1 := hx160_1; have hw160_0 := hx160_0; obtain rfl : ad157 = ad160 := (by injection e160); replace hx160_0 := (HB.out.cell (World.block_lt_of_cell? w _ hx160_0)).trans hx160_0; replace hx160_1 := (HB.out.cell (World.block_lt_of_cell? w _ hx160_1)).trans hx160_1; replace hx160_2 := (HB.out.cell (World.block_lt_of_cell? w _ hx160_2)).trans hx160_2; have HR160_1 := qK hi160_1; have HC160_1 := qK hl160_1; clear hi160_1 hl160_1; have HR160_2 := qK hi160_2; have HC160_2 := qK hl160_2; clear hi160_2 hl160_2; replace p160 := eq_true p160; replace q160 := eq_true q160; refine start_ (n := 19) (S := fun w' => w'.cell? ⟨gb158, 0, none⟩ = some (.string ((rd_T37 l0_0 x12_1).f0)) ∧ w'.cell? ⟨gb158, 1, none⟩ = some (.slice A157_1 ((rd_T37 l0_0 x12_1).f1).length c157_1) ∧ w'.cell? ⟨gb158, 2, none⟩ = some (.slice A157_2 ((rd_T37 l0_0 x12_1).f2).length c157_2) ∧ w'.cell? ⟨gb156, 0, none⟩ = some (.slice (some ad157) l0_0.length c0_0) ∧ w'.cell? (ad157.add (((ji13)).toNat * 3)) = some (.string ((rd_T37 l0_0 (ji13)).f0)) ∧ w'.cell? ⟨(ad157.add (((ji13)).toNat * 3)).block, (ad157.add (((ji13)).toNat * 3)).off + 1, none⟩ = some (.slice A160_1 ((rd_T37 l0_0 (ji13)).f1).length c160_1) ∧ w'.cell? ⟨(ad157.add (((ji13)).toNat * 3)).block, (ad157.add (((ji13)).toNat * 3)).off + 2, none⟩ = some (.slice A160_2 ((rd_T37 l0_0 (ji13)).f2).length c160_2)) (ds := []) #[false, false, false, false, false, false, false, false, false, false, false, false, false, false, false, false, false, false, false] (by kernel_rfl) rfl rfl ⟨(bce BK158.out 0).trans rfl, (bce BK158.out 1).trans rfl, (bce BK158.out 2).trans rfl, (bce BK156.out 0).trans rfl, ((HB.out.cell (World.block_lt_of_cell? w _ hw160_0)).trans hw160_0), ((HB.out.cell (World.block_lt_of_cell? w _ hw160_1)).trans hw160_1), ((HB.out.cell (World.block_lt_of_cell? w _ hw160_2)).trans hw160_2)⟩ (fun hHeld => ?_); refine with_tabW spec_DbOK.tab6 spec_DbOK.bits6 (fun HT_ HW_ => ?_); generalize w26.drew = w27 at BK156 BK158 HB HR160_1 HR160_2 hx160_0 hx160_1 hx160_2 hHeld ⊢; refine take_ (i := 0) (N := some 17) (v := ?_) (a' := ?_) #[true, false, false, false, false, false, false, false, false, false, false, false, false, false, false, false, false, false, false] rfl rfl (take_ofW HT_.out HW_.out (by kernel_rfl)) (fun _ _ _ h => h) (Or.inl ⟨by rfl, ?_⟩) hHeld ?_ ?_; rotate_left
                        · rintro w' ⟨s0, s1, s2, s3, s4, s5, s6⟩; go_simp; (with_reducible rfl)
                        rotate_left
                        · simp only [Act.put, List.setIfInBounds_toArray, List.set_cons_zero, List.set_cons_succ, i64_w, i32_w]; rfl
                        refine one_ (i := 1) (N := some 18) #[true, true, false, false, false, false, false, false, false, false, false, false, false, false, false, false, false, false, false] rfl rfl (one_of HT_.out (by kernel_rfl)) (by decide) (fun K hK => ?_); refine goes_ Tryd.func10 (by kernel_rfl) rfl #[.agg #[.string ((rd_T37 l0_0 x12_1).f0), .slice A157_1 ((rd_T37 l0_0 x12_1).f1).length c157_1, .slice A157_2 ((rd_T37 l0_0 x12_1).f2).length c157_2]] (by rfl) rfl rfl qA ?_; (with_reducible refine (spec_l5TableOK.calls k1 ((rd_T37 l0_0 x12_1).f0) _ _ ((rd_T37 l0_0 x12_1).f1) _ _ ((rd_T37 l0_0 x12_1).f2) true _ ?side1 ?side2 ?side3 ?side4 A10.out).mono ?_); (case side1 => exact qC HR157_1); (case side2 => exact HC157_1.out); (case side3 => exact qC HR157_2); (case side4 => exact HC157_2.out); rintro e w28 ⟨rfl, hb⟩; refine ⟨_, rfl, ?_⟩; replace BK156 := qbb BK156 hb; replace BK158 := qbb BK158 hb; replace HB := qHB HB hb; (try clear hb); (try clear hb2); (try clear hk); (try clear hi); refine hK.out _ _ ⟨(bce BK158.out 0).trans rfl, (bce BK158.out 1).trans rfl, (bce BK158.out 2).trans rfl, (bce BK156.out 0).trans rfl, ((HB.out.cell (World.block_lt_of_cell? w _ hw160_0)).trans hw160_0), ((HB.out.cell (World.block_lt_of_cell? w _ hw160_1)).trans hw160_1), ((HB.out.cell (World.block_lt_of_cell? w _ hw160_2)).trans hw160_2)⟩ (fun hHeld => ?_); clear hK K; refine norm_ (a' := ?_) ?_ ?_; rotate_left
                        · show Act.put _ (some 18) _ = _; simp only [Act.put, List.setIfInBounds_toArray, List.set_cons_zero, List.set_cons_succ, i64_w, i32_w]; rfl
                        refine pure_ (i := 2) (N := some 19) (v := ?_) (a' := ?_) #[true, true, true, false, false, false, false, false, false, false, false, false, false, false, false, false, false, false, false] rfl rfl (any_of HT_.out (by kernel_rfl)) (fun _ _ _ h => h) (Or.inl ⟨by rfl, ?_⟩) ?_ ?_; rotate_left
                        · intro w'; go_simp; (with_reducible rfl)
                        rotate_left
                        · simp only [Act.put, List.setIfInBounds_toArray, List.set_cons_zero, List.set_cons_succ, i64_w, i32_w]; rfl
                        refine pure_ (i := 3) (N := some 20) (v := ?_) (a' := ?_) #[true, true, true, true, false, false, false, false, false, false, false, false, false, false, false, false, false, false, false] rfl rfl (any_of HT_.out (by kernel_rfl)) (fun _ _ _ h => h) (Or.inl ⟨by rfl, ?_⟩) ?_ ?_; rotate_left
                        · intro w'; go_simp; (with_reducible rfl)
                        rotate_left
                        · simp only [Act.put, List.setIfInBounds_toArray, List.set_cons_zero, List.set_cons_succ, i64_w, i32_w]; rfl
                        refine pure_ (i := 4) (N := some 21) (v := ?_) (a' := ?_) #[true, true, true, true, true, false, false, false, false, false, false, false, false, false, false, false, false, false, false] rfl rfl (any_of HT_.out (by kernel_rfl)) (fun _ _ _ h => h) (Or.inl ⟨by rfl, ?_⟩) ?_ ?_; rotate_left
                        · intro w'; go_simp; (with_reducible rfl)
                        rotate_left
                        · simp only [Act.put, List.setIfInBounds_toArray, List.set_cons_zero, List.set_cons_succ, i64_w, i32_w]; rfl
                        refine pure_ (i := 5) (N := some 22) (v := ?_) (a' := ?_) #[true, true, true, true, true, true, false, false, false, false, false, false, false, false, false, false, false, false, false] rfl rfl (any_of HT_.out (by kernel_rfl)) (fun _ _ _ h => h) (Or.inl ⟨by rfl, ?_⟩) ?_ ?_; rotate_left
                        · intro w'; go_simp; (with_reducible rfl)
                        rotate_left
                        · simp only [Act.put, List.setIfInBounds_toArray, List.set_cons_zero, List.set_cons_succ, i64_w, i32_w]; rfl
                        refine pure_ (i := 6) (N := some 23) (v := ?_) (a' := ?_) #[true, true, true, true, true, true, true, false, false, false, false, false, false, false, false, false, false, false, false] rfl rfl (any_of HT_.out (by kernel_rfl)) (fun _ _ _ h => h) (Or.inl ⟨by rfl, ?_⟩) ?_ ?_; rotate_left
                        · intro w'; go_simp; (with_reducible rfl)
                        rotate_left
                        · simp only [Act.put, List.setIfInBounds_toArray, List.set_cons_zero, List.set_cons_succ, i64_w, i32_w]; rfl
                        refine pure_ (i := 7) (N := some 24) (v := ?_) (a' := ?_) #[true, true, true, true, true, true, true, true, false, false, false, false, false, false, false, false, false, false, false] rfl rfl (any_of HT_.out (by kernel_rfl)) (fun _ _ _ h => h) (Or.inl ⟨by rfl, ?_⟩) ?_ ?_; rotate_left
                        · intro w'; go_simp; (with_reducible rfl)
                        rotate_left
                        · simp only [Act.put, List.setIfInBounds_toArray, List.set_cons_zero, List.set_cons_succ, i64_w, i32_w]; rfl
                        refine pure_ (i := 9) (N := some 26) (v := ?_) (a' := ?_) #[true, true, true, true, true, true, true, true, false, true, false, false, false, false, false, false, false, false, false] rfl rfl (any_of HT_.out (by kernel_rfl)) (fun _ _ _ h => h) (Or.inl ⟨by rfl, ?_⟩) ?_ ?_; rotate_left
                        · intro w'; go_simp; (with_reducible rfl)
                        rotate_left
                        · simp only [Act.put, List.setIfInBounds_toArray, List.set_cons_zero, List.set_cons_succ, i64_w, i32_w]; rfl
                        refine pure_ (i := 10) (N := some 27) (v := ?_) (a' := ?_) #[true, true, true, true, true, true, true, true, false, true, true, false, false, false, false, false, false, false, false] rfl rfl (any_of HT_.out (by kernel_rfl)) (fun _ _ _ h => h) (Or.inl ⟨by rfl, ?_⟩) ?_ ?_; rotate_left
                        · intro w'; go_simp; (with_reducible rfl)
                        rotate_left
                        · simp only [Act.put, List.setIfInBounds_toArray, List.set_cons_zero, List.set_cons_succ, i64_w, i32_w]; rfl
                        refine pure_ (i := 14) (N := some 31) (v := ?_) (a' := ?_) #[true, true, true, true, true, true, true, true, false, true, true, false, false, false, true, false, false, false, false] rfl rfl (any_of HT_.out (by kernel_rfl)) (fun _ _ _ h => h) (Or.inl ⟨by rfl, ?_⟩) ?_ ?_; rotate_left
                        · intro w'; go_simp; (with_reducible rfl)
                        rotate_left
                        · simp only [Act.put, List.setIfInBounds_toArray, List.set_cons_zero, List.set_cons_succ, i64_w, i32_w]; rfl
                        refine take_ (i := 8) (N := some 25) (v := ?_) (a' := ?_) #[true, true, true, true, true, true, true, true, true, true, true, false, false, false, true, false, false, false, false] rfl rfl (take_ofW HT_.out HW_.out (by kernel_rfl)) (fun _ _ _ h => h) (Or.inl ⟨by rfl, ?_⟩) hHeld ?_ ?_; rotate_left
                        · rintro w' ⟨s0, s1, s2, s3, s4, s5, s6⟩; go_simp; (with_reducible rfl)
                        rotate_left
                        · simp only [Act.put, List.setIfInBounds_toArray, List.set_cons_zero, List.set_cons_succ, i64_w, i32_w]; rfl
                        refine pure_ (i := 11) (N := some 28) (v := ?_) (a' := ?_) #[true, true, true, true, true, true, true, true, true, true, true, true, false, false, true, false, false, false, false] rfl rfl (any_of HT_.out (by kernel_rfl)) (fun _ _ _ h => h) (Or.inl ⟨by rfl, ?_⟩) ?_ ?_; rotate_left
                        · intro w'; go_simp; (with_reducible rfl)
                        rotate_left
                        · simp only [Act.put, List.setIfInBounds_toArray, List.set_cons_zero, List.set_cons_succ, i64_w, i32_w]; rfl
                        refine pure_ (i := 12) (N := some 29) (v := ?_) (a' := ?_) #[true, true, true, true, true, true, true, true, true, true, true, true, true, false, true, false, false, false, false] rfl rfl (any_of HT_.out (by kernel_rfl)) (fun _ _ _ h => h) (Or.inl ⟨by rfl, ?_⟩) ?_ ?_; rotate_left
                        · intro w'; go_simp; (with_reducible rfl)
                        rotate_left
                        · simp only [Act.put, List.setIfInBounds_toArray, List.set_cons_zero, List.set_cons_succ, i64_w, i32_w]; rfl
                        refine take_ (i := 13) (N := some 30) (v := ?_) (a' := ?_) #[true, true, true, true, true, true, true, true, true, true, true, true, true, true, true, false, false, false, false] rfl rfl (take_ofW HT_.out HW_.out (by kernel_rfl)) (fun _ _ _ h => h) (Or.inl ⟨by rfl, ?_⟩) hHeld ?_ ?_; rotate_left
                        · rintro w' ⟨s0, s1, s2, s3, s4, s5, s6⟩; go_simp; (with_reducible rfl)
                        rotate_left
                        · simp only [Act.put, List.setIfInBounds_toArray, List.set_cons_zero, List.set_cons_succ, i64_w, i32_w]; rfl
                        refine take_ (i := 15) (N := some 32) (v := ?_) (a' := ?_) #[true, true, true, true, true, true, true, true, true, true, true, true, true, true, true, true, false, false, false] rfl rfl (take_ofW HT_.out HW_.out (by kernel_rfl)) (fun _ _ _ h => h) (Or.inl ⟨by rfl, ?_⟩) hHeld ?_ ?_; rotate_left
                        · rintro w' ⟨s0, s1, s2, s3, s4, s5, s6⟩; go_simp; (with_reducible rfl)
                        rotate_left
                        · simp only [Act.put, List.setIfInBounds_toArray, List.set_cons_zero, List.set_cons_succ, i64_w, i32_w]; rfl
                        refine pure_ (i := 16) (N := some 33) (v := ?_) (a' := ?_) #[true, true, true, true, true, true, true, true, true, true, true, true, true, true, true, true, true, false, false] rfl rfl (any_of HT_.out (by kernel_rfl)) (fun _ _ _ h => h) (Or.inl ⟨by rfl, ?_⟩) ?_ ?_; rotate_left
                        · intro w'; go_simp; (with_reducible rfl)
                        rotate_left
                        · simp only [Act.put, List.setIfInBounds_toArray, List.set_cons_zero, List.set_cons_succ, i64_w, i32_w]; rfl
                        refine pure_ (i := 17) (N := some 34) (v := ?_) (a' := ?_) #[true, true, true, true, true, true, true, true, true, true, true, true, true, true, true, true, true, true, false] rfl rfl (any_of HT_.out (by kernel_rfl)) (fun _ _ _ h => h) (Or.inl ⟨by rfl, ?_⟩) ?_ ?_; rotate_left
                        · intro w'; go_simp; (with_reducible rfl)
                        rotate_left
                        · simp only [Act.put, List.setIfInBounds_toArray, List.set_cons_zero, List.set_cons_succ, i64_w, i32_w]; rfl
                        refine pure_ (i := 18) (N := some 35) (v := ?_) (a' := ?_) #[true, true, true, true, true, true, true, true, true, true, true, true, true, true, true, true, true, true, true] rfl rfl (any_of HT_.out (by kernel_rfl)) (fun _ _ _ h => h) (Or.inl ⟨by rfl, ?_⟩) ?_ ?_; rotate_left
                        · intro w'; go_simp; (with_reducible rfl)
                        rotate_left
                        · simp only [Act.put, List.setIfInBounds_toArray, List.set_cons_zero, List.set_cons_succ, i64_w, i32_w]; rfl
                        refine done_ (done_of HT_.out (by kernel_rfl)) ?_; (try go_wp2); go_ret; exact ⟨by first | rfl | (simp [eWn, eWs] <;> rfl) | (simp only [← hji13]; first | rfl | (simp [eWn, eWs] <;> rfl)) | (simp [*, eWn, eWs] <;> rfl), qB⟩
                    · rw [if_neg c15] at H; exact absurd H (by simp)
                  · rw [if_neg c14] at H; exact absurd H (by simp)
                · rw [if_neg c12] at H; have c12b0 : decide (0 < x12_1) = false := decide_eq_false c12; clear c12; have H' := qK H; clear H; have p157 : 0 ≤ (x12_1 : Int) := of_decide_eq_true qa; have q157 : x12_1 < (l0_0.length : Int) := of_decide_eq_true qa; obtain ⟨ad157, A157_1, c157_1, A157_2, c157_2, e157, hx157_0, hx157_1, hx157_2, hl157_1, hi157_1, hl157_2, hi157_2⟩ := at_T37 HR0_0.out x12_1 p157 q157; cases e157; replace hx157_0 := (HB.out.cell (World.block_lt_of_cell? w _ hx157_0)).trans hx157_0; replace hx157_1 := (HB.out.cell (World.block_lt_of_cell? w _ hx157_1)).trans hx157_1; replace hx157_2 := (HB.out.cell (World.block_lt_of_cell? w _ hx157_2)).trans hx157_2; have HR157_1 := qK hi157_1; have HC157_1 := qK hl157_1; clear hi157_1 hl157_1; have HR157_2 := qK hi157_2; have HC157_2 := qK hl157_2; clear hi157_2 hl157_2; replace p157 := eq_true p157; replace q157 := eq_true q157; (try go_wp2_with (first | ((with_reducible refine gds (N := 4) rfl ?_); refine qbx 4 #[.string (⟨#[]⟩ : ByteArray), .slice none 0 0, .slice none 0 0] 37 ?_; intro gb158 hg w29 hbox hb; have BK158 := qK (hbox); have GW158 := qK ((qW : w.heap.size ≤ gb158)); have GE158 := GW158; replace HB := qHB HB hb; have NB156_158 := qK (qlt BK156 hg); have NB158_156 := qK (qgt BK156 hg); replace BK156 := qbb BK156 hb; clear hb hbox hg; have hnb30 := NB158_156.out; have hnc30 := NB156_158.out; have hz31 := qz3 BK158.out))); have n0_ : Aside0 ((((w29.setCell ⟨gb158, 0, none⟩ (.string ((rd_T37 l0_0 x12_1).f0))).setCell ⟨gb158, 1, none⟩ (.slice A157_1 ((rd_T37 l0_0 x12_1).f1).length c157_1)).setCell ⟨gb158, 2, none⟩ (.slice A157_2 ((rd_T37 l0_0 x12_1).f2).length c157_2)).heap[gb156]? = some (.cells #[.slice (some ad157) l0_0.length c0_0] 29 (0, 0))) := ⟨by (with_reducible repeat (first | refine bdN ?_ _ | refine bkD ?_ | refine bkA ?_ _)); refine bfa ?_ NB156_158.out _; (with_reducible repeat (first | refine bdN ?_ _ | refine bkD ?_ | refine bkA ?_ _)); refine bfa ?_ NB156_158.out _; (with_reducible repeat (first | refine bdN ?_ _ | refine bkD ?_ | refine bkA ?_ _)); refine bfa ?_ NB156_158.out _; (with_reducible repeat (first | refine bdN ?_ _ | refine bkD ?_ | refine bkA ?_ _)); exact BK156.out⟩; have n1_ : Aside0 ((((w29.setCell ⟨gb158, 0, none⟩ (.string ((rd_T37 l0_0 x12_1).f0))).setCell ⟨gb158, 1, none⟩ (.slice A157_1 ((rd_T37 l0_0 x12_1).f1).length c157_1)).setCell ⟨gb158, 2, none⟩ (.slice A157_2 ((rd_T37 l0_0 x12_1).f2).length c157_2)).heap[gb158]? = some (.cells #[.string ((rd_T37 l0_0 x12_1).f0), .slice A157_1 ((rd_T37 l0_0 x12_1).f1).length c157_1, .slice A157_2 ((rd_T37 l0_0 x12_1).f2).length c157_2] 37 (0, 0))) := ⟨by (with_reducible repeat (first | refine bdN ?_ _ | refine bkD ?_ | refine bkA ?_ _)); refine bpu (cs := #[.string ((rd_T37 l0_0 x12_1).f0), .slice A157_1 ((rd_T37 l0_0 x12_1).f1).length c157_1, .slice none 0 0]) ?_ 2 _ rfl; (with_reducible repeat (first | refine bdN ?_ _ | refine bkD ?_ | refine bkA ?_ _)); refine bpu (cs := #[.string ((rd_T37 l0_0 x12_1).f0), .slice none 0 0, .slice none 0 0]) ?_ 1 _ rfl; (with_reducible repeat (first | refine bdN ?_ _ | refine bkD ?_ | refine bkA ?_ _)); refine bpu (cs := #[.string (⟨#[]⟩ : ByteArray), .slice none 0 0, .slice none 0 0]) ?_ 0 _ rfl; (with_reducible repeat (first | refine bdN ?_ _ | refine bkD ?_ | refine bkA ?_ _)); exact BK158.out⟩; have n2_ : Aside0 (Below w.heap.size w (((w29.setCell ⟨gb158, 0, none⟩ (.string ((rd_T37 l0_0 x12_1).f0))).setCell ⟨gb158, 1, none⟩ (.slice A157_1 ((rd_T37 l0_0 x12_1).f1).length c157_1)).setCell ⟨gb158, 2, none⟩ (.slice A157_2 ((rd_T37 l0_0 x12_1).f2).length c157_2))) := ⟨qB⟩; (try clear BK156); (try clear BK158); (try clear HB); generalize (((w29.setCell ⟨gb158, 0, none⟩ (.string ((rd_T37 l0_0 x12_1).f0))).setCell ⟨gb158, 1, none⟩ (.slice A157_1 ((rd_T37 l0_0 x12_1).f1).length c157_1)).setCell ⟨gb158, 2, none⟩ (.slice A157_2 ((rd_T37 l0_0 x12_1).f2).length c157_2)) = w32 at n0_ n1_ n2_ ⊢; have BK156 := n0_; have BK158 := n1_; have HB := n2_; clear n0_ n1_ n2_; replace BK156 := qK (bkD BK156.out); replace BK158 := qK (bkD BK158.out); replace HB := qK (bd1 HB.out); refine start_ (n := 19) (S := fun w' => w'.cell? ⟨gb158, 0, none⟩ = some (.string ((rd_T37 l0_0 x12_1).f0)) ∧ w'.cell? ⟨gb158, 1, none⟩ = some (.slice A157_1 ((rd_T37 l0_0 x12_1).f1).length c157_1) ∧ w'.cell? ⟨gb158, 2, none⟩ = some (.slice A157_2 ((rd_T37 l0_0 x12_1).f2).length c157_2)) (ds := []) #[false, false, false, false, false, false, false, false, false, false, false, false, false, false, false, false, false, false, false] (by kernel_rfl) rfl rfl (qy3 BK158.out) (fun hHeld => ?_); refine with_tabW spec_DbOK.tab6 spec_DbOK.bits6 (fun HT_ HW_ => ?_); generalize w32.drew = w33 at BK156 BK158 HB hHeld ⊢; refine take_ (i := 0) (N := some 17) (v := ?_) (a' := ?_) #[true, false, false, false, false, false, false, false, false, false, false, false, false, false, false, false, false, false, false] rfl rfl (take_ofW HT_.out HW_.out (by kernel_rfl)) (fun _ _ _ h => h) (Or.inl ⟨by rfl, ?_⟩) hHeld ?_ ?_; rotate_left
                  · rintro w' ⟨s0, s1, s2⟩; go_simp; (with_reducible rfl)
                  rotate_left
                  · simp only [Act.put, List.setIfInBounds_toArray, List.set_cons_zero, List.set_cons_succ, i64_w, i32_w]; rfl
                  refine one_ (i := 1) (N := some 18) #[true, true, false, false, false, false, false, false, false, false, false, false, false, false, false, false, false, false, false] rfl rfl (one_of HT_.out (by kernel_rfl)) (by decide) (fun K hK => ?_); refine goes_ Tryd.func10 (by kernel_rfl) rfl #[.agg #[.string ((rd_T37 l0_0 x12_1).f0), .slice A157_1 ((rd_T37 l0_0 x12_1).f1).length c157_1, .slice A157_2 ((rd_T37 l0_0 x12_1).f2).length c157_2]] (by rfl) rfl rfl qA ?_; (with_reducible refine (spec_l5TableOK.calls k1 ((rd_T37 l0_0 x12_1).f0) _ _ ((rd_T37 l0_0 x12_1).f1) _ _ ((rd_T37 l0_0 x12_1).f2) true _ ?side1 ?side2 ?side3 ?side4 A10.out).mono ?_); (case side1 => exact qC HR157_1); (case side2 => exact HC157_1.out); (case side3 => exact qC HR157_2); (case side4 => exact HC157_2.out); rintro e w34 ⟨rfl, hb⟩; refine ⟨_, rfl, ?_⟩; replace BK156 := qbb BK156 hb; replace BK158 := qbb BK158 hb; replace HB := qHB HB hb; (try clear hb); (try clear hb2); (try clear hk); (try clear hi); refine hK.out _ _ (qy3 BK158.out) (fun hHeld => ?_); clear hK K; refine norm_ (a' := ?_) ?_ ?_; rotate_left
                  · show Act.put _ (some 18) _ = _; simp only [Act.put, List.setIfInBounds_toArray, List.set_cons_zero, List.set_cons_succ, i64_w, i32_w]; rfl
                  refine pure_ (i := 2) (N := some 19) (v := ?_) (a' := ?_) #[true, true, true, false, false, false, false, false, false, false, false, false, false, false, false, false, false, false, false] rfl rfl (any_of HT_.out (by kernel_rfl)) (fun _ _ _ h => h) (Or.inl ⟨by rfl, ?_⟩) ?_ ?_; rotate_left
                  · intro w'; go_simp; (with_reducible rfl)
                  rotate_left
                  · simp only [Act.put, List.setIfInBounds_toArray, List.set_cons_zero, List.set_cons_succ, i64_w, i32_w]; rfl
                  refine pure_ (i := 3) (N := some 20) (v := ?_) (a' := ?_) #[true, true, true, true, false, false, false, false, false, false, false, false, false, false, false, false, false, false, false] rfl rfl (any_of HT_.out (by kernel_rfl)) (fun _ _ _ h => h) (Or.inl ⟨by rfl, ?_⟩) ?_ ?_; rotate_left
                  · intro w'; go_simp; (with_reducible rfl)
                  rotate_left
                  · simp only [Act.put, List.setIfInBounds_toArray, List.set_cons_zero, List.set_cons_succ, i64_w, i32_w]; rfl
                  refine pure_ (i := 4) (N := some 21) (v := ?_) (a' := ?_) #[true, true, true, true, true, false, false, false, false, false, false, false, false, false, false, false, false, false, false] rfl rfl (any_of HT_.out (by kernel_rfl)) (fun _ _ _ h => h) (Or.inl ⟨by rfl, ?_⟩) ?_ ?_; rotate_left
                  · intro w'; go_simp; (with_reducible rfl)
                  rotate_left
                  · simp only [Act.put, List.setIfInBounds_toArray, List.set_cons_zero, List.set_cons_succ, i64_w, i32_w]; rfl
                  refine pure_ (i := 5) (N := some 22) (v := ?_) (a' := ?_) #[true, true, true, true, true, true, false, false, false, false, false, false, false, false, false, false, false, false, false] rfl rfl (any_of HT_.out (by kernel_rfl)) (fun _ _ _ h => h) (Or.inl ⟨by rfl, ?_⟩) ?_ ?_; rotate_left
                  · intro w'; go_simp; (with_reducible rfl)
                  rotate_left
                  · simp only [Act.put, List.setIfInBounds_toArray, List.set_cons_zero, List.set_cons_succ, i64_w, i32_w]; rfl
                  refine pure_ (i := 6) (N := some 23) (v := ?_) (a' := ?_) #[true, true, true, true, true, true, true, false, false, false, false, false, false, false, false, false, false, false, false] rfl rfl (any_of HT_.out (by kernel_rfl)) (fun _ _ _ h => h) (Or.inl ⟨by rfl, ?_⟩) ?_ ?_; rotate_left
                  · intro w'; go_simp; (with_reducible rfl)
                  rotate_left
                  · simp only [Act.put, List.setIfInBounds_toArray, List.set_cons_zero, List.set_cons_succ, i64_w, i32_w]; rfl
                  refine pure_ (i := 7) (N := some 24) (v := undef) (a' := ?_) #[true, true, true, true, true, true, true, true, false, false, false, false, false, false, false, false, false, false, false] rfl rfl (any_of HT_.out (by kernel_rfl)) (fun _ _ _ h => h) (Or.inr ⟨by rfl, rfl⟩) ?_ ?_; rotate_left
                  · simp only [Act.put, List.setIfInBounds_toArray, List.set_cons_zero, List.set_cons_succ, i64_w, i32_w]; rfl
                  refine pure_ (i := 8) (N := some 25) (v := undef) (a' := ?_) #[true, true, true, true, true, true, true, true, true, false, false, false, false, false, false, false, false, false, false] rfl rfl (any_of HT_.out (by kernel_rfl)) (fun _ _ _ h => h) (Or.inr ⟨by rfl, rfl⟩) ?_ ?_; rotate_left
                  · simp only [Act.put, List.setIfInBounds_toArray, List.set_cons_zero, List.set_cons_succ, i64_w, i32_w]; rfl
                  refine pure_ (i := 9) (N := some 26) (v := undef) (a' := ?_) #[true, true, true, true, true, true, true, true, true, true, false, false, false, false, false, false, false, false, false] rfl rfl (any_of HT_.out (by kernel_rfl)) (fun _ _ _ h => h) (Or.inr ⟨by rfl, rfl⟩) ?_ ?_; rotate_left
                  · simp only [Act.put, List.setIfInBounds_toArray, List.set_cons_zero, List.set_cons_succ, i64_w, i32_w]; rfl
                  refine pure_ (i := 10) (N := some 27) (v := undef) (a' := ?_) #[true, true, true, true, true, true, true, true, true, true, true, false, false, false, false, false, false, false, false] rfl rfl (any_of HT_.out (by kernel_rfl)) (fun _ _ _ h => h) (Or.inr ⟨by rfl, rfl⟩) ?_ ?_; rotate_left
                  · simp only [Act.put, List.setIfInBounds_toArray, List.set_cons_zero, List.set_cons_succ, i64_w, i32_w]; rfl
                  refine pure_ (i := 11) (N := some 28) (v := undef) (a' := ?_) #[true, true, true, true, true, true, true, true, true, true, true, true, false, false, false, false, false, false, false] rfl rfl (any_of HT_.out (by kernel_rfl)) (fun _ _ _ h => h) (Or.inr ⟨by rfl, rfl⟩) ?_ ?_; rotate_left
                  · simp only [Act.put, List.setIfInBounds_toArray, List.set_cons_zero, List.set_cons_succ, i64_w, i32_w]; rfl
                  refine pure_ (i := 12) (N := some 29) (v := undef) (a' := ?_) #[true, true, true, true, true, true, true, true, true, true, true, true, true, false, false, false, false, false, false] rfl rfl (any_of HT_.out (by kernel_rfl)) (fun _ _ _ h => h) (Or.inr ⟨by rfl, rfl⟩) ?_ ?_; rotate_left
                  · simp only [Act.put, List.setIfInBounds_toArray, List.set_cons_zero, List.set_cons_succ, i64_w, i32_w]; rfl
                  refine pure_ (i := 13) (N := some 30) (v := undef) (a' := ?_) #[true, true, true, true, true, true, true, true, true, true, true, true, true, true, false, false, false, false, false] rfl rfl (any_of HT_.out (by kernel_rfl)) (fun _ _ _ h => h) (Or.inr ⟨by rfl, rfl⟩) ?_ ?_; rotate_left
                  · simp only [Act.put, List.setIfInBounds_toArray, List.set_cons_zero, List.set_cons_succ, i64_w, i32_w]; rfl
                  refine pure_ (i := 14) (N := some 31) (v := undef) (a' := ?_) #[true, true, true, true, true, true, true, true, true, true, true, true, true, true, true, false, false, false, false] rfl rfl (any_of HT_.out (by kernel_rfl)) (fun _ _ _ h => h) (Or.inr ⟨by rfl, rfl⟩) ?_ ?_; rotate_left
                  · simp only [Act.put, List.setIfInBounds_toArray, List.set_cons_zero, List.set_cons_succ, i64_w, i32_w]; rfl
                  refine pure_ (i := 15) (N := some 32) (v := undef) (a' := ?_) #[true, true, true, true, true, true, true, true, true, true, true, true, true, true, true, true, false, false, false] rfl rfl (any_of HT_.out (by kernel_rfl)) (fun _ _ _ h => h) (Or.inr ⟨by rfl, rfl⟩) ?_ ?_; rotate_left
                  · simp only [Act.put, List.setIfInBounds_toArray, List.set_cons_zero, List.set_cons_succ, i64_w, i32_w]; rfl
                  refine pure_ (i := 16) (N := some 33) (v := undef) (a' := ?_) #[true, true, true, true, true, true, true, true, true, true, true, true, true, true, true, true, true, false, false] rfl rfl (any_of HT_.out (by kernel_rfl)) (fun _ _ _ h => h) (Or.inr ⟨by rfl, rfl⟩) ?_ ?_; rotate_left
                  · simp only [Act.put, List.setIfInBounds_toArray, List.set_cons_zero, List.set_cons_succ, i64_w, i32_w]; rfl
                  refine pure_ (i := 17) (N := some 34) (v := ?_) (a' := ?_) #[true, true, true, true, true, true, true, true, true, true, true, true, true, true, true, true, true, true, false] rfl rfl (any_of HT_.out (by kernel_rfl)) (fun _ _ _ h => h) (Or.inl ⟨by rfl, ?_⟩) ?_ ?_; rotate_left
                  · intro w'; go_simp; (with_reducible rfl)
                  rotate_left
                  · simp only [Act.put, List.setIfInBounds_toArray, List.set_cons_zero, List.set_cons_succ, i64_w, i32_w]; rfl
                  refine pure_ (i := 18) (N := some 35) (v := ?_) (a' := ?_) #[true, true, true, true, true, true, true, true, true, true, true, true, true, true, true, true, true, true, true] rfl rfl (any_of HT_.out (by kernel_rfl)) (fun _ _ _ h => h) (Or.inl ⟨by rfl, ?_⟩) ?_ ?_; rotate_left
                  · intro w'; go_simp; (with_reducible rfl)
                  rotate_left
                  · simp only [Act.put, List.setIfInBounds_toArray, List.set_cons_zero, List.set_cons_succ, i64_w, i32_w]; rfl
                  refine done_ (done_of HT_.out (by kernel_rfl)) ?_; (try go_wp2); go_roundg k1
                  case measure => have := HK1.out; omega
                  case rel => exact ⟨(wrap64 (x12_1 + 1)), qS, H', ⟨by have := HK1.out; omega⟩, ⟨by (with_reducible repeat (first | refine bdN ?_ _ | refine bkD ?_ | refine bkA ?_ _)); exact BK156.out⟩, ⟨qB⟩⟩
              · replace c11 := Bool.eq_false_iff.mpr c11; subst c11; rw [if_neg qff] at H; obtain rfl := Option.some.inj H; have p157 : 0 ≤ (x12_1 : Int) := of_decide_eq_true qa; have q157 : x12_1 < (l0_0.length : Int) := of_decide_eq_true qa; obtain ⟨ad157, A157_1, c157_1, A157_2, c157_2, e157, hx157_0, hx157_1, hx157_2, hl157_1, hi157_1, hl157_2, hi157_2⟩ := at_T37 HR0_0.out x12_1 p157 q157; cases e157; replace hx157_0 := (HB.out.cell (World.block_lt_of_cell? w _ hx157_0)).trans hx157_0; replace hx157_1 := (HB.out.cell (World.block_lt_of_cell? w _ hx157_1)).trans hx157_1; replace hx157_2 := (HB.out.cell (World.block_lt_of_cell? w _ hx157_2)).trans hx157_2; have HR157_1 := qK hi157_1; have HC157_1 := qK hl157_1; clear hi157_1 hl157_1; have HR157_2 := qK hi157_2; have HC157_2 := qK hl157_2; clear hi157_2 hl157_2; replace p157 := eq_true p157; replace q157 := eq_true q157; (try go_wp2_with (first | ((with_reducible refine gds (N := 4) rfl ?_); refine qbx 4 #[.string (⟨#[]⟩ : ByteArray), .slice none 0 0, .slice none 0 0] 37 ?_; intro gb158 hg w35 hbox hb; have BK158 := qK (hbox); have GW158 := qK ((qW : w.heap.size ≤ gb158)); have GE158 := GW158; replace HB := qHB HB hb; have NB156_158 := qK (qlt BK156 hg); have NB158_156 := qK (qgt BK156 hg); replace BK156 := qbb BK156 hb; clear hb hbox hg; have hnb36 := NB158_156.out; have hnc36 := NB156_158.out; have hz37 := qz3 BK158.out))); have n0_ : Aside0 ((((w35.setCell ⟨gb158, 0, none⟩ (.string ((rd_T37 l0_0 x12_1).f0))).setCell ⟨gb158, 1, none⟩ (.slice A157_1 ((rd_T37 l0_0 x12_1).f1).length c157_1)).setCell ⟨gb158, 2, none⟩ (.slice A157_2 ((rd_T37 l0_0 x12_1).f2).length c157_2)).heap[gb156]? = some (.cells #[.slice (some ad157) l0_0.length c0_0] 29 (0, 0))) := ⟨by (with_reducible repeat (first | refine bdN ?_ _ | refine bkD ?_ | refine bkA ?_ _)); refine bfa ?_ NB156_158.out _; (with_reducible repeat (first | refine bdN ?_ _ | refine bkD ?_ | refine bkA ?_ _)); refine bfa ?_ NB156_158.out _; (with_reducible repeat (first | refine bdN ?_ _ | refine bkD ?_ | refine bkA ?_ _)); refine bfa ?_ NB156_158.out _; (with_reducible repeat (first | refine bdN ?_ _ | refine bkD ?_ | refine bkA ?_ _)); exact BK156.out⟩; have n1_ : Aside0 ((((w35.setCell ⟨gb158, 0, none⟩ (.string ((rd_T37 l0_0 x12_1).f0))).setCell ⟨gb158, 1, none⟩ (.slice A157_1 ((rd_T37 l0_0 x12_1).f1).length c157_1)).setCell ⟨gb158, 2, none⟩ (.slice A157_2 ((rd_T37 l0_0 x12_1).f2).length c157_2)).heap[gb158]? = some (.cells #[.string ((rd_T37 l0_0 x12_1).f0), .slice A157_1 ((rd_T37 l0_0 x12_1).f1).length c157_1, .slice A157_2 ((rd_T37 l0_0 x12_1).f2).length c157_2] 37 (0, 0))) := ⟨by (with_reducible repeat (first | refine bdN ?_ _ | refine bkD ?_ | refine bkA ?_ _)); refine bpu (cs := #[.string ((rd_T37 l0_0 x12_1).f0), .slice A157_1 ((rd_T37 l0_0 x12_1).f1).length c157_1, .slice none 0 0]) ?_ 2 _ rfl; (with_reducible repeat (first | refine bdN ?_ _ | refine bkD ?_ | refine bkA ?_ _)); refine bpu (cs := #[.string ((rd_T37 l0_0 x12_1).f0), .slice none 0 0, .slice none 0 0]) ?_ 1 _ rfl; (with_reducible repeat (first | refine bdN ?_ _ | refine bkD ?_ | refine bkA ?_ _)); refine bpu (cs := #[.string (⟨#[]⟩ : ByteArray), .slice none 0 0, .slice none 0 0]) ?_ 0 _ rfl; (with_reducible repeat (first | refine bdN ?_ _ | refine bkD ?_ | refine bkA ?_ _)); exact BK158.out⟩; have n2_ : Aside0 (Below w.heap.size w (((w35.setCell ⟨gb158, 0, none⟩ (.string ((rd_T37 l0_0 x12_1).f0))).setCell ⟨gb158, 1, none⟩ (.slice A157_1 ((rd_T37 l0_0 x12_1).f1).length c157_1)).setCell ⟨gb158, 2, none⟩ (.slice A157_2 ((rd_T37 l0_0 x12_1).f2).length c157_2))) := ⟨qB⟩; (try clear BK156); (try clear BK158); (try clear HB); generalize (((w35.setCell ⟨gb158, 0, none⟩ (.string ((rd_T37 l0_0 x12_1).f0))).setCell ⟨gb158, 1, none⟩ (.slice A157_1 ((rd_T37 l0_0 x12_1).f1).length c157_1)).setCell ⟨gb158, 2, none⟩ (.slice A157_2 ((rd_T37 l0_0 x12_1).f2).length c157_2)) = w38 at n0_ n1_ n2_ ⊢; have BK156 := n0_; have BK158 := n1_; have HB := n2_; clear n0_ n1_ n2_; replace BK156 := qK (bkD BK156.out); replace BK158 := qK (bkD BK158.out); replace HB := qK (bd1 HB.out); refine start_ (n := 19) (S := fun w' => w'.cell? ⟨gb158, 0, none⟩ = some (.string ((rd_T37 l0_0 x12_1).f0)) ∧ w'.cell? ⟨gb158, 1, none⟩ = some (.slice A157_1 ((rd_T37 l0_0 x12_1).f1).length c157_1) ∧ w'.cell? ⟨gb158, 2, none⟩ = some (.slice A157_2 ((rd_T37 l0_0 x12_1).f2).length c157_2)) (ds := []) #[false, false, false, false, false, false, false, false, false, false, false, false, false, false, false, false, false, false, false] (by kernel_rfl) rfl rfl (qy3 BK158.out) (fun hHeld => ?_); refine with_tabW spec_DbOK.tab6 spec_DbOK.bits6 (fun HT_ HW_ => ?_); generalize w38.drew = w39 at BK156 BK158 HB hHeld ⊢; refine take_ (i := 0) (N := some 17) (v := ?_) (a' := ?_) #[true, false, false, false, false, false, false, false, false, false, false, false, false, false, false, false, false, false, false] rfl rfl (take_ofW HT_.out HW_.out (by kernel_rfl)) (fun _ _ _ h => h) (Or.inl ⟨by rfl, ?_⟩) hHeld ?_ ?_; rotate_left
                · rintro w' ⟨s0, s1, s2⟩; go_simp; (with_reducible rfl)
                rotate_left
                · simp only [Act.put, List.setIfInBounds_toArray, List.set_cons_zero, List.set_cons_succ, i64_w, i32_w]; rfl
                refine one_ (i := 1) (N := some 18) #[true, true, false, false, false, false, false, false, false, false, false, false, false, false, false, false, false, false, false] rfl rfl (one_of HT_.out (by kernel_rfl)) (by decide) (fun K hK => ?_); refine goes_ Tryd.func10 (by kernel_rfl) rfl #[.agg #[.string ((rd_T37 l0_0 x12_1).f0), .slice A157_1 ((rd_T37 l0_0 x12_1).f1).length c157_1, .slice A157_2 ((rd_T37 l0_0 x12_1).f2).length c157_2]] (by rfl) rfl rfl qA ?_; (with_reducible refine (spec_l5TableOK.calls k1 ((rd_T37 l0_0 x12_1).f0) _ _ ((rd_T37 l0_0 x12_1).f1) _ _ ((rd_T37 l0_0 x12_1).f2) false _ ?side1 ?side2 ?side3 ?side4 A10.out).mono ?_); (case side1 => exact qC HR157_1); (case side2 => exact HC157_1.out); (case side3 => exact qC HR157_2); (case side4 => exact HC157_2.out); rintro e w40 ⟨rfl, hb⟩; refine ⟨_, rfl, ?_⟩; replace BK156 := qbb BK156 hb; replace BK158 := qbb BK158 hb; replace HB := qHB HB hb; (try clear hb); (try clear hb2); (try clear hk); (try clear hi); refine hK.out _ _ (qy3 BK158.out) (fun hHeld => ?_); clear hK K; refine norm_ (a' := ?_) ?_ ?_; rotate_left
                · show Act.put _ (some 18) _ = _; simp only [Act.put, List.setIfInBounds_toArray, List.set_cons_zero, List.set_cons_succ, i64_w, i32_w]; rfl
                refine pure_ (i := 2) (N := some 19) (v := ?_) (a' := ?_) #[true, true, true, false, false, false, false, false, false, false, false, false, false, false, false, false, false, false, false] rfl rfl (any_of HT_.out (by kernel_rfl)) (fun _ _ _ h => h) (Or.inl ⟨by rfl, ?_⟩) ?_ ?_; rotate_left
                · intro w'; go_simp; (with_reducible rfl)
                rotate_left
                · simp only [Act.put, List.setIfInBounds_toArray, List.set_cons_zero, List.set_cons_succ, i64_w, i32_w]; rfl
                refine pure_ (i := 3) (N := some 20) (v := ?_) (a' := ?_) #[true, true, true, true, false, false, false, false, false, false, false, false, false, false, false, false, false, false, false] rfl rfl (any_of HT_.out (by kernel_rfl)) (fun _ _ _ h => h) (Or.inl ⟨by rfl, ?_⟩) ?_ ?_; rotate_left
                · intro w'; go_simp; (with_reducible rfl)
                rotate_left
                · simp only [Act.put, List.setIfInBounds_toArray, List.set_cons_zero, List.set_cons_succ, i64_w, i32_w]; rfl
                refine pure_ (i := 4) (N := some 21) (v := undef) (a' := ?_) #[true, true, true, true, true, false, false, false, false, false, false, false, false, false, false, false, false, false, false] rfl rfl (any_of HT_.out (by kernel_rfl)) (fun _ _ _ h => h) (Or.inr ⟨by rfl, rfl⟩) ?_ ?_; rotate_left
                · simp only [Act.put, List.setIfInBounds_toArray, List.set_cons_zero, List.set_cons_succ, i64_w, i32_w]; rfl
                refine pure_ (i := 5) (N := some 22) (v := undef) (a' := ?_) #[true, true, true, true, true, true, false, false, false, false, false, false, false, false, false, false, false, false, false] rfl rfl (any_of HT_.out (by kernel_rfl)) (fun _ _ _ h => h) (Or.inr ⟨by rfl, rfl⟩) ?_ ?_; rotate_left
                · simp only [Act.put, List.setIfInBounds_toArray, List.set_cons_zero, List.set_cons_succ, i64_w, i32_w]; rfl
                refine pure_ (i := 6) (N := some 23) (v := undef) (a' := ?_) #[true, true, true, true, true, true, true, false, false, false, false, false, false, false, false, false, false, false, false] rfl rfl (any_of HT_.out (by kernel_rfl)) (fun _ _ _ h => h) (Or.inr ⟨by rfl, rfl⟩) ?_ ?_; rotate_left
                · simp only [Act.put, List.setIfInBounds_toArray, List.set_cons_zero, List.set_cons_succ, i64_w, i32_w]; rfl
                refine pure_ (i := 7) (N := some 24) (v := undef) (a' := ?_) #[true, true, true, true, true, true, true, true, false, false, false, false, false, false, false, false, false, false, false] rfl rfl (any_of HT_.out (by kernel_rfl)) (fun _ _ _ h => h) (Or.inr ⟨by rfl, rfl⟩) ?_ ?_; rotate_left
                · simp only [Act.put, List.setIfInBounds_toArray, List.set_cons_zero, List.set_cons_succ, i64_w, i32_w]; rfl
                refine pure_ (i := 8) (N := some 25) (v := undef) (a' := ?_) #[true, true, true, true, true, true, true, true, true, false, false, false, false, false, false, false, false, false, false] rfl rfl (any_of HT_.out (by kernel_rfl)) (fun _ _ _ h => h) (Or.inr ⟨by rfl, rfl⟩) ?_ ?_; rotate_left
                · simp only [Act.put, List.setIfInBounds_toArray, List.set_cons_zero, List.set_cons_succ, i64_w, i32_w]; rfl
                refine pure_ (i := 9) (N := some 26) (v := undef) (a' := ?_) #[true, true, true, true, true, true, true, true, true, true, false, false, false, false, false, false, false, false, false] rfl rfl (any_of HT_.out (by kernel_rfl)) (fun _ _ _ h => h) (Or.inr ⟨by rfl, rfl⟩) ?_ ?_; rotate_left
                · simp only [Act.put, List.setIfInBounds_toArray, List.set_cons_zero, List.set_cons_succ, i64_w, i32_w]; rfl
                refine pure_ (i := 10) (N := some 27) (v := undef) (a' := ?_) #[true, true, true, true, true, true, true, true, true, true, true, false, false, false, false, false, false, false, false] rfl rfl (any_of HT_.out (by kernel_rfl)) (fun _ _ _ h => h) (Or.inr ⟨by rfl, rfl⟩) ?_ ?_; rotate_left
                · simp only [Act.put, List.setIfInBounds_toArray, List.set_cons_zero, List.set_cons_succ, i64_w, i32_w]; rfl
                refine pure_ (i := 11) (N := some 28) (v := undef) (a' := ?_) #[true, true, true, true, true, true, true, true, true, true, true, true, false, false, false, false, false, false, false] rfl rfl (any_of HT_.out (by kernel_rfl)) (fun _ _ _ h => h) (Or.inr ⟨by rfl, rfl⟩) ?_ ?_; rotate_left
                · simp only [Act.put, List.setIfInBounds_toArray, List.set_cons_zero, List.set_cons_succ, i64_w, i32_w]; rfl
                refine pure_ (i := 12) (N := some 29) (v := undef) (a' := ?_) #[true, true, true, true, true, true, true, true, true, true, true, true, true, false, false, false, false, false, false] rfl rfl (any_of HT_.out (by kernel_rfl)) (fun _ _ _ h => h) (Or.inr ⟨by rfl, rfl⟩) ?_ ?_; rotate_left
                · simp only [Act.put, List.setIfInBounds_toArray, List.set_cons_zero, List.set_cons_succ, i64_w, i32_w]; rfl
                refine pure_ (i := 13) (N := some 30) (v := undef) (a' := ?_) #[true, true, true, true, true, true, true, true, true, true, true, true, true, true, false, false, false, false, false] rfl rfl (any_of HT_.out (by kernel_rfl)) (fun _ _ _ h => h) (Or.inr ⟨by rfl, rfl⟩) ?_ ?_; rotate_left
                · simp only [Act.put, List.setIfInBounds_toArray, List.set_cons_zero, List.set_cons_succ, i64_w, i32_w]; rfl
                refine pure_ (i := 14) (N := some 31) (v := undef) (a' := ?_) #[true, true, true, true, true, true, true, true, true, true, true, true, true, true, true, false, false, false, false] rfl rfl (any_of HT_.out (by kernel_rfl)) (fun _ _ _ h => h) (Or.inr ⟨by rfl, rfl⟩) ?_ ?_; rotate_left
                · simp only [Act.put, List.setIfInBounds_toArray, List.set_cons_zero, List.set_cons_succ, i64_w, i32_w]; rfl
                refine pure_ (i := 15) (N := some 32) (v := undef) (a' := ?_) #[true, true, true, true, true, true, true, true, true, true, true, true, true, true, true, true, false, false, false] rfl rfl (any_of HT_.out (by kernel_rfl)) (fun _ _ _ h => h) (Or.inr ⟨by rfl, rfl⟩) ?_ ?_; rotate_left
                · simp only [Act.put, List.setIfInBounds_toArray, List.set_cons_zero, List.set_cons_succ, i64_w, i32_w]; rfl
                refine pure_ (i := 16) (N := some 33) (v := undef) (a' := ?_) #[true, true, true, true, true, true, true, true, true, true, true, true, true, true, true, true, true, false, false] rfl rfl (any_of HT_.out (by kernel_rfl)) (fun _ _ _ h => h) (Or.inr ⟨by rfl, rfl⟩) ?_ ?_; rotate_left
                · simp only [Act.put, List.setIfInBounds_toArray, List.set_cons_zero, List.set_cons_succ, i64_w, i32_w]; rfl
                refine pure_ (i := 17) (N := some 34) (v := undef) (a' := ?_) #[true, true, true, true, true, true, true, true, true, true, true, true, true, true, true, true, true, true, false] rfl rfl (any_of HT_.out (by kernel_rfl)) (fun _ _ _ h => h) (Or.inr ⟨by rfl, rfl⟩) ?_ ?_; rotate_left
                · simp only [Act.put, List.setIfInBounds_toArray, List.set_cons_zero, List.set_cons_succ, i64_w, i32_w]; rfl
                refine pure_ (i := 18) (N := some 35) (v := ?_) (a' := ?_) #[true, true, true, true, true, true, true, true, true, true, true, true, true, true, true, true, true, true, true] rfl rfl (any_of HT_.out (by kernel_rfl)) (fun _ _ _ h => h) (Or.inl ⟨by rfl, ?_⟩) ?_ ?_; rotate_left
                · intro w'; go_simp; (with_reducible rfl)
                rotate_left
                · simp only [Act.put, List.setIfInBounds_toArray, List.set_cons_zero, List.set_cons_succ, i64_w, i32_w]; rfl
                refine done_ (done_of HT_.out (by kernel_rfl)) ?_; (try go_wp2); go_ret; exact ⟨qR, qB⟩
            · rw [if_neg c9] at H; exact absurd H (by simp)
          · rw [if_neg c8] at H; exact absurd H (by simp)
        · rw [if_neg c7] at H; have c7b0 : decide (x12_1 < (l0_0.length : Int)) = false := decide_eq_false c7; clear c7; obtain rfl := Option.some.inj H; go_wp2; go_ret; exact ⟨qR, qB⟩
end Go.Proofs.YtoebfjfhdodakaaDoor.L
end
section
namespace Go.Proofs.YtoebfjfhdodakaaDoor
open Go.RowKit Go.Proofs.YtoebfjfhdodakaaDoorW.PrintWords
/-- Do the bytes of s from i on, so many, all answer yes? -/
def allFrom (p : Int → Bool) (s : ByteArray) : Nat → Nat → Bool
  | 0, _ => true
  | d + 1, i => p (bt s i) && allFrom p s d (i + 1)
/-- A byte inside a name. -/
def wordByte (c : Int) : Bool := (decide (97 ≤ c) && decide (c ≤ 122)) || (decide (48 ≤ c) && decide (c ≤ 57)) || c == 95
/-- A byte of a text. -/
def textByte (c : Int) : Bool := decide (32 ≤ c) && decide (c ≤ 126)
end Go.Proofs.YtoebfjfhdodakaaDoor
end
section
set_option linter.unusedVariables false
set_option linter.unusedSimpArgs false
namespace Go.Proofs.YtoebfjfhdodakaaDoor.L
open Go.RowKit Go.Maps Go.ChangeMaps Go.WideMaps Go.Proofs.YtoebfjfhdodakaaDoor Go.Proofs.YtoebfjfhdodakaaDoorW.PrintWords Go.Proofs.YtoebfjfhdodakaaDoorW.PrintLast Go.Proofs.YtoebfjfhdodakaaDoorW.PrintMore
abbrev DCol := S52
def seenIn (l : List DCol) (s : ByteArray) : Bool := l.any (fun x => decide (x.f0 = s))
/-- Whether a later column has the name of one before it. -/
def dupGo : List DCol → List DCol → Bool
  | _, [] => false
  | a, x :: r => if seenIn a x.f0 = true then true else dupGo (a ++ [x]) r
theorem dup_lawS : Keyed Tryd.prog 9 := string_keyed Tryd.underlying9
theorem dup_zero (w : World) : (zeroValue 4).run Tryd.prog w = .ok (.bool false) w := by kernel_rfl
/-- The map holds just the names of these columns. -/
def dupMap (w : World) (b n : Nat) (l : List DCol) : Prop :=
  ∃ D : DataW Unit, w.ownsMap Tryd.prog 9 (plainElem Tryd.prog 4) b n D ∧ IsMap D ∧ ∀ s : ByteArray, D.atKey (.string s.data.toList) (.lit (.bool false)) = .lit (.bool (seenIn l s))
theorem data_inj {s t : ByteArray} (h : s.data.toList = t.data.toList) : s = t := by
  obtain ⟨⟨a⟩⟩ := s
  obtain ⟨⟨b⟩⟩ := t
  exact congrArg (fun x => (⟨⟨x⟩⟩ : ByteArray)) h
theorem isKeyStr (s : ByteArray) : WideAt.IsKeyLit (.string s.data.toList) := by first | trivial | simp [WideAt.IsKeyLit]
theorem plainBool_inv {P : Program} {e : TypeId} (he : P.underlying e = some .bool) {v : Value} {c : Bool} {ps : List MemPlace} (h : plainElem (H := Unit) P e v = some (.lit (.bool c), ps)) : v = .bool c := by
  unfold plainElem at h
  rw [he] at h
  cases v <;> simp at h
  rw [h.1]
theorem dupMap_lookup {w : World} {b n : Nat} {l : List DCol} (h : dupMap w b n l) (s : ByteArray) (hs : s.size ≤ maxLen) :
    (Instr.lookup 74 (.map (some b)) (.string s) false).run Tryd.prog w = .ok (.bool (seenIn l s)) w := by
  obtain ⟨D, hown, hm, hat⟩ := h
  obtain ⟨v, ps, hrun, hv⟩ := hown.lookup dup_lawS Tryd.underlying74 (dup_zero w) (plainElem_bool Tryd.underlying4 false) (keyOf_string_mk Tryd.underlying9 hs)
  rw [hat s] at hv
  rw [hrun, plainBool_inv Tryd.underlying4 hv]
theorem dupMap_kept {w w' : World} {b n : Nat} {l : List DCol} (h : dupMap w b n l) (hh : w'.heap[b]? = w.heap[b]?) : dupMap w' b n l := by
  obtain ⟨D, ⟨es, clock, hb, hr⟩, hm⟩ := h
  exact ⟨D, ⟨es, clock, hh.trans hb, hr⟩, hm⟩
theorem dupMap_lt {w : World} {b n : Nat} {l : List DCol} (h : dupMap w b n l) : b < w.heap.size := by
  obtain ⟨D, hown, _⟩ := h
  exact hown.lt
theorem dupMap_set {w : World} {b n : Nat} {l : List DCol} (h : dupMap w b n l) (a : Addr) (ha : b ≠ a.block) (u : Value) : dupMap (w.setCell a u) b n l := by
  obtain ⟨D, hown, hr⟩ := h
  exact ⟨D, hown.setCell ha u, hr⟩
theorem dupMap_made (w : World) : dupMap (w.alloc (.map #[] 0)) w.heap.size 0 [] :=
  ⟨.map [], World.ownsMap_made w _ _ _, isMap_empty, fun s => rfl⟩
theorem dupMap_put {D : DataW Unit} {l : List DCol} (hm : IsMap D) (hat : ∀ s : ByteArray, D.atKey (.string s.data.toList) (.lit (.bool false)) = .lit (.bool (seenIn l s))) (x : DCol) :
    IsMap (D.put (.string x.f0.data.toList) (.lit (.bool true))) ∧ ∀ s : ByteArray, (D.put (.string x.f0.data.toList) (.lit (.bool true))).atKey (.string s.data.toList) (.lit (.bool false)) = .lit (.bool (seenIn (l ++ [x]) s)) := by
  refine ⟨hm.put _ _, fun s => ?_⟩
  unfold seenIn
  rw [List.any_append]
  by_cases e : x.f0 = s
  · subst e
    rw [atKey_put_same hm (isKeyStr _)]
    simp
  · rw [atKey_put_other (fun h => e (data_inj (Lit.string.inj h)).symm), hat s]
    unfold seenIn
    simp [e]
theorem wpList_lookup_dup (w : World) {ops : Array Oper} {rest : List Oper} {o : Oper} {a : Act} {Q : Exit → Act → World → Prop} (hg : o.guard = none) (m x : Operand) (hop : o.op = Op.lookup 74 m x false)
    (b n : Nat) (l : List DCol) (hm : a.eval m = .map (some b)) (s : ByteArray) (hx : a.eval x = .string s) (hown : dupMap w b n l) (hs : s.size ≤ maxLen)
    (hK : wpList Tryd.prog ops Q rest (a.put o.dst (.bool (seenIn l s))) w) : wpList Tryd.prog ops Q (o :: rest) a w := by
  refine wpList_plain hg fun K' hK' => ?_
  have hrun := dupMap_lookup hown s hs
  unfold Oper.wp
  simp [execOp, hop, hm, hx, hrun, Result.andThen]
  exact hK' _ _ hK
theorem wpList_update_dup (w : World) {ops : Array Oper} {rest : List Oper} {o : Oper} {a : Act} {Q : Exit → Act → World → Prop} (hg : o.guard = none) (m x v : Operand) (hop : o.op = Op.mapUpdate 74 m x v)
    (b n : Nat) (l : List DCol) (hm : a.eval m = .map (some b)) (y : DCol) (hx : a.eval x = .string y.f0) (hv : a.eval v = .bool true) (hown : dupMap w b n l) (hn : n < maxLen) (hs : y.f0.size ≤ maxLen)
    (hK : ∀ w', dupMap w' b (n + 1) (l ++ [y]) → w.grownBy w' (some b) → wpList Tryd.prog ops Q rest (a.put o.dst undef) w') : wpList Tryd.prog ops Q (o :: rest) a w := by
  obtain ⟨D, hown, hm2, hat⟩ := hown
  exact wpList_mapUpdate_own w hg m x v _ hop _ _ dup_lawS Tryd.underlying74 _ b n D hm hown hn _ _ _ hx hv (keyOf_string_mk Tryd.underlying9 hs) _ [] (plainElem_bool Tryd.underlying4 true) (fun w' h1 h2 => hK w' ⟨_, h1, dupMap_put hm2 hat y⟩ h2)
set_option maxHeartbeats 1600000 in
set_option maxRecDepth 100000 in
theorem doubled_any (A : Option Addr) (c : Nat) (l : List DCol) (r : Bool) (w : World) (hr : Kd.C k52 w A l.length l) (hc : l.length ≤ c) (hl : l.length ≤ 2000000) (hs : ∀ x ∈ l, x.f0.size ≤ maxLen) (h : dupGo [] l = r) :
    Calls Tryd.prog 24 #[.slice A l.length c] w fun e w' => e = .returned (.bool r) ∧ Below w.heap.size w w' := by
  have hu := Tryd.underlying52
  have HR0 := Aside0.mk hr
  clear hr hc
  have HB := Aside0.mk ((Below.refl w.heap.size w).alloc (Nat.le_refl _) (.map #[] 0))
  have HM := Aside0.mk (dupMap_made w)
  have HD := Aside0.mk h
  have HL := Aside0.mk hl
  have HS := Aside0.mk hs
  have hmm := @run_makeMap Tryd.prog
  clear h hl hs
  go_enter Tryd.func24, Tryd.ntmps24
  go_wp2
  clear hmm
  go_loopg [9] l.length (fun kq v9 w' => ∃ i : Nat, v9 = .int .i64 (i : Int) ∧ Aside0 (kq + i = l.length) ∧ Aside0 (dupGo (l.take i) (l.drop i) = r) ∧ Aside0 (dupMap w' w.heap.size i (l.take i)) ∧ Aside0 (Below w.heap.size w w'))
  case atStart => exact ⟨0, rfl, ⟨by omega⟩, ⟨by rw [List.take_zero, List.drop_zero]; exact HD.out⟩, ⟨by rw [List.take_zero]; exact HM.out⟩, HB⟩
  case round =>
    clear HD HM HB
    obtain ⟨i, rfl, HI, HD, HM, HB⟩ := hrel
    cases gk with
    | zero =>
      have c3b0 : decide ((i : Int) < (l.length : Int)) = false := decide_eq_false (by have := HI.out; omega)
      have hr0 : r = false := by
        have h1 := HD.out
        rw [List.drop_eq_nil_of_le (by have := HI.out; omega)] at h1
        exact h1.symm
      subst hr0
      have c3b1 : decide (i < l.length) = false := decide_eq_false (by have := HI.out; omega)
      go_wp2
      go_ret
      exact ⟨rfl, HB.out⟩
    | succ k1 =>
      have hil : i < l.length := by have := HI.out; omega
      have c3b0 : decide ((i : Int) < (l.length : Int)) = true := decide_eq_true (by omega)
      have c4b0 : decide (0 ≤ (i : Int)) = true := decide_eq_true (by omega)
      have p128 : 0 ≤ (i : Int) := by omega
      have q128 : (i : Int) < (l.length : Int) := by omega
      obtain ⟨ad128, e128, hx128_0, hx128_1⟩ := at_T52 HR0.out i p128 q128
      obtain ⟨y, hy⟩ : ∃ y, rd_T52 l i = y := ⟨_, rfl⟩
      rw [hy] at hx128_0 hx128_1
      simp only [Int.toNat_natCast] at hx128_0 hx128_1
      have hyl : l.drop i = y :: l.drop (i + 1) := by
        rw [List.drop_eq_getElem_cons hil, ← hy]
        unfold rd_T52
        rw [Int.toNat_natCast, List.getD_eq_getElem?_getD, List.getElem?_eq_getElem hil]; rfl
      have hyt : l.take (i + 1) = l.take i ++ [y] := by
        rw [List.take_add_one, ← hy]
        unfold rd_T52
        rw [Int.toNat_natCast, List.getD_eq_getElem?_getD, List.getElem?_eq_getElem hil]
        rfl
      have hys : y.f0.size ≤ maxLen := HS.out y (by
        have : y ∈ l.drop i := by rw [hyl]; exact List.mem_cons_self
        exact List.mem_of_mem_drop this)
      have HY := Aside0.mk hyt
      have HYS := Aside0.mk hys
      have HD2 := HD.out
      rw [hyl, dupGo] at HD2
      clear HD hyl hyt hys
      cases e128
      replace hx128_0 := (HB.out.cell (World.block_lt_of_cell? w _ hx128_0)).trans hx128_0
      replace hx128_1 := (HB.out.cell (World.block_lt_of_cell? w _ hx128_1)).trans hx128_1
      replace p128 := eq_true p128
      replace q128 := eq_true q128
      cases hsn : seenIn (l.take i) y.f0 with
      | true =>
        rw [hsn, if_pos rfl] at HD2
        subst HD2
        have HSN := Aside0.mk hsn
        clear hsn
        go_wp2_with (first | ((with_reducible refine gds (N := 5) rfl ?_); refine bxe ?hg (N := 5) ?hd (cs := #[.string (⟨#[]⟩ : ByteArray), .int .i64 0]) (t := 52) ?hr ?_; (case hd => rfl); (case hg => rfl); (case hr => first | (go_simp; done) | (go_simp; rfl)); intro gb129 hg w7 hbox hb; have n0_ := Aside0.mk (bst (by repeat (first | (with_reducible first | exact HB.out | apply bal | apply pbd | apply bd1) | exact HB.out)) hb); have n1_ := Aside0.mk (hbox); have n2_ := Aside0.mk ((by rw [hg]; exact (bsz (by repeat (first | (with_reducible first | exact HB.out | apply bal | apply pbd | apply bd1) | exact HB.out))) : w.heap.size ≤ gb129)); have n3_ := Aside0.mk (dupMap_kept HM.out (hb.block _ (dupMap_lt HM.out))); have n4_ := Aside0.mk (show w.heap.size < gb129 from by rw [hg]; exact dupMap_lt HM.out); clear HB HM; have HB := n0_; have BK129 := n1_; have GE129 := n2_; have HM := n3_; have NE := n4_; clear n0_ n1_ n2_ n3_ n4_; clear hb hbox hg; have hcz8_0 : w7.cell? ⟨gb129, 0, none⟩ = some (.string (⟨#[]⟩ : ByteArray)) := (bce BK129.out 0).trans rfl; have hcz8_1 : w7.cell? ⟨gb129, 1, none⟩ = some (.int .i64 0) := (bce BK129.out 1).trans rfl; have hfz8_0 := bfz BK129.out 0; have hfz8_1 := bfz BK129.out 1) | (at_lookup; refine wpList_lookup_dup _ rfl _ _ rfl w.heap.size i (l.take i) rfl y.f0 rfl (dupMap_set (dupMap_set HM.out _ (Nat.ne_of_lt NE.out) _) _ (Nat.ne_of_lt NE.out) _) HYS.out ?_; rw [HSN.out]))
        go_ret
        exact ⟨rfl, by repeat (first | (with_reducible first | exact HB.out | apply bal | apply pbd | apply bd1 | refine bse ?_ GE129.out) | exact HB.out)⟩
      | false =>
        rw [hsn, if_neg (by decide), ← HY.out] at HD2
        have HSN := Aside0.mk hsn
        have HD := Aside0.mk HD2
        clear hsn HD2
        go_wp2_with (first | ((with_reducible refine gds (N := 5) rfl ?_); refine bxe ?hg (N := 5) ?hd (cs := #[.string (⟨#[]⟩ : ByteArray), .int .i64 0]) (t := 52) ?hr ?_; (case hd => rfl); (case hg => rfl); (case hr => first | (go_simp; done) | (go_simp; rfl)); intro gb129 hg w7 hbox hb; have n0_ := Aside0.mk (bst (by repeat (first | (with_reducible first | exact HB.out | apply bal | apply pbd | apply bd1) | exact HB.out)) hb); have n1_ := Aside0.mk (hbox); have n2_ := Aside0.mk ((by rw [hg]; exact (bsz (by repeat (first | (with_reducible first | exact HB.out | apply bal | apply pbd | apply bd1) | exact HB.out))) : w.heap.size ≤ gb129)); have n3_ := Aside0.mk (dupMap_kept HM.out (hb.block _ (dupMap_lt HM.out))); have n4_ := Aside0.mk (show w.heap.size < gb129 from by rw [hg]; exact dupMap_lt HM.out); clear HB HM; have HB := n0_; have BK129 := n1_; have GE129 := n2_; have HM := n3_; have NE := n4_; clear n0_ n1_ n2_ n3_ n4_; clear hb hbox hg; have hcz8_0 : w7.cell? ⟨gb129, 0, none⟩ = some (.string (⟨#[]⟩ : ByteArray)) := (bce BK129.out 0).trans rfl; have hcz8_1 : w7.cell? ⟨gb129, 1, none⟩ = some (.int .i64 0) := (bce BK129.out 1).trans rfl; have hfz8_0 := bfz BK129.out 0; have hfz8_1 := bfz BK129.out 1) | (at_lookup; refine wpList_lookup_dup _ rfl _ _ rfl w.heap.size i (l.take i) rfl y.f0 rfl (dupMap_set (dupMap_set HM.out _ (Nat.ne_of_lt NE.out) _) _ (Nat.ne_of_lt NE.out) _) HYS.out ?_; rw [HSN.out]) | (at_mapUpdate; refine wpList_update_dup _ rfl _ _ _ rfl w.heap.size i (l.take i) rfl y rfl rfl (dupMap_set (dupMap_set HM.out _ (Nat.ne_of_lt NE.out) _) _ (Nat.ne_of_lt NE.out) _) (by have := HL.out; have := HI.out; unfold maxLen; omega) HYS.out ?_; intro w1 HM1 hgr))
        go_roundg k1
        case measure => have := HI.out; omega
        case rel => exact ⟨i + 1, by have e_ : wrap64 ((i : Int) + 1) = ((i + 1 : Nat) : Int) := (by have := HL.out; unfold wrap64; omega); rw [e_], ⟨by have := HI.out; omega⟩, HD, ⟨by rw [HY.out]; exact HM1⟩, ⟨Below.grown (by repeat (first | (with_reducible first | exact HB.out | apply bal | apply pbd | apply bd1 | refine bse ?_ GE129.out) | exact HB.out)) hgr (Nat.le_of_lt (dupMap_lt (dupMap_set (dupMap_set HM.out _ (Nat.ne_of_lt NE.out) (.string y.f0)) ⟨gb129, 1, none⟩ (Nat.ne_of_lt NE.out) (.int .i64 y.f1)))) (fun j hj => by cases hj; exact Nat.le_refl _)⟩⟩
end Go.Proofs.YtoebfjfhdodakaaDoor.L
end
