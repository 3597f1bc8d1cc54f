/- The texts that the proof of the law FnBurst rests on, part 6: printed functions with their contracts, words, plain laws; the last part ends in the statement itself. No condition but those that each theorem states. -/
import Derived.Test.YtoebfjfhdodakaaKFnBurst5
set_option linter.unusedVariables false
set_option linter.unusedSimpArgs false
section
namespace Go.Proofs.Ytoebfjfhdodakaa.L
open Go.RowKit Go.Proofs.YtoebfjfhdodakaaW.PrintWords Go.Proofs.YtoebfjfhdodakaaW.PrintLast Go.Proofs.YtoebfjfhdodakaaW.PrintMore
attribute [local go_sem] max2_int min2_int max_two min_two max_three min_three max_four min_four
set_option linter.unusedVariables false
set_option linter.unusedSimpArgs false
mutual
def spec_l7DrawEntries.l0 : Nat → Int → List ByteArray → List (S100) → Int → Int → List Int → Int → Int → Option (List ByteArray × Int × Int)
  | 0, _, _, _, _, _, _, _, _ => none
  | k + 1, x1, x5, x11, x12, x13, x1000, x1001, x1002 => if x13 < x12 then (if 0 ≤ x13 then (if x13 < (x11.length : Int) then ((spec_EncodeStm.f k ((rd_T100 x11 x13).f0) ((rd_T100 x11 x13).f1) ((rd_T100 x11 x13).f2) ((rd_T100 x11 x13).f3) ((rd_T100 x11 x13).f4) ((rd_T100 x11 x13).f5) ((rd_T100 x11 x13).f6) ((rd_T100 x11 x13).f7)).bind fun t408 => (if x5.length < 8796093022208 then (spec_l7DrawEntries.l0 k x1 (x5 ++ [t408]) x11 x12 (wrap64 (x13 + 1)) x1000 x1001 x1002) else (none))) else (none)) else (none)) else ((spec_l1Cur_pick.f x1000 x1001 x1002 x1).bind fun bt412 => (spec_l7DrawEntries.l1 k x5 (wrap64 (2 + bt412.1)) 0 x1000 bt412.2.1 bt412.2.2))
def spec_l7DrawEntries.l1 : Nat → List ByteArray → Int → Int → List Int → Int → Int → Option (List ByteArray × Int × Int)
  | 0, _, _, _, _, _, _ => none
  | k + 1, x5, x8, x9, x1000, x1001, x1002 => if x9 < x8 then ((spec_l5DrawStm.f k x1000 x1001 x1002).bind fun bt415 => ((spec_EncodeStm.f k bt415.1 bt415.2.1 bt415.2.2.1 bt415.2.2.2.1 bt415.2.2.2.2.1 bt415.2.2.2.2.2.1 bt415.2.2.2.2.2.2.1 bt415.2.2.2.2.2.2.2.1).bind fun t435 => (if x5.length < 8796093022208 then (spec_l7DrawEntries.l1 k (x5 ++ [t435]) x8 (wrap64 (x9 + 1)) x1000 bt415.2.2.2.2.2.2.2.2.1 bt415.2.2.2.2.2.2.2.2.2) else (none)))) else (some (x5, x1001, x1002))
end
def spec_l7DrawEntries.f (k : Nat) (s0_0 : List Int) (s0_1 : Int) (s0_2 : Int) (a1 : Int) : Option (List ByteArray × Int × Int) := (spec_l7Head.f).bind fun t403 => (spec_l7DrawEntries.l0 k a1 (([] : List ByteArray)) t403 (t403.length : Int) 0 s0_0 s0_1 s0_2)
theorem spec_l7DrawEntries.mono_l : ∀ k, (∀ y0 y1 y2 y3 y4 y5 y6 y7, LeO (spec_l7DrawEntries.l0 k y0 y1 y2 y3 y4 y5 y6 y7) (spec_l7DrawEntries.l0 (k + 1) y0 y1 y2 y3 y4 y5 y6 y7)) ∧ (∀ y0 y1 y2 y3 y4 y5, LeO (spec_l7DrawEntries.l1 k y0 y1 y2 y3 y4 y5) (spec_l7DrawEntries.l1 (k + 1) y0 y1 y2 y3 y4 y5))
  | 0 => ⟨fun _ _ _ _ _ _ _ _ r h => by simp [spec_l7DrawEntries.l0] at h, fun _ _ _ _ _ _ r h => by simp [spec_l7DrawEntries.l1] at h⟩
  | k + 1 => by
    obtain ⟨ih0, ih1⟩ := spec_l7DrawEntries.mono_l k
    refine ⟨?_, ?_⟩
    · intro y0 y1 y2 y3 y4 y5 y6 y7
      unfold spec_l7DrawEntries.l0
      repeat' first
      | (with_reducible exact ih0 _ _ _ _ _ _ _ _)
      | (with_reducible exact ih1 _ _ _ _ _ _)
      | (with_reducible exact spec_EncodeStm.mono _ _ _ _ _ _ _ _ _)
      | (with_reducible exact spec_l5DrawStm.mono _ _ _ _)
      | (with_reducible exact LeO.refl _)
      | (with_reducible exact LeO.none _)
      | (with_reducible refine LeO.ite ?_ ?_)
      | (with_reducible refine LeO.bind ?_ (fun _ => ?_))
      | exact ih0 _ _ _ _ _ _ _ _
      | exact ih1 _ _ _ _ _ _
      | exact spec_EncodeStm.mono _ _ _ _ _ _ _ _ _
      | exact spec_l5DrawStm.mono _ _ _ _
      | exact LeO.none _
      | refine LeO.ite ?_ ?_
      | refine LeO.bind ?_ (fun _ => ?_)
    · intro y0 y1 y2 y3 y4 y5
      unfold spec_l7DrawEntries.l1
      repeat' first
      | (with_reducible exact ih0 _ _ _ _ _ _ _ _)
      | (with_reducible exact ih1 _ _ _ _ _ _)
      | (with_reducible exact spec_EncodeStm.mono _ _ _ _ _ _ _ _ _)
      | (with_reducible exact spec_l5DrawStm.mono _ _ _ _)
      | (with_reducible exact LeO.refl _)
      | (with_reducible exact LeO.none _)
      | (with_reducible refine LeO.ite ?_ ?_)
      | (with_reducible refine LeO.bind ?_ (fun _ => ?_))
      | exact ih0 _ _ _ _ _ _ _ _
      | exact ih1 _ _ _ _ _ _
      | exact spec_EncodeStm.mono _ _ _ _ _ _ _ _ _
      | exact spec_l5DrawStm.mono _ _ _ _
      | exact LeO.none _
      | refine LeO.ite ?_ ?_
      | refine LeO.bind ?_ (fun _ => ?_)
theorem spec_l7DrawEntries.mono : ∀ a0 a1 a2 a3 k, LeO (spec_l7DrawEntries.f k a0 a1 a2 a3) (spec_l7DrawEntries.f (k + 1) a0 a1 a2 a3) := by
  intro a0 a1 a2 a3 k
  obtain ⟨ih0, ih1⟩ := spec_l7DrawEntries.mono_l k
  unfold spec_l7DrawEntries.f
  repeat' first
      | (with_reducible exact ih0 _ _ _ _ _ _ _ _)
      | (with_reducible exact ih1 _ _ _ _ _ _)
      | (with_reducible exact spec_EncodeStm.mono _ _ _ _ _ _ _ _ _)
      | (with_reducible exact spec_l5DrawStm.mono _ _ _ _)
      | (with_reducible exact LeO.refl _)
      | (with_reducible exact LeO.none _)
      | (with_reducible refine LeO.ite ?_ ?_)
      | (with_reducible refine LeO.bind ?_ (fun _ => ?_))
      | exact ih0 _ _ _ _ _ _ _ _
      | exact ih1 _ _ _ _ _ _
      | exact spec_EncodeStm.mono _ _ _ _ _ _ _ _ _
      | exact spec_l5DrawStm.mono _ _ _ _
      | exact LeO.none _
      | refine LeO.ite ?_ ?_
      | refine LeO.bind ?_ (fun _ => ?_)
set_option maxHeartbeats 8000000 in
set_option maxRecDepth 100000 in
theorem spec_l7DrawEntries.calls (k : Nat) (g : Nat) (s0_0 : List Int) (s0_1 : Int) (s0_2 : Int) (a1 : Int) (r1 : List ByteArray) (r2 : Int) (r3 : Int) (w0 w : World) (hI : IsS68 w0 w g s0_0 s0_1 s0_2) (hB : Below w0.heap.size w0 w) (h : spec_l7DrawEntries.f k s0_0 s0_1 s0_2 a1 = some (r1, r2, r3)) :
    Calls Try.prog 42 #[.pointer (some ⟨g, 0, none⟩), .int .i64 a1] w fun e w' => ∃ v0_ : Value, e = .returned (v0_) ∧ Kd.R Kd.string 9 w' w.heap.size (fun _ => True) v0_ r1 ∧ IsS68 w0 w' g s0_0 r2 r3 ∧ Below w0.heap.size w0 w' ∧ KeepBut w w' g none := by
  have hu100 := Try.underlying100; have HI0 := qK hI; have HK := qK (KeepBut.refl w g none); have HL := qK hB.size; clear hI; have HW0 := qK hB.size; have HB := qK hB; clear hB; have H : ((spec_l7Head.f).bind fun t403 => (spec_l7DrawEntries.l0 k a1 (([] : List ByteArray)) t403 (t403.length : Int) 0 s0_0 s0_1 s0_2)) = some (r1, r2, r3) := h; clear h; obtain ⟨y400, hy400⟩ : ∃ y_ : List ByteArray, y_ = (([] : List ByteArray)) := ⟨_, rfl⟩; (replace H : ((spec_l7Head.f).bind fun t403 => (spec_l7DrawEntries.l0 k a1 y400 t403 (t403.length : Int) 0 s0_0 s0_1 s0_2)) = some (r1, r2, r3) := by first | (rw [hy400]; with_reducible exact H) | (have H2_ := (Option.bind_some _ _).symm.trans H; rw [hy400]; with_reducible exact H2_) | (have H2_ := (Option.bind_some _ _).symm.trans H; with_reducible exact H2_) | with_reducible exact H | (rw [hy400]; exact H) | exact H); have Ny400 := qK hy400; clear hy400; replace H := Option.bind_eq_some_iff.mp H; obtain ⟨t403, A30, H⟩ := H; have A3 := qK A30; clear A30; have H' := qK H; clear H; go_enter Try.func42, Try.ntmps42; go_wp2_with (first | ((with_reducible refine gds (N := 10) rfl ?_); refine Kd.R_lit Kd.string _ 9 ?hg (N := 10) ?hd (xs := ([] : List ByteArray)) (inner := []) (ok := fun _ => True) (okp := fun _ => True) ?hr ?hp (fun _ hk => hk) trivial (Below.refl _ _) (Nat.le_refl _) (by simp) ?_; (case hd => rfl); (case hg => rfl); (case hr => first | (go_simp; done) | (go_simp; rfl)); (case hp => exact (Reps.none _ _)); intro v401 w4 ho5 hb hg_ hnew_; clear hg_ hnew_; (first | rw [← Ny400.out] at ho5 | (simp only [Int.reduceToNat] at ho5; rw [← Ny400.out] at ho5)); have HO402 := qK (Kd.Rlo ho5 (keep_size (w := w) (g := g) (row := none) qHK)); replace HK := qK (KeepBut.trans qHK (KeepBut.of_below hb g none) (.inl rfl)); replace HB := qK (bst qBs68 hb); replace HI0 := qK (IsS68.below qI68 hb); clear hb ho5) | ((with_reducible refine gcl (f := 67) rfl ?_); refine goesL_ (some 11) rfl rfl Try.func67 (by kernel_rfl) rfl #[] rfl qA ?_; (with_reducible refine (spec_l7Head.calls  t403 _ A3.out).mono ?_); rintro e w6 ⟨v404, rfl, ho0, hb⟩; refine ⟨_, rfl, ?_⟩; have HO405 := qK (Kd.N_lower (Kd.N_mono (ok' := fun k_ => some k_ ≠ (v401 : Value).ownBlock ∧ k_ ≠ g) ho0 (fun k_ hk_ => ⟨(Kd.fresh' (Kd.R_lt (qRb HO402)) k_ hk_), (IsS68.fresh qI68 k_ hk_)⟩)) (keep_size (w := w) (g := g) (row := none) qHK)); replace HO402 := qK (Kd.Rbe (qRb HO402) hb); replace HK := qK (KeepBut.trans qHK (KeepBut.of_below hb g none) (.inl rfl)); replace HB := qK (bst qBs68 hb); replace HI0 := qK (IsS68.below qI68 hb); (try clear hb); (try clear hb2); (try clear hk); (try clear hi); (try clear ho0); obtain ⟨Ao7, co7, eo7⟩ := Kd.N_slice HO405.out; subst eo7)); go_loopg [5, 13] k (fun kq v5 v13 w' => ∃ (x5_1 : List ByteArray) (x13_1 : Int), v13 = .int .i64 x13_1 ∧ Aside0 (spec_l7DrawEntries.l0 kq a1 x5_1 t403 (t403.length : Int) x13_1 s0_0 s0_1 s0_2 = some (r1, r2, r3)) ∧ Aside0 (kq ≤ k) ∧ Aside0 (Kd.R Kd.string 9 w' w.heap.size (fun _ => True) v5 x5_1) ∧ Aside0 (Kd.N k100 100 w' w.heap.size (fun k_ => some k_ ≠ (v5 : Value).ownBlock ∧ k_ ≠ g) (.slice Ao7 t403.length co7) t403) ∧ Aside0 (IsS68 w0 w' g s0_0 s0_1 s0_2) ∧ Aside0 (KeepBut w w' g none) ∧ Aside0 (Below w0.heap.size w0 w'))
  case atStart => exact ⟨(y400), (0), qS, H', ⟨Nat.le_refl _⟩, ⟨by (with_reducible repeat (first | apply Kd.Ral | apply Kd.RdN | apply Kd.Rdr)); exact HO402.out⟩, ⟨by (with_reducible repeat (first | apply Kd.N_alloc | apply Kd.N_drewN | apply Kd.N_drew)); exact HO405.out⟩, ⟨qI68⟩, ⟨qHK⟩, ⟨qBs68⟩⟩
  case round =>
    clear H'; (try clear p2); (try clear c4); (try clear c6); obtain ⟨x5_1, x13_1, rfl, HA, HK1, HO_5, HO_11, HI0, HK, HB⟩ := hrel
    cases gk with
    | zero => exact absurd HA.out (by simp [spec_l7DrawEntries.l0])
    | succ k1 =>
      have H := HA.out; clear HA; simp only [spec_l7DrawEntries.l0] at H; by_cases c8 : x13_1 < (t403.length : Int)
      · rw [if_pos c8] at H; have c8b0 : decide (x13_1 < (t403.length : Int)) = true := decide_eq_true c8; clear c8; by_cases c9 : 0 ≤ x13_1
        · rw [if_pos c9] at H; have c9b0 : decide (0 ≤ x13_1) = true := decide_eq_true c9; clear c9; by_cases c10 : x13_1 < (t403.length : Int)
          · rw [if_pos c10] at H; have c10b0 : decide (x13_1 < (t403.length : Int)) = true := decide_eq_true c10; clear c10; replace H := Option.bind_eq_some_iff.mp H; obtain ⟨t408, A110, H⟩ := H; have A11 := qK A110; clear A110; by_cases c12 : x5_1.length < 8796093022208
            · rw [if_pos c12] at H; have LMc12 := qK c12; clear c12; obtain ⟨y409, hy409⟩ : ∃ y_ : List ByteArray, y_ = (x5_1 ++ [t408]) := ⟨_, rfl⟩; (replace H : (spec_l7DrawEntries.l0 k1 a1 y409 t403 (t403.length : Int) (wrap64 (x13_1 + 1)) s0_0 s0_1 s0_2) = some (r1, r2, r3) := by first | (rw [hy409]; with_reducible exact H) | (have H2_ := (Option.bind_some _ _).symm.trans H; rw [hy409]; with_reducible exact H2_) | (have H2_ := (Option.bind_some _ _).symm.trans H; with_reducible exact H2_) | with_reducible exact H | (rw [hy409]; exact H) | exact H); have Ny409 := qK hy409; clear hy409; have H' := qK H; clear H; have p406 : 0 ≤ (x13_1 : Int) := of_decide_eq_true qa; have q406 : x13_1 < (t403.length : Int) := of_decide_eq_true qa; obtain ⟨ad406, A406_2, c406_2, A406_3, c406_3, A406_5, c406_5, A406_6, c406_6, A406_7, c406_7, e406, hx406_0, hx406_1, hx406_2, hx406_3, hx406_4, hx406_5, hx406_6, hx406_7, hl406_2, hi406_2, hl406_3, hi406_3, hl406_5, hi406_5, hl406_6, hi406_6, hl406_7, hi406_7⟩ := at_T100 (Kd.N_reads' HO_11.out).2.2 x13_1 p406 q406; cases e406; obtain ⟨ce406, hce406, hMe406, hcc406⟩ := Kd.N_get HO_11.out z100 x13_1 p406 (by first | exact q406 | exact of_decide_eq_true qa | (have e_ := (Kd.N_reads' HO_11.out).1; omega)); obtain ⟨ua406_2, uc406_2, ua406_3, uc406_3, ua406_5, uc406_5, ua406_6, uc406_6, ua406_7, uc406_7, rfl, ul406_2, ge406_2, ul406_3, ge406_3, ul406_5, ge406_5, ul406_6, ge406_6, ul406_7, ge406_7⟩ := k100_openF hMe406; have hv406_2 := hcc406 2 _ rfl; rw [add_field _ _ 2 (by omega)] at hv406_2; replace hv406_2 := Option.some.inj (hv406_2.symm.trans hx406_2); injection hv406_2 with hva_ hvn_ hvc_; rw [hva_] at ge406_2; rw [hvc_] at ul406_2; have HL406_2 := qK (show Kd.V k114 114 _ w.heap.size _ _ ((rd_T100 t403 x13_1).f2) from Kd.V_mk ul406_2 ge406_2); clear hva_ hvn_ hvc_ ge406_2 ul406_2; have hv406_3 := hcc406 3 _ rfl; rw [add_field _ _ 3 (by omega)] at hv406_3; replace hv406_3 := Option.some.inj (hv406_3.symm.trans hx406_3); injection hv406_3 with hva_ hvn_ hvc_; rw [hva_] at ge406_3; rw [hvc_] at ul406_3; have HL406_3 := qK (show Kd.V k116 116 _ w.heap.size _ _ ((rd_T100 t403 x13_1).f3) from Kd.V_mk ul406_3 ge406_3); clear hva_ hvn_ hvc_ ge406_3 ul406_3; have hv406_5 := hcc406 5 _ rfl; rw [add_field _ _ 5 (by omega)] at hv406_5; replace hv406_5 := Option.some.inj (hv406_5.symm.trans hx406_5); injection hv406_5 with hva_ hvn_ hvc_; rw [hva_] at ge406_5; rw [hvc_] at ul406_5; have HL406_5 := qK (show Kd.V k122 122 _ w.heap.size _ _ ((rd_T100 t403 x13_1).f5) from Kd.V_mk ul406_5 ge406_5); clear hva_ hvn_ hvc_ ge406_5 ul406_5; have hv406_6 := hcc406 6 _ rfl; rw [add_field _ _ 6 (by omega)] at hv406_6; replace hv406_6 := Option.some.inj (hv406_6.symm.trans hx406_6); injection hv406_6 with hva_ hvn_ hvc_; rw [hva_] at ge406_6; rw [hvc_] at ul406_6; have HL406_6 := qK (show Kd.V k122 122 _ w.heap.size _ _ ((rd_T100 t403 x13_1).f6) from Kd.V_mk ul406_6 ge406_6); clear hva_ hvn_ hvc_ ge406_6 ul406_6; have hv406_7 := hcc406 7 _ rfl; rw [add_field _ _ 7 (by omega)] at hv406_7; replace hv406_7 := Option.some.inj (hv406_7.symm.trans hx406_7); injection hv406_7 with hva_ hvn_ hvc_; rw [hva_] at ge406_7; rw [hvc_] at ul406_7; have HL406_7 := qK (show Kd.V (Kd.slice 122 k122) 97 _ w.heap.size _ _ ((rd_T100 t403 x13_1).f7) from Kd.V_mk ul406_7 ge406_7); clear hva_ hvn_ hvc_ ge406_7 ul406_7; clear hcc406 hce406; have HR406_2 := qK hi406_2; have HC406_2 := qK hl406_2; clear hi406_2 hl406_2; have HR406_3 := qK hi406_3; have HC406_3 := qK hl406_3; clear hi406_3 hl406_3; have HR406_5 := qK hi406_5; have HC406_5 := qK hl406_5; clear hi406_5 hl406_5; have HR406_6 := qK hi406_6; have HC406_6 := qK hl406_6; clear hi406_6 hl406_6; have HR406_7 := qK hi406_7; have HC406_7 := qK hl406_7; clear hi406_7 hl406_7; replace p406 := eq_true p406; replace q406 := eq_true q406; go_wp2_with (first | ((with_reducible refine gds (N := 7) rfl ?_); refine qbx 7 #[.int .i64 0, .string (⟨#[]⟩ : ByteArray), .slice none 0 0, .slice none 0 0, .string (⟨#[]⟩ : ByteArray), .slice none 0 0, .slice none 0 0, .slice none 0 0] 100 ?_; intro gb407 hg w13 hbox hb; replace HO_5 := qK (Kd.Rbe (qRb HO_5) hb); replace HO_11 := qK (Kd.N_below (Kd.N_elderB (qNb HO_11) gb407 (Nat.le_of_eq hg.symm)) hb); replace HL406_2 := qK (Kd.V_below (Kd.V_elderB (by (with_reducible repeat (first | apply Kd.V_alloc | apply Kd.V_drewN | apply Kd.V_drew)); exact HL406_2.out) gb407 (Nat.le_of_eq hg.symm)) hb); replace HL406_3 := qK (Kd.V_below (Kd.V_elderB (by (with_reducible repeat (first | apply Kd.V_alloc | apply Kd.V_drewN | apply Kd.V_drew)); exact HL406_3.out) gb407 (Nat.le_of_eq hg.symm)) hb); replace HL406_5 := qK (Kd.V_below (Kd.V_elderB (by (with_reducible repeat (first | apply Kd.V_alloc | apply Kd.V_drewN | apply Kd.V_drew)); exact HL406_5.out) gb407 (Nat.le_of_eq hg.symm)) hb); replace HL406_6 := qK (Kd.V_below (Kd.V_elderB (by (with_reducible repeat (first | apply Kd.V_alloc | apply Kd.V_drewN | apply Kd.V_drew)); exact HL406_6.out) gb407 (Nat.le_of_eq hg.symm)) hb); replace HL406_7 := qK (Kd.V_below (Kd.V_elderB (by (with_reducible repeat (first | apply Kd.V_alloc | apply Kd.V_drewN | apply Kd.V_drew)); exact HL406_7.out) gb407 (Nat.le_of_eq hg.symm)) hb); replace HR406_2 := qK (Kd.Cbe (by repeat (first | (with_reducible exact HR406_2.out) | (with_reducible refine Kd.Cal ?_ _) | (with_reducible refine Kd.CdN ?_ _) | (with_reducible refine Kd.Cdr ?_) | exact HR406_2.out)) hb); replace HR406_3 := qK (Kd.Cbe (by repeat (first | (with_reducible exact HR406_3.out) | (with_reducible refine Kd.Cal ?_ _) | (with_reducible refine Kd.CdN ?_ _) | (with_reducible refine Kd.Cdr ?_) | exact HR406_3.out)) hb); replace HR406_5 := qK (Kd.Cbe (by repeat (first | (with_reducible exact HR406_5.out) | (with_reducible refine Kd.Cal ?_ _) | (with_reducible refine Kd.CdN ?_ _) | (with_reducible refine Kd.Cdr ?_) | exact HR406_5.out)) hb); replace HR406_6 := qK (Kd.Cbe (by repeat (first | (with_reducible exact HR406_6.out) | (with_reducible refine Kd.Cal ?_ _) | (with_reducible refine Kd.CdN ?_ _) | (with_reducible refine Kd.Cdr ?_) | exact HR406_6.out)) hb); replace HR406_7 := qK (Kd.Cbe (by repeat (first | (with_reducible exact HR406_7.out) | (with_reducible refine Kd.Cal ?_ _) | (with_reducible refine Kd.CdN ?_ _) | (with_reducible refine Kd.Cdr ?_) | exact HR406_7.out)) hb); replace HB := qK (bst qBs68 hb); have BK407 := qK (hbox); have GW407 := qK ((by rw [hg]; exact (keep_size (w := w) (g := g) (row := none) qHK) : w.heap.size ≤ gb407)); have GE407 := qK ((Nat.le_trans HW0.out (by rw [hg]; exact (keep_size (w := w) (g := g) (row := none) qHK) : w.heap.size ≤ gb407) : w0.heap.size ≤ gb407)); replace HK := qK (KeepBut.trans qHK (KeepBut.of_below hb g none) (.inl rfl)); have NB0_407 := qK ((by rw [hg]; exact Nat.ne_of_lt (IsS68.lt (show IsS68 w0 _ g s0_0 s0_1 s0_2 from qI68)) : g ≠ gb407)); have NB407_0 := qK ((by rw [hg]; exact Nat.ne_of_gt (IsS68.lt (show IsS68 w0 _ g s0_0 s0_1 s0_2 from qI68)) : gb407 ≠ g)); replace HI0 := qK (IsS68.below qI68 hb); clear hb hbox hg; have hnb14 := NB407_0.out; have hnc14 := NB0_407.out; have hz15 := qz8 BK407.out) | ((with_reducible refine gcl (f := 68) rfl ?_); refine goesL_ (some 19) rfl rfl Try.func68 (by kernel_rfl) rfl #[.agg #[.int .i64 ((rd_T100 t403 x13_1).f0), .string ((rd_T100 t403 x13_1).f1), .slice A406_2 ((rd_T100 t403 x13_1).f2).length c406_2, .slice A406_3 ((rd_T100 t403 x13_1).f3).length c406_3, .string ((rd_T100 t403 x13_1).f4), .slice A406_5 ((rd_T100 t403 x13_1).f5).length c406_5, .slice A406_6 ((rd_T100 t403 x13_1).f6).length c406_6, .slice A406_7 ((rd_T100 t403 x13_1).f7).length c406_7]] rfl qA ?_; (with_reducible refine (spec_EncodeStm.calls k1 ((rd_T100 t403 x13_1).f0) ((rd_T100 t403 x13_1).f1) _ _ ((rd_T100 t403 x13_1).f2) _ _ ((rd_T100 t403 x13_1).f3) ((rd_T100 t403 x13_1).f4) _ _ ((rd_T100 t403 x13_1).f5) _ _ ((rd_T100 t403 x13_1).f6) _ _ ((rd_T100 t403 x13_1).f7) t408 _ ?side1 ?side2 ?side3 ?side4 ?side5 ?side6 ?side7 ?side8 ?side9 ?side10 A11.out).mono ?_); (case side1 => repeat (first | exact ((Kd.V_reads' (by (with_reducible repeat (first | apply Kd.V_alloc | apply Kd.V_drewN | apply Kd.V_drew)); exact (Kd.V_mono (Kd.V_far (p := ⟨gb407, 7, none⟩) (Kd.V_far (p := ⟨gb407, 6, none⟩) (Kd.V_far (p := ⟨gb407, 5, none⟩) (Kd.V_far (p := ⟨gb407, 4, none⟩) (Kd.V_far (p := ⟨gb407, 3, none⟩) (Kd.V_far (p := ⟨gb407, 2, none⟩) (Kd.V_far (p := ⟨gb407, 1, none⟩) (Kd.V_far (p := ⟨gb407, 0, none⟩) (Kd.V_mono HL406_2.out (fun k_ hk => (⟨hk, hk.2⟩ : _ ∧ k_ ≠ gb407))) (fun _ hk => hk.2) (.int .i64 ((rd_T100 t403 x13_1).f0))) (fun _ hk => hk.2) (.string ((rd_T100 t403 x13_1).f1))) (fun _ hk => hk.2) (.slice A406_2 ((rd_T100 t403 x13_1).f2).length c406_2)) (fun _ hk => hk.2) (.slice A406_3 ((rd_T100 t403 x13_1).f3).length c406_3)) (fun _ hk => hk.2) (.string ((rd_T100 t403 x13_1).f4))) (fun _ hk => hk.2) (.slice A406_5 ((rd_T100 t403 x13_1).f5).length c406_5)) (fun _ hk => hk.2) (.slice A406_6 ((rd_T100 t403 x13_1).f6).length c406_6)) (fun _ hk => hk.2) (.slice A406_7 ((rd_T100 t403 x13_1).f7).length c406_7)) (fun _ h_ => h_.1)))).2.2) | (with_reducible refine Kd.Cal ?_ _) | (with_reducible refine Kd.CdN ?_ _) | (with_reducible refine Kd.Cdr ?_))); (case side2 => exact HC406_2.out); (case side3 => repeat (first | exact ((Kd.V_reads' (by (with_reducible repeat (first | apply Kd.V_alloc | apply Kd.V_drewN | apply Kd.V_drew)); exact (Kd.V_mono (Kd.V_far (p := ⟨gb407, 7, none⟩) (Kd.V_far (p := ⟨gb407, 6, none⟩) (Kd.V_far (p := ⟨gb407, 5, none⟩) (Kd.V_far (p := ⟨gb407, 4, none⟩) (Kd.V_far (p := ⟨gb407, 3, none⟩) (Kd.V_far (p := ⟨gb407, 2, none⟩) (Kd.V_far (p := ⟨gb407, 1, none⟩) (Kd.V_far (p := ⟨gb407, 0, none⟩) (Kd.V_mono HL406_3.out (fun k_ hk => (⟨hk, hk.2⟩ : _ ∧ k_ ≠ gb407))) (fun _ hk => hk.2) (.int .i64 ((rd_T100 t403 x13_1).f0))) (fun _ hk => hk.2) (.string ((rd_T100 t403 x13_1).f1))) (fun _ hk => hk.2) (.slice A406_2 ((rd_T100 t403 x13_1).f2).length c406_2)) (fun _ hk => hk.2) (.slice A406_3 ((rd_T100 t403 x13_1).f3).length c406_3)) (fun _ hk => hk.2) (.string ((rd_T100 t403 x13_1).f4))) (fun _ hk => hk.2) (.slice A406_5 ((rd_T100 t403 x13_1).f5).length c406_5)) (fun _ hk => hk.2) (.slice A406_6 ((rd_T100 t403 x13_1).f6).length c406_6)) (fun _ hk => hk.2) (.slice A406_7 ((rd_T100 t403 x13_1).f7).length c406_7)) (fun _ h_ => h_.1)))).2.2) | (with_reducible refine Kd.Cal ?_ _) | (with_reducible refine Kd.CdN ?_ _) | (with_reducible refine Kd.Cdr ?_))); (case side4 => exact HC406_3.out); (case side5 => repeat (first | exact ((Kd.V_reads' (by (with_reducible repeat (first | apply Kd.V_alloc | apply Kd.V_drewN | apply Kd.V_drew)); exact (Kd.V_mono (Kd.V_far (p := ⟨gb407, 7, none⟩) (Kd.V_far (p := ⟨gb407, 6, none⟩) (Kd.V_far (p := ⟨gb407, 5, none⟩) (Kd.V_far (p := ⟨gb407, 4, none⟩) (Kd.V_far (p := ⟨gb407, 3, none⟩) (Kd.V_far (p := ⟨gb407, 2, none⟩) (Kd.V_far (p := ⟨gb407, 1, none⟩) (Kd.V_far (p := ⟨gb407, 0, none⟩) (Kd.V_mono HL406_5.out (fun k_ hk => (⟨hk, hk.2⟩ : _ ∧ k_ ≠ gb407))) (fun _ hk => hk.2) (.int .i64 ((rd_T100 t403 x13_1).f0))) (fun _ hk => hk.2) (.string ((rd_T100 t403 x13_1).f1))) (fun _ hk => hk.2) (.slice A406_2 ((rd_T100 t403 x13_1).f2).length c406_2)) (fun _ hk => hk.2) (.slice A406_3 ((rd_T100 t403 x13_1).f3).length c406_3)) (fun _ hk => hk.2) (.string ((rd_T100 t403 x13_1).f4))) (fun _ hk => hk.2) (.slice A406_5 ((rd_T100 t403 x13_1).f5).length c406_5)) (fun _ hk => hk.2) (.slice A406_6 ((rd_T100 t403 x13_1).f6).length c406_6)) (fun _ hk => hk.2) (.slice A406_7 ((rd_T100 t403 x13_1).f7).length c406_7)) (fun _ h_ => h_.1)))).2.2) | (with_reducible refine Kd.Cal ?_ _) | (with_reducible refine Kd.CdN ?_ _) | (with_reducible refine Kd.Cdr ?_))); (case side6 => exact HC406_5.out); (case side7 => repeat (first | exact ((Kd.V_reads' (by (with_reducible repeat (first | apply Kd.V_alloc | apply Kd.V_drewN | apply Kd.V_drew)); exact (Kd.V_mono (Kd.V_far (p := ⟨gb407, 7, none⟩) (Kd.V_far (p := ⟨gb407, 6, none⟩) (Kd.V_far (p := ⟨gb407, 5, none⟩) (Kd.V_far (p := ⟨gb407, 4, none⟩) (Kd.V_far (p := ⟨gb407, 3, none⟩) (Kd.V_far (p := ⟨gb407, 2, none⟩) (Kd.V_far (p := ⟨gb407, 1, none⟩) (Kd.V_far (p := ⟨gb407, 0, none⟩) (Kd.V_mono HL406_6.out (fun k_ hk => (⟨hk, hk.2⟩ : _ ∧ k_ ≠ gb407))) (fun _ hk => hk.2) (.int .i64 ((rd_T100 t403 x13_1).f0))) (fun _ hk => hk.2) (.string ((rd_T100 t403 x13_1).f1))) (fun _ hk => hk.2) (.slice A406_2 ((rd_T100 t403 x13_1).f2).length c406_2)) (fun _ hk => hk.2) (.slice A406_3 ((rd_T100 t403 x13_1).f3).length c406_3)) (fun _ hk => hk.2) (.string ((rd_T100 t403 x13_1).f4))) (fun _ hk => hk.2) (.slice A406_5 ((rd_T100 t403 x13_1).f5).length c406_5)) (fun _ hk => hk.2) (.slice A406_6 ((rd_T100 t403 x13_1).f6).length c406_6)) (fun _ hk => hk.2) (.slice A406_7 ((rd_T100 t403 x13_1).f7).length c406_7)) (fun _ h_ => h_.1)))).2.2) | (with_reducible refine Kd.Cal ?_ _) | (with_reducible refine Kd.CdN ?_ _) | (with_reducible refine Kd.Cdr ?_))); (case side8 => exact HC406_6.out); (case side9 => repeat (first | exact ((Kd.V_reads' (by (with_reducible repeat (first | apply Kd.V_alloc | apply Kd.V_drewN | apply Kd.V_drew)); exact (Kd.V_mono (Kd.V_far (p := ⟨gb407, 7, none⟩) (Kd.V_far (p := ⟨gb407, 6, none⟩) (Kd.V_far (p := ⟨gb407, 5, none⟩) (Kd.V_far (p := ⟨gb407, 4, none⟩) (Kd.V_far (p := ⟨gb407, 3, none⟩) (Kd.V_far (p := ⟨gb407, 2, none⟩) (Kd.V_far (p := ⟨gb407, 1, none⟩) (Kd.V_far (p := ⟨gb407, 0, none⟩) (Kd.V_mono HL406_7.out (fun k_ hk => (⟨hk, hk.2⟩ : _ ∧ k_ ≠ gb407))) (fun _ hk => hk.2) (.int .i64 ((rd_T100 t403 x13_1).f0))) (fun _ hk => hk.2) (.string ((rd_T100 t403 x13_1).f1))) (fun _ hk => hk.2) (.slice A406_2 ((rd_T100 t403 x13_1).f2).length c406_2)) (fun _ hk => hk.2) (.slice A406_3 ((rd_T100 t403 x13_1).f3).length c406_3)) (fun _ hk => hk.2) (.string ((rd_T100 t403 x13_1).f4))) (fun _ hk => hk.2) (.slice A406_5 ((rd_T100 t403 x13_1).f5).length c406_5)) (fun _ hk => hk.2) (.slice A406_6 ((rd_T100 t403 x13_1).f6).length c406_6)) (fun _ hk => hk.2) (.slice A406_7 ((rd_T100 t403 x13_1).f7).length c406_7)) (fun _ h_ => h_.1)))).2.2) | (with_reducible refine Kd.Cal ?_ _) | (with_reducible refine Kd.CdN ?_ _) | (with_reducible refine Kd.Cdr ?_))); (case side10 => exact HC406_7.out); rintro e w16 ⟨rfl, hb⟩; refine ⟨_, rfl, ?_⟩; replace HO_5 := qK (Kd.Rbe (by (with_reducible repeat (first | apply Kd.Ral | apply Kd.RdN | apply Kd.Rdr)); exact (Kd.Rmo (Kd.Rfa (p := ⟨gb407, 7, none⟩) (Kd.Rfa (p := ⟨gb407, 6, none⟩) (Kd.Rfa (p := ⟨gb407, 5, none⟩) (Kd.Rfa (p := ⟨gb407, 4, none⟩) (Kd.Rfa (p := ⟨gb407, 3, none⟩) (Kd.Rfa (p := ⟨gb407, 2, none⟩) (Kd.Rfa (p := ⟨gb407, 1, none⟩) (Kd.Rfa (p := ⟨gb407, 0, none⟩) (Kd.Rty HO_5.out BK407.out (by decide)) (fun _ hk => hk.2) (.int .i64 ((rd_T100 t403 x13_1).f0))) (fun _ hk => hk.2) (.string ((rd_T100 t403 x13_1).f1))) (fun _ hk => hk.2) (.slice A406_2 ((rd_T100 t403 x13_1).f2).length c406_2)) (fun _ hk => hk.2) (.slice A406_3 ((rd_T100 t403 x13_1).f3).length c406_3)) (fun _ hk => hk.2) (.string ((rd_T100 t403 x13_1).f4))) (fun _ hk => hk.2) (.slice A406_5 ((rd_T100 t403 x13_1).f5).length c406_5)) (fun _ hk => hk.2) (.slice A406_6 ((rd_T100 t403 x13_1).f6).length c406_6)) (fun _ hk => hk.2) (.slice A406_7 ((rd_T100 t403 x13_1).f7).length c406_7)) (fun _ h_ => h_.1))) hb); replace HO_11 := qK (Kd.N_below (by (with_reducible repeat (first | apply Kd.N_alloc | apply Kd.N_drewN | apply Kd.N_drew)); exact (Kd.N_mono (Kd.N_far (p := ⟨gb407, 7, none⟩) (Kd.N_far (p := ⟨gb407, 6, none⟩) (Kd.N_far (p := ⟨gb407, 5, none⟩) (Kd.N_far (p := ⟨gb407, 4, none⟩) (Kd.N_far (p := ⟨gb407, 3, none⟩) (Kd.N_far (p := ⟨gb407, 2, none⟩) (Kd.N_far (p := ⟨gb407, 1, none⟩) (Kd.N_far (p := ⟨gb407, 0, none⟩) (Kd.N_mono HO_11.out (fun k_ hk => (⟨hk, hk.2⟩ : _ ∧ k_ ≠ gb407))) (fun _ hk => hk.2) (.int .i64 ((rd_T100 t403 x13_1).f0))) (fun _ hk => hk.2) (.string ((rd_T100 t403 x13_1).f1))) (fun _ hk => hk.2) (.slice A406_2 ((rd_T100 t403 x13_1).f2).length c406_2)) (fun _ hk => hk.2) (.slice A406_3 ((rd_T100 t403 x13_1).f3).length c406_3)) (fun _ hk => hk.2) (.string ((rd_T100 t403 x13_1).f4))) (fun _ hk => hk.2) (.slice A406_5 ((rd_T100 t403 x13_1).f5).length c406_5)) (fun _ hk => hk.2) (.slice A406_6 ((rd_T100 t403 x13_1).f6).length c406_6)) (fun _ hk => hk.2) (.slice A406_7 ((rd_T100 t403 x13_1).f7).length c406_7)) (fun _ h_ => h_.1))) hb); replace HR406_2 := qK (Kd.Cbe ((Kd.V_reads' (by (with_reducible repeat (first | apply Kd.V_alloc | apply Kd.V_drewN | apply Kd.V_drew)); exact (Kd.V_mono (Kd.V_far (p := ⟨gb407, 7, none⟩) (Kd.V_far (p := ⟨gb407, 6, none⟩) (Kd.V_far (p := ⟨gb407, 5, none⟩) (Kd.V_far (p := ⟨gb407, 4, none⟩) (Kd.V_far (p := ⟨gb407, 3, none⟩) (Kd.V_far (p := ⟨gb407, 2, none⟩) (Kd.V_far (p := ⟨gb407, 1, none⟩) (Kd.V_far (p := ⟨gb407, 0, none⟩) (Kd.V_mono HL406_2.out (fun k_ hk => (⟨hk, hk.2⟩ : _ ∧ k_ ≠ gb407))) (fun _ hk => hk.2) (.int .i64 ((rd_T100 t403 x13_1).f0))) (fun _ hk => hk.2) (.string ((rd_T100 t403 x13_1).f1))) (fun _ hk => hk.2) (.slice A406_2 ((rd_T100 t403 x13_1).f2).length c406_2)) (fun _ hk => hk.2) (.slice A406_3 ((rd_T100 t403 x13_1).f3).length c406_3)) (fun _ hk => hk.2) (.string ((rd_T100 t403 x13_1).f4))) (fun _ hk => hk.2) (.slice A406_5 ((rd_T100 t403 x13_1).f5).length c406_5)) (fun _ hk => hk.2) (.slice A406_6 ((rd_T100 t403 x13_1).f6).length c406_6)) (fun _ hk => hk.2) (.slice A406_7 ((rd_T100 t403 x13_1).f7).length c406_7)) (fun _ h_ => h_.1)))).2.2) hb); replace HL406_2 := qK (Kd.V_below (by (with_reducible repeat (first | apply Kd.V_alloc | apply Kd.V_drewN | apply Kd.V_drew)); exact (Kd.V_mono (Kd.V_far (p := ⟨gb407, 7, none⟩) (Kd.V_far (p := ⟨gb407, 6, none⟩) (Kd.V_far (p := ⟨gb407, 5, none⟩) (Kd.V_far (p := ⟨gb407, 4, none⟩) (Kd.V_far (p := ⟨gb407, 3, none⟩) (Kd.V_far (p := ⟨gb407, 2, none⟩) (Kd.V_far (p := ⟨gb407, 1, none⟩) (Kd.V_far (p := ⟨gb407, 0, none⟩) (Kd.V_mono HL406_2.out (fun k_ hk => (⟨hk, hk.2⟩ : _ ∧ k_ ≠ gb407))) (fun _ hk => hk.2) (.int .i64 ((rd_T100 t403 x13_1).f0))) (fun _ hk => hk.2) (.string ((rd_T100 t403 x13_1).f1))) (fun _ hk => hk.2) (.slice A406_2 ((rd_T100 t403 x13_1).f2).length c406_2)) (fun _ hk => hk.2) (.slice A406_3 ((rd_T100 t403 x13_1).f3).length c406_3)) (fun _ hk => hk.2) (.string ((rd_T100 t403 x13_1).f4))) (fun _ hk => hk.2) (.slice A406_5 ((rd_T100 t403 x13_1).f5).length c406_5)) (fun _ hk => hk.2) (.slice A406_6 ((rd_T100 t403 x13_1).f6).length c406_6)) (fun _ hk => hk.2) (.slice A406_7 ((rd_T100 t403 x13_1).f7).length c406_7)) (fun _ h_ => h_.1))) hb); replace HR406_3 := qK (Kd.Cbe ((Kd.V_reads' (by (with_reducible repeat (first | apply Kd.V_alloc | apply Kd.V_drewN | apply Kd.V_drew)); exact (Kd.V_mono (Kd.V_far (p := ⟨gb407, 7, none⟩) (Kd.V_far (p := ⟨gb407, 6, none⟩) (Kd.V_far (p := ⟨gb407, 5, none⟩) (Kd.V_far (p := ⟨gb407, 4, none⟩) (Kd.V_far (p := ⟨gb407, 3, none⟩) (Kd.V_far (p := ⟨gb407, 2, none⟩) (Kd.V_far (p := ⟨gb407, 1, none⟩) (Kd.V_far (p := ⟨gb407, 0, none⟩) (Kd.V_mono HL406_3.out (fun k_ hk => (⟨hk, hk.2⟩ : _ ∧ k_ ≠ gb407))) (fun _ hk => hk.2) (.int .i64 ((rd_T100 t403 x13_1).f0))) (fun _ hk => hk.2) (.string ((rd_T100 t403 x13_1).f1))) (fun _ hk => hk.2) (.slice A406_2 ((rd_T100 t403 x13_1).f2).length c406_2)) (fun _ hk => hk.2) (.slice A406_3 ((rd_T100 t403 x13_1).f3).length c406_3)) (fun _ hk => hk.2) (.string ((rd_T100 t403 x13_1).f4))) (fun _ hk => hk.2) (.slice A406_5 ((rd_T100 t403 x13_1).f5).length c406_5)) (fun _ hk => hk.2) (.slice A406_6 ((rd_T100 t403 x13_1).f6).length c406_6)) (fun _ hk => hk.2) (.slice A406_7 ((rd_T100 t403 x13_1).f7).length c406_7)) (fun _ h_ => h_.1)))).2.2) hb); replace HL406_3 := qK (Kd.V_below (by (with_reducible repeat (first | apply Kd.V_alloc | apply Kd.V_drewN | apply Kd.V_drew)); exact (Kd.V_mono (Kd.V_far (p := ⟨gb407, 7, none⟩) (Kd.V_far (p := ⟨gb407, 6, none⟩) (Kd.V_far (p := ⟨gb407, 5, none⟩) (Kd.V_far (p := ⟨gb407, 4, none⟩) (Kd.V_far (p := ⟨gb407, 3, none⟩) (Kd.V_far (p := ⟨gb407, 2, none⟩) (Kd.V_far (p := ⟨gb407, 1, none⟩) (Kd.V_far (p := ⟨gb407, 0, none⟩) (Kd.V_mono HL406_3.out (fun k_ hk => (⟨hk, hk.2⟩ : _ ∧ k_ ≠ gb407))) (fun _ hk => hk.2) (.int .i64 ((rd_T100 t403 x13_1).f0))) (fun _ hk => hk.2) (.string ((rd_T100 t403 x13_1).f1))) (fun _ hk => hk.2) (.slice A406_2 ((rd_T100 t403 x13_1).f2).length c406_2)) (fun _ hk => hk.2) (.slice A406_3 ((rd_T100 t403 x13_1).f3).length c406_3)) (fun _ hk => hk.2) (.string ((rd_T100 t403 x13_1).f4))) (fun _ hk => hk.2) (.slice A406_5 ((rd_T100 t403 x13_1).f5).length c406_5)) (fun _ hk => hk.2) (.slice A406_6 ((rd_T100 t403 x13_1).f6).length c406_6)) (fun _ hk => hk.2) (.slice A406_7 ((rd_T100 t403 x13_1).f7).length c406_7)) (fun _ h_ => h_.1))) hb); replace HR406_5 := qK (Kd.Cbe ((Kd.V_reads' (by (with_reducible repeat (first | apply Kd.V_alloc | apply Kd.V_drewN | apply Kd.V_drew)); exact (Kd.V_mono (Kd.V_far (p := ⟨gb407, 7, none⟩) (Kd.V_far (p := ⟨gb407, 6, none⟩) (Kd.V_far (p := ⟨gb407, 5, none⟩) (Kd.V_far (p := ⟨gb407, 4, none⟩) (Kd.V_far (p := ⟨gb407, 3, none⟩) (Kd.V_far (p := ⟨gb407, 2, none⟩) (Kd.V_far (p := ⟨gb407, 1, none⟩) (Kd.V_far (p := ⟨gb407, 0, none⟩) (Kd.V_mono HL406_5.out (fun k_ hk => (⟨hk, hk.2⟩ : _ ∧ k_ ≠ gb407))) (fun _ hk => hk.2) (.int .i64 ((rd_T100 t403 x13_1).f0))) (fun _ hk => hk.2) (.string ((rd_T100 t403 x13_1).f1))) (fun _ hk => hk.2) (.slice A406_2 ((rd_T100 t403 x13_1).f2).length c406_2)) (fun _ hk => hk.2) (.slice A406_3 ((rd_T100 t403 x13_1).f3).length c406_3)) (fun _ hk => hk.2) (.string ((rd_T100 t403 x13_1).f4))) (fun _ hk => hk.2) (.slice A406_5 ((rd_T100 t403 x13_1).f5).length c406_5)) (fun _ hk => hk.2) (.slice A406_6 ((rd_T100 t403 x13_1).f6).length c406_6)) (fun _ hk => hk.2) (.slice A406_7 ((rd_T100 t403 x13_1).f7).length c406_7)) (fun _ h_ => h_.1)))).2.2) hb); replace HL406_5 := qK (Kd.V_below (by (with_reducible repeat (first | apply Kd.V_alloc | apply Kd.V_drewN | apply Kd.V_drew)); exact (Kd.V_mono (Kd.V_far (p := ⟨gb407, 7, none⟩) (Kd.V_far (p := ⟨gb407, 6, none⟩) (Kd.V_far (p := ⟨gb407, 5, none⟩) (Kd.V_far (p := ⟨gb407, 4, none⟩) (Kd.V_far (p := ⟨gb407, 3, none⟩) (Kd.V_far (p := ⟨gb407, 2, none⟩) (Kd.V_far (p := ⟨gb407, 1, none⟩) (Kd.V_far (p := ⟨gb407, 0, none⟩) (Kd.V_mono HL406_5.out (fun k_ hk => (⟨hk, hk.2⟩ : _ ∧ k_ ≠ gb407))) (fun _ hk => hk.2) (.int .i64 ((rd_T100 t403 x13_1).f0))) (fun _ hk => hk.2) (.string ((rd_T100 t403 x13_1).f1))) (fun _ hk => hk.2) (.slice A406_2 ((rd_T100 t403 x13_1).f2).length c406_2)) (fun _ hk => hk.2) (.slice A406_3 ((rd_T100 t403 x13_1).f3).length c406_3)) (fun _ hk => hk.2) (.string ((rd_T100 t403 x13_1).f4))) (fun _ hk => hk.2) (.slice A406_5 ((rd_T100 t403 x13_1).f5).length c406_5)) (fun _ hk => hk.2) (.slice A406_6 ((rd_T100 t403 x13_1).f6).length c406_6)) (fun _ hk => hk.2) (.slice A406_7 ((rd_T100 t403 x13_1).f7).length c406_7)) (fun _ h_ => h_.1))) hb); replace HR406_6 := qK (Kd.Cbe ((Kd.V_reads' (by (with_reducible repeat (first | apply Kd.V_alloc | apply Kd.V_drewN | apply Kd.V_drew)); exact (Kd.V_mono (Kd.V_far (p := ⟨gb407, 7, none⟩) (Kd.V_far (p := ⟨gb407, 6, none⟩) (Kd.V_far (p := ⟨gb407, 5, none⟩) (Kd.V_far (p := ⟨gb407, 4, none⟩) (Kd.V_far (p := ⟨gb407, 3, none⟩) (Kd.V_far (p := ⟨gb407, 2, none⟩) (Kd.V_far (p := ⟨gb407, 1, none⟩) (Kd.V_far (p := ⟨gb407, 0, none⟩) (Kd.V_mono HL406_6.out (fun k_ hk => (⟨hk, hk.2⟩ : _ ∧ k_ ≠ gb407))) (fun _ hk => hk.2) (.int .i64 ((rd_T100 t403 x13_1).f0))) (fun _ hk => hk.2) (.string ((rd_T100 t403 x13_1).f1))) (fun _ hk => hk.2) (.slice A406_2 ((rd_T100 t403 x13_1).f2).length c406_2)) (fun _ hk => hk.2) (.slice A406_3 ((rd_T100 t403 x13_1).f3).length c406_3)) (fun _ hk => hk.2) (.string ((rd_T100 t403 x13_1).f4))) (fun _ hk => hk.2) (.slice A406_5 ((rd_T100 t403 x13_1).f5).length c406_5)) (fun _ hk => hk.2) (.slice A406_6 ((rd_T100 t403 x13_1).f6).length c406_6)) (fun _ hk => hk.2) (.slice A406_7 ((rd_T100 t403 x13_1).f7).length c406_7)) (fun _ h_ => h_.1)))).2.2) hb); replace HL406_6 := qK (Kd.V_below (by (with_reducible repeat (first | apply Kd.V_alloc | apply Kd.V_drewN | apply Kd.V_drew)); exact (Kd.V_mono (Kd.V_far (p := ⟨gb407, 7, none⟩) (Kd.V_far (p := ⟨gb407, 6, none⟩) (Kd.V_far (p := ⟨gb407, 5, none⟩) (Kd.V_far (p := ⟨gb407, 4, none⟩) (Kd.V_far (p := ⟨gb407, 3, none⟩) (Kd.V_far (p := ⟨gb407, 2, none⟩) (Kd.V_far (p := ⟨gb407, 1, none⟩) (Kd.V_far (p := ⟨gb407, 0, none⟩) (Kd.V_mono HL406_6.out (fun k_ hk => (⟨hk, hk.2⟩ : _ ∧ k_ ≠ gb407))) (fun _ hk => hk.2) (.int .i64 ((rd_T100 t403 x13_1).f0))) (fun _ hk => hk.2) (.string ((rd_T100 t403 x13_1).f1))) (fun _ hk => hk.2) (.slice A406_2 ((rd_T100 t403 x13_1).f2).length c406_2)) (fun _ hk => hk.2) (.slice A406_3 ((rd_T100 t403 x13_1).f3).length c406_3)) (fun _ hk => hk.2) (.string ((rd_T100 t403 x13_1).f4))) (fun _ hk => hk.2) (.slice A406_5 ((rd_T100 t403 x13_1).f5).length c406_5)) (fun _ hk => hk.2) (.slice A406_6 ((rd_T100 t403 x13_1).f6).length c406_6)) (fun _ hk => hk.2) (.slice A406_7 ((rd_T100 t403 x13_1).f7).length c406_7)) (fun _ h_ => h_.1))) hb); replace HR406_7 := qK (Kd.Cbe ((Kd.V_reads' (by (with_reducible repeat (first | apply Kd.V_alloc | apply Kd.V_drewN | apply Kd.V_drew)); exact (Kd.V_mono (Kd.V_far (p := ⟨gb407, 7, none⟩) (Kd.V_far (p := ⟨gb407, 6, none⟩) (Kd.V_far (p := ⟨gb407, 5, none⟩) (Kd.V_far (p := ⟨gb407, 4, none⟩) (Kd.V_far (p := ⟨gb407, 3, none⟩) (Kd.V_far (p := ⟨gb407, 2, none⟩) (Kd.V_far (p := ⟨gb407, 1, none⟩) (Kd.V_far (p := ⟨gb407, 0, none⟩) (Kd.V_mono HL406_7.out (fun k_ hk => (⟨hk, hk.2⟩ : _ ∧ k_ ≠ gb407))) (fun _ hk => hk.2) (.int .i64 ((rd_T100 t403 x13_1).f0))) (fun _ hk => hk.2) (.string ((rd_T100 t403 x13_1).f1))) (fun _ hk => hk.2) (.slice A406_2 ((rd_T100 t403 x13_1).f2).length c406_2)) (fun _ hk => hk.2) (.slice A406_3 ((rd_T100 t403 x13_1).f3).length c406_3)) (fun _ hk => hk.2) (.string ((rd_T100 t403 x13_1).f4))) (fun _ hk => hk.2) (.slice A406_5 ((rd_T100 t403 x13_1).f5).length c406_5)) (fun _ hk => hk.2) (.slice A406_6 ((rd_T100 t403 x13_1).f6).length c406_6)) (fun _ hk => hk.2) (.slice A406_7 ((rd_T100 t403 x13_1).f7).length c406_7)) (fun _ h_ => h_.1)))).2.2) hb); replace HL406_7 := qK (Kd.V_below (by (with_reducible repeat (first | apply Kd.V_alloc | apply Kd.V_drewN | apply Kd.V_drew)); exact (Kd.V_mono (Kd.V_far (p := ⟨gb407, 7, none⟩) (Kd.V_far (p := ⟨gb407, 6, none⟩) (Kd.V_far (p := ⟨gb407, 5, none⟩) (Kd.V_far (p := ⟨gb407, 4, none⟩) (Kd.V_far (p := ⟨gb407, 3, none⟩) (Kd.V_far (p := ⟨gb407, 2, none⟩) (Kd.V_far (p := ⟨gb407, 1, none⟩) (Kd.V_far (p := ⟨gb407, 0, none⟩) (Kd.V_mono HL406_7.out (fun k_ hk => (⟨hk, hk.2⟩ : _ ∧ k_ ≠ gb407))) (fun _ hk => hk.2) (.int .i64 ((rd_T100 t403 x13_1).f0))) (fun _ hk => hk.2) (.string ((rd_T100 t403 x13_1).f1))) (fun _ hk => hk.2) (.slice A406_2 ((rd_T100 t403 x13_1).f2).length c406_2)) (fun _ hk => hk.2) (.slice A406_3 ((rd_T100 t403 x13_1).f3).length c406_3)) (fun _ hk => hk.2) (.string ((rd_T100 t403 x13_1).f4))) (fun _ hk => hk.2) (.slice A406_5 ((rd_T100 t403 x13_1).f5).length c406_5)) (fun _ hk => hk.2) (.slice A406_6 ((rd_T100 t403 x13_1).f6).length c406_6)) (fun _ hk => hk.2) (.slice A406_7 ((rd_T100 t403 x13_1).f7).length c406_7)) (fun _ h_ => h_.1))) hb); replace BK407 := qK (bbe (g := gb407) (o := .cells #[.int .i64 ((rd_T100 t403 x13_1).f0), .string ((rd_T100 t403 x13_1).f1), .slice A406_2 ((rd_T100 t403 x13_1).f2).length c406_2, .slice A406_3 ((rd_T100 t403 x13_1).f3).length c406_3, .string ((rd_T100 t403 x13_1).f4), .slice A406_5 ((rd_T100 t403 x13_1).f5).length c406_5, .slice A406_6 ((rd_T100 t403 x13_1).f6).length c406_6, .slice A406_7 ((rd_T100 t403 x13_1).f7).length c406_7] 100 (0, 0)) (by (with_reducible repeat (first | refine bdN ?_ _ | refine bkD ?_ | refine bkA ?_ _)); refine bpu (cs := #[.int .i64 ((rd_T100 t403 x13_1).f0), .string ((rd_T100 t403 x13_1).f1), .slice A406_2 ((rd_T100 t403 x13_1).f2).length c406_2, .slice A406_3 ((rd_T100 t403 x13_1).f3).length c406_3, .string ((rd_T100 t403 x13_1).f4), .slice A406_5 ((rd_T100 t403 x13_1).f5).length c406_5, .slice A406_6 ((rd_T100 t403 x13_1).f6).length c406_6, .slice none 0 0]) ?_ 7 _ rfl; (with_reducible repeat (first | refine bdN ?_ _ | refine bkD ?_ | refine bkA ?_ _)); refine bpu (cs := #[.int .i64 ((rd_T100 t403 x13_1).f0), .string ((rd_T100 t403 x13_1).f1), .slice A406_2 ((rd_T100 t403 x13_1).f2).length c406_2, .slice A406_3 ((rd_T100 t403 x13_1).f3).length c406_3, .string ((rd_T100 t403 x13_1).f4), .slice A406_5 ((rd_T100 t403 x13_1).f5).length c406_5, .slice none 0 0, .slice none 0 0]) ?_ 6 _ rfl; (with_reducible repeat (first | refine bdN ?_ _ | refine bkD ?_ | refine bkA ?_ _)); refine bpu (cs := #[.int .i64 ((rd_T100 t403 x13_1).f0), .string ((rd_T100 t403 x13_1).f1), .slice A406_2 ((rd_T100 t403 x13_1).f2).length c406_2, .slice A406_3 ((rd_T100 t403 x13_1).f3).length c406_3, .string ((rd_T100 t403 x13_1).f4), .slice none 0 0, .slice none 0 0, .slice none 0 0]) ?_ 5 _ rfl; (with_reducible repeat (first | refine bdN ?_ _ | refine bkD ?_ | refine bkA ?_ _)); refine bpu (cs := #[.int .i64 ((rd_T100 t403 x13_1).f0), .string ((rd_T100 t403 x13_1).f1), .slice A406_2 ((rd_T100 t403 x13_1).f2).length c406_2, .slice A406_3 ((rd_T100 t403 x13_1).f3).length c406_3, .string (⟨#[]⟩ : ByteArray), .slice none 0 0, .slice none 0 0, .slice none 0 0]) ?_ 4 _ rfl; (with_reducible repeat (first | refine bdN ?_ _ | refine bkD ?_ | refine bkA ?_ _)); refine bpu (cs := #[.int .i64 ((rd_T100 t403 x13_1).f0), .string ((rd_T100 t403 x13_1).f1), .slice A406_2 ((rd_T100 t403 x13_1).f2).length c406_2, .slice none 0 0, .string (⟨#[]⟩ : ByteArray), .slice none 0 0, .slice none 0 0, .slice none 0 0]) ?_ 3 _ rfl; (with_reducible repeat (first | refine bdN ?_ _ | refine bkD ?_ | refine bkA ?_ _)); refine bpu (cs := #[.int .i64 ((rd_T100 t403 x13_1).f0), .string ((rd_T100 t403 x13_1).f1), .slice none 0 0, .slice none 0 0, .string (⟨#[]⟩ : ByteArray), .slice none 0 0, .slice none 0 0, .slice none 0 0]) ?_ 2 _ rfl; (with_reducible repeat (first | refine bdN ?_ _ | refine bkD ?_ | refine bkA ?_ _)); refine bpu (cs := #[.int .i64 ((rd_T100 t403 x13_1).f0), .string (⟨#[]⟩ : ByteArray), .slice none 0 0, .slice none 0 0, .string (⟨#[]⟩ : ByteArray), .slice none 0 0, .slice none 0 0, .slice none 0 0]) ?_ 1 _ rfl; (with_reducible repeat (first | refine bdN ?_ _ | refine bkD ?_ | refine bkA ?_ _)); refine bpu (cs := #[.int .i64 0, .string (⟨#[]⟩ : ByteArray), .slice none 0 0, .slice none 0 0, .string (⟨#[]⟩ : ByteArray), .slice none 0 0, .slice none 0 0, .slice none 0 0]) ?_ 0 _ rfl; (with_reducible repeat (first | refine bdN ?_ _ | refine bkD ?_ | refine bkA ?_ _)); exact BK407.out) hb); replace HK := qK (KeepBut.trans qHK (KeepBut.of_below hb g none) (.inl rfl)); replace HB := qK (bst qBs68 hb); replace HI0 := qK (IsS68.below (show IsS68 w0 ((((((((w13.setCell ⟨gb407, 0, none⟩ (.int .i64 ((rd_T100 t403 x13_1).f0))).setCell ⟨gb407, 1, none⟩ (.string ((rd_T100 t403 x13_1).f1))).setCell ⟨gb407, 2, none⟩ (.slice A406_2 ((rd_T100 t403 x13_1).f2).length c406_2)).setCell ⟨gb407, 3, none⟩ (.slice A406_3 ((rd_T100 t403 x13_1).f3).length c406_3)).setCell ⟨gb407, 4, none⟩ (.string ((rd_T100 t403 x13_1).f4))).setCell ⟨gb407, 5, none⟩ (.slice A406_5 ((rd_T100 t403 x13_1).f5).length c406_5)).setCell ⟨gb407, 6, none⟩ (.slice A406_6 ((rd_T100 t403 x13_1).f6).length c406_6)).setCell ⟨gb407, 7, none⟩ (.slice A406_7 ((rd_T100 t403 x13_1).f7).length c406_7)) g s0_0 s0_1 s0_2 from qI68) hb); (try clear hb); (try clear hb2); (try clear hk); (try clear hi)) | ((with_reducible refine gbu (b := .append) (xs := #[.tmp 17, .tmp 20]) rfl ?_); at_builtin; refine Kd.R_append Kd.string w.heap.size rfl (.tmp 17) (.tmp 20) 40 9 (.string ⟨#[]⟩) 16 rfl Try.underlying40 info9 rfl (by decide) (by omega) u5 x5_1 t408 [.string t408] (fun _ => True) (fun _ => False) rfl rfl ?aP (fun _ hk => hk.elim) ?aF ?aO (Below.refl _ _) ?aS ?aL ?_; (case aP => exact rfl); (case aF => exact (fun _ _ => trivial)); (case aO => exact (qRb HO_5)); (case aS => exact (keep_size (w := w) (g := g) (row := none) qHK)); (case aL => have := LMc12.out; omega); intro v410 w17 ho hb hg hat; rw [← Ny409.out] at ho; replace HO_11 := qK (Kd.N_afterv (ok := (fun k_ => k_ ≠ g ∧ k_ ≠ gb407)) (by (with_reducible repeat (first | apply Kd.N_alloc | apply Kd.N_drewN | apply Kd.N_drew)); exact Kd.N_mono HO_11.out (fun _ hk => ⟨⟨hk.1.2, hk.2⟩, hk.1.1⟩)) hg hat); replace HL406_2 := qK (Kd.V_afterv (ok := (fun k_ => some k_ ≠ (.slice (some ad406) t403.length co7 : Value).ownBlock ∧ k_ ≠ g ∧ k_ ≠ gb407)) (by (with_reducible repeat (first | apply Kd.V_alloc | apply Kd.V_drewN | apply Kd.V_drew)); exact Kd.V_mono HL406_2.out (fun _ hk => ⟨⟨hk.1.2, ⟨hk.1.1.2, hk.2⟩⟩, hk.1.1.1⟩)) hg hat); replace HL406_3 := qK (Kd.V_afterv (ok := (fun k_ => some k_ ≠ (.slice (some ad406) t403.length co7 : Value).ownBlock ∧ k_ ≠ g ∧ k_ ≠ gb407)) (by (with_reducible repeat (first | apply Kd.V_alloc | apply Kd.V_drewN | apply Kd.V_drew)); exact Kd.V_mono HL406_3.out (fun _ hk => ⟨⟨hk.1.2, ⟨hk.1.1.2, hk.2⟩⟩, hk.1.1.1⟩)) hg hat); replace HL406_5 := qK (Kd.V_afterv (ok := (fun k_ => some k_ ≠ (.slice (some ad406) t403.length co7 : Value).ownBlock ∧ k_ ≠ g ∧ k_ ≠ gb407)) (by (with_reducible repeat (first | apply Kd.V_alloc | apply Kd.V_drewN | apply Kd.V_drew)); exact Kd.V_mono HL406_5.out (fun _ hk => ⟨⟨hk.1.2, ⟨hk.1.1.2, hk.2⟩⟩, hk.1.1.1⟩)) hg hat); replace HL406_6 := qK (Kd.V_afterv (ok := (fun k_ => some k_ ≠ (.slice (some ad406) t403.length co7 : Value).ownBlock ∧ k_ ≠ g ∧ k_ ≠ gb407)) (by (with_reducible repeat (first | apply Kd.V_alloc | apply Kd.V_drewN | apply Kd.V_drew)); exact Kd.V_mono HL406_6.out (fun _ hk => ⟨⟨hk.1.2, ⟨hk.1.1.2, hk.2⟩⟩, hk.1.1.1⟩)) hg hat); replace HL406_7 := qK (Kd.V_afterv (ok := (fun k_ => some k_ ≠ (.slice (some ad406) t403.length co7 : Value).ownBlock ∧ k_ ≠ g ∧ k_ ≠ gb407)) (by (with_reducible repeat (first | apply Kd.V_alloc | apply Kd.V_drewN | apply Kd.V_drew)); exact Kd.V_mono HL406_7.out (fun _ hk => ⟨⟨hk.1.2, ⟨hk.1.1.2, hk.2⟩⟩, hk.1.1.1⟩)) hg hat); replace BK407 := qK (bgr (qpk BK407) hg (Kd.R_ne HO_5.out BK407.out (by decide))); replace HB := qK (below_weaken qBs68 HL.out hb); replace HI0 := qK (IsS68.grown qI68 hg (IsS68.own_ne HI0.out HO_5.out (by decide))); replace HK := qK (KeepBut.trans qHK (KeepBut.of_grown hg g) (Kd.R_base2 HO_5.out)); have HO411 := qK (ho); clear HO_5; clear ho hb hg hat)); go_roundg k1
              case measure => have := HK1.out; omega
              case rel => exact ⟨(y409), (wrap64 (x13_1 + 1)), qS, H', ⟨by have := HK1.out; omega⟩, ⟨by (with_reducible repeat (first | apply Kd.Ral | apply Kd.RdN | apply Kd.Rdr)); exact HO411.out⟩, ⟨by (with_reducible repeat (first | apply Kd.N_alloc | apply Kd.N_drewN | apply Kd.N_drew)); exact Kd.N_mono HO_11.out (fun _ hk => by first | exact ⟨hk.2, hk.1.1⟩ | exact ⟨hk.1.2, hk.2⟩ | exact ⟨hk.1.1, hk.2⟩ | exact ⟨hk.1.1, hk.1.2⟩ | exact ⟨hk.2, hk.1.1⟩ | exact ⟨hk.1.2, hk.1.1⟩ | exact ⟨hk.2, hk.1.2⟩)⟩, ⟨qI68⟩, ⟨qHK⟩, ⟨qBs68⟩⟩
            · rw [if_neg c12] at H; exact absurd H (by simp)
          · rw [if_neg c10] at H; exact absurd H (by simp)
        · rw [if_neg c9] at H; exact absurd H (by simp)
      · rw [if_neg c8] at H; have c8b0 : decide (x13_1 < (t403.length : Int)) = false := decide_eq_false c8; clear c8; replace H := Option.bind_eq_some_iff.mp H; obtain ⟨⟨t412, t413, t414⟩, A180, H⟩ := H; have A18 := qK A180; clear A180; have H' := qK H; clear H; go_wp2_with (first | ((with_reducible refine gcl (f := 69) rfl ?_); refine goesL_ (some 25) rfl rfl Try.func69 (by kernel_rfl) rfl #[.pointer (some ⟨g, 0, none⟩), .int .i64 a1] rfl qA ?_; (with_reducible refine (spec_l1Cur_pick.calls g s0_0 s0_1 s0_2 a1 t412 t413 t414 w0 _ ?side1 ?side2 A18.out).mono ?_); (case side1 => exact qI68); (case side2 => repeat (first | (with_reducible first | exact HB.out | apply bal | apply pbd | apply bd1 | refine bse ?_ (IsS68.ge HI0.out)) | exact HB.out)); rintro e w19 ⟨rfl, hi, hb, hk⟩; refine ⟨_, rfl, ?_⟩; replace HO_5 := qK (Kd.Rmo (Kd.R_keep (IsS68.apart (show IsS68 w0 _ g s0_0 s0_1 s0_2 from qI68) (qRb HO_5) (by decide)) hk (fun _ h => h.2)) (fun _ h => h.1)); replace HO_11 := qK (Kd.N_mono (Kd.N_keep (Kd.N_mono (ok := fun k_ => (some k_ ≠ (u5 : Value).ownBlock ∧ k_ ≠ g)) (qNb HO_11) (fun k_ hk_ => (⟨hk_, hk_.2⟩ : _ ∧ k_ ≠ g))) hk (fun _ h => h.2)) (fun _ h => h.1)); replace HK := qK (KeepBut.trans qHK hk (.inl rfl)); replace HB := qK (hb); replace HI0 := qK (hi); (try clear hb); (try clear hb2); (try clear hk); (try clear hi))); go_loopg [5, 9] k1 (fun kq v5 v9 w' => ∃ (x5_2 : List ByteArray) (x9_2 : Int) (x1001_2 : Int) (x1002_2 : Int), v9 = .int .i64 x9_2 ∧ Aside0 (spec_l7DrawEntries.l1 kq x5_2 (wrap64 (2 + t412)) x9_2 s0_0 x1001_2 x1002_2 = some (r1, r2, r3)) ∧ Aside0 (kq ≤ k1) ∧ Aside0 (Kd.R Kd.string 9 w' w.heap.size (fun _ => True) v5 x5_2) ∧ Aside0 (IsS68 w0 w' g s0_0 x1001_2 x1002_2) ∧ Aside0 (KeepBut w w' g none) ∧ Aside0 (Below w0.heap.size w0 w'))
        case atStart => exact ⟨(x5_1), (0), (t413), (t414), qS, H', ⟨Nat.le_refl _⟩, ⟨by (with_reducible repeat (first | apply Kd.Ral | apply Kd.RdN | apply Kd.Rdr)); exact HO_5.out⟩, ⟨qI68⟩, ⟨qHK⟩, ⟨qBs68⟩⟩
        case round =>
          clear H'; (try clear c1); (try clear p2); (try clear c4); (try clear p4); (try clear q4); (try clear hx4); (try clear c6); (try clear p6); (try clear c8); (try clear c8b0); (try clear c9); (try clear c9b0); (try clear c10); (try clear c10b0); (try clear c12); (try clear c14); (try clear hz15); (try clear hx406_0); (try clear hx406_1); (try clear hx406_2); (try clear hx406_3); (try clear hx406_4); (try clear hx406_5); (try clear hx406_6); (try clear hx406_7); (try clear p406); (try clear q406); obtain ⟨x5_2, x9_2, x1001_2, x1002_2, rfl, HA, HK2, HO_5, HI0, HK, HB⟩ := hrel
          cases gk with
          | zero => exact absurd HA.out (by simp [spec_l7DrawEntries.l1])
          | succ k2 =>
            have H := HA.out; clear HA; simp only [spec_l7DrawEntries.l1] at H; by_cases c20 : x9_2 < (wrap64 (2 + t412))
            · rw [if_pos c20] at H; have c20b0 : decide (x9_2 < (wrap64 (2 + t412))) = true := decide_eq_true c20; clear c20; replace H := Option.bind_eq_some_iff.mp H; obtain ⟨⟨t415, t416, t417, t420, t423, t424, t427, t430, t433, t434⟩, A210, H⟩ := H; have A21 := qK A210; clear A210; replace H := Option.bind_eq_some_iff.mp H; obtain ⟨t435, A220, H⟩ := H; have A22 := qK A220; clear A220; by_cases c23 : x5_2.length < 8796093022208
              · rw [if_pos c23] at H; have LMc23 := qK c23; clear c23; obtain ⟨y436, hy436⟩ : ∃ y_ : List ByteArray, y_ = (x5_2 ++ [t435]) := ⟨_, rfl⟩; (replace H : (spec_l7DrawEntries.l1 k2 y436 (wrap64 (2 + t412)) (wrap64 (x9_2 + 1)) s0_0 t433 t434) = some (r1, r2, r3) := by first | (rw [hy436]; with_reducible exact H) | (have H2_ := (Option.bind_some _ _).symm.trans H; rw [hy436]; with_reducible exact H2_) | (have H2_ := (Option.bind_some _ _).symm.trans H; with_reducible exact H2_) | with_reducible exact H | (rw [hy436]; exact H) | exact H); have Ny436 := qK hy436; clear hy436; have H' := qK H; clear H; go_wp2_with (first | ((with_reducible refine gcl (f := 70) rfl ?_); refine goesL_ (some 34) rfl rfl Try.func70 (by kernel_rfl) rfl #[.pointer (some ⟨g, 0, none⟩)] rfl qA ?_; (with_reducible refine (spec_l5DrawStm.calls k2 g s0_0 x1001_2 x1002_2 t415 t416 t417 t420 t423 t424 t427 t430 t433 t434 w0 _ ?side1 ?side2 A21.out).mono ?_); (case side1 => exact qI68); (case side2 => repeat (first | (with_reducible first | exact HB.out | apply bal | apply pbd | apply bd1 | refine bse ?_ (IsS68.ge HI0.out)) | exact HB.out)); rintro e w24 ⟨v418, v421, v425, v428, v431, rfl, ho0, ho1, ho2, ho3, ho4, hi, hb, hk⟩; refine ⟨_, rfl, ?_⟩; have HO419 := qK (Kd.Rlo (Kd.Rmo (ok' := fun k_ => True) ho0 (fun _ hk_ => trivial)) (keep_size (w := w) (g := g) (row := none) qHK)); have HO422 := qK (Kd.Rlo (Kd.Rmo (ok' := fun k_ => True) ho1 (fun _ hk_ => trivial)) (keep_size (w := w) (g := g) (row := none) qHK)); have HO426 := qK (Kd.Rlo (Kd.Rmo (ok' := fun k_ => some k_ ≠ (v428 : Value).ownBlock) ho2 (fun _ hk_ => hk_.2)) (keep_size (w := w) (g := g) (row := none) qHK)); have HO429 := qK (Kd.Rlo (Kd.Rmo (ok' := fun k_ => some k_ ≠ (v425 : Value).ownBlock) ho3 (fun _ hk_ => hk_.2)) (keep_size (w := w) (g := g) (row := none) qHK)); have HO432 := qK (Kd.N_lower (Kd.N_mono (ok' := fun k_ => some k_ ≠ (v418 : Value).ownBlock ∧ some k_ ≠ (v421 : Value).ownBlock ∧ some k_ ≠ (v425 : Value).ownBlock ∧ some k_ ≠ (v428 : Value).ownBlock ∧ some k_ ≠ (u5 : Value).ownBlock ∧ k_ ≠ g) ho4 (fun k_ hk_ => ⟨hk_.2.1, hk_.2.2.1, hk_.2.2.2.1, hk_.2.2.2.2, (Kd.fresh' (Kd.R_lt (qRb HO_5)) k_ hk_.1), (IsS68.fresh qI68 k_ hk_.1)⟩)) (keep_size (w := w) (g := g) (row := none) qHK)); replace HO_5 := qK (Kd.Rmo (Kd.R_keep (IsS68.apart (show IsS68 w0 _ g s0_0 x1001_2 x1002_2 from qI68) (qRb HO_5) (by decide)) hk (fun _ h => h.2)) (fun _ h => h.1)); replace HK := qK (KeepBut.trans qHK hk (.inl rfl)); replace HB := qK (hb); replace HI0 := qK (hi); (try clear hb); (try clear hb2); (try clear hk); (try clear hi); (try clear ho0); (try clear ho1); (try clear ho2); (try clear ho3); (try clear ho4); obtain ⟨Ao25, co25, eo25⟩ := Kd.R_slice HO419.out; subst eo25; obtain ⟨Ao26, co26, eo26⟩ := Kd.R_slice HO422.out; subst eo26; obtain ⟨Ao27, co27, eo27⟩ := Kd.R_slice HO426.out; subst eo27; obtain ⟨Ao28, co28, eo28⟩ := Kd.R_slice HO429.out; subst eo28; obtain ⟨Ao29, co29, eo29⟩ := Kd.N_slice HO432.out; subst eo29) | ((with_reducible refine gcl (f := 68) rfl ?_); refine goesL_ (some 35) rfl rfl Try.func68 (by kernel_rfl) rfl #[.agg #[.int .i64 t415, .string t416, .slice Ao25 t417.length co25, .slice Ao26 t420.length co26, .string t423, .slice Ao27 t424.length co27, .slice Ao28 t427.length co28, .slice Ao29 t430.length co29]] rfl qA ?_; (with_reducible refine (spec_EncodeStm.calls k2 t415 t416 _ _ t417 _ _ t420 t423 _ _ t424 _ _ t427 _ _ t430 t435 _ ?side1 ?side2 ?side3 ?side4 ?side5 ?side6 ?side7 ?side8 ?side9 ?side10 A22.out).mono ?_); (case side1 => repeat (first | exact (Kd.R_reads' HO419.out).2.2 | (with_reducible refine Kd.Cal ?_ _) | (with_reducible refine Kd.CdN ?_ _) | (with_reducible refine Kd.Cdr ?_))); (case side2 => exact (Kd.R_reads' HO419.out).2.1); (case side3 => repeat (first | exact (Kd.R_reads' HO422.out).2.2 | (with_reducible refine Kd.Cal ?_ _) | (with_reducible refine Kd.CdN ?_ _) | (with_reducible refine Kd.Cdr ?_))); (case side4 => exact (Kd.R_reads' HO422.out).2.1); (case side5 => repeat (first | exact (Kd.R_reads' HO426.out).2.2 | (with_reducible refine Kd.Cal ?_ _) | (with_reducible refine Kd.CdN ?_ _) | (with_reducible refine Kd.Cdr ?_))); (case side6 => exact (Kd.R_reads' HO426.out).2.1); (case side7 => repeat (first | exact (Kd.R_reads' HO429.out).2.2 | (with_reducible refine Kd.Cal ?_ _) | (with_reducible refine Kd.CdN ?_ _) | (with_reducible refine Kd.Cdr ?_))); (case side8 => exact (Kd.R_reads' HO429.out).2.1); (case side9 => repeat (first | exact (Kd.N_reads' HO432.out).2.2 | (with_reducible refine Kd.Cal ?_ _) | (with_reducible refine Kd.CdN ?_ _) | (with_reducible refine Kd.Cdr ?_))); (case side10 => exact (Kd.N_reads' HO432.out).2.1); rintro e w30 ⟨rfl, hb⟩; refine ⟨_, rfl, ?_⟩; replace HO_5 := qK (Kd.Rbe (qRb HO_5) hb); replace HO419 := qK (Kd.Rbe (qRb HO419) hb); replace HO422 := qK (Kd.Rbe (qRb HO422) hb); replace HO426 := qK (Kd.Rbe (qRb HO426) hb); replace HO429 := qK (Kd.Rbe (qRb HO429) hb); replace HO432 := qK (Kd.N_below (qNb HO432) hb); replace HK := qK (KeepBut.trans qHK (KeepBut.of_below hb g none) (.inl rfl)); replace HB := qK (bst qBs68 hb); replace HI0 := qK (IsS68.below qI68 hb); (try clear hb); (try clear hb2); (try clear hk); (try clear hi)) | ((with_reducible refine gbu (b := .append) (xs := #[.tmp 32, .tmp 36]) rfl ?_); at_builtin; refine Kd.R_append Kd.string w.heap.size rfl (.tmp 32) (.tmp 36) 40 9 (.string ⟨#[]⟩) 16 rfl Try.underlying40 info9 rfl (by decide) (by omega) u5 x5_2 t435 [.string t435] (fun _ => True) (fun _ => False) rfl rfl ?aP (fun _ hk => hk.elim) ?aF ?aO (Below.refl _ _) ?aS ?aL ?_; (case aP => exact rfl); (case aF => exact (fun _ _ => trivial)); (case aO => exact (qRb HO_5)); (case aS => exact (keep_size (w := w) (g := g) (row := none) qHK)); (case aL => have := LMc23.out; omega); intro v437 w31 ho hb hg hat; rw [← Ny436.out] at ho; replace HO419 := qK (Kd.R_over' (qRb HO419) (Kd.R_typed (qRb HO_5)) (by decide) hg); replace HO422 := qK (Kd.R_over' (qRb HO422) (Kd.R_typed (qRb HO_5)) (by decide) hg); replace HO426 := qK (Kd.R_over' (qRb HO426) (Kd.R_typed (qRb HO_5)) (by decide) hg); replace HO429 := qK (Kd.R_over' (qRb HO429) (Kd.R_typed (qRb HO_5)) (by decide) hg); replace HO432 := qK (Kd.N_afterv (ok := (fun k_ => some k_ ≠ (.slice Ao25 t417.length co25 : Value).ownBlock ∧ some k_ ≠ (.slice Ao26 t420.length co26 : Value).ownBlock ∧ some k_ ≠ (.slice Ao27 t424.length co27 : Value).ownBlock ∧ some k_ ≠ (.slice Ao28 t427.length co28 : Value).ownBlock ∧ k_ ≠ g)) (by (with_reducible repeat (first | apply Kd.N_alloc | apply Kd.N_drewN | apply Kd.N_drew)); exact Kd.N_mono HO432.out (fun _ hk => ⟨⟨hk.1, ⟨hk.2.1, ⟨hk.2.2.1, ⟨hk.2.2.2.1, hk.2.2.2.2.2⟩⟩⟩⟩, hk.2.2.2.2.1⟩)) hg hat); replace HB := qK (below_weaken qBs68 HL.out hb); replace HI0 := qK (IsS68.grown qI68 hg (IsS68.own_ne HI0.out HO_5.out (by decide))); replace HK := qK (KeepBut.trans qHK (KeepBut.of_grown hg g) (Kd.R_base2 HO_5.out)); have HO438 := qK (ho); clear HO_5; clear ho hb hg hat)); go_roundg k2
                case measure => have := HK1.out; have := HK2.out; omega
                case rel => exact ⟨(y436), (wrap64 (x9_2 + 1)), (t433), (t434), qS, H', ⟨by have := HK1.out; have := HK2.out; omega⟩, ⟨by (with_reducible repeat (first | apply Kd.Ral | apply Kd.RdN | apply Kd.Rdr)); exact HO438.out⟩, ⟨qI68⟩, ⟨qHK⟩, ⟨qBs68⟩⟩
              · rw [if_neg c23] at H; exact absurd H (by simp)
            · rw [if_neg c20] at H; have c20b0 : decide (x9_2 < (wrap64 (2 + t412))) = false := decide_eq_false c20; clear c20; simp only [Option.some.injEq, Prod.mk.injEq] at H; obtain ⟨rfl, rfl, rfl⟩ := H; go_wp2; go_ret; exact ⟨_, qR, by (with_reducible repeat (first | apply Kd.Ral | apply Kd.RdN | apply Kd.Rdr)); exact HO_5.out, qI68, qBs68, qHK⟩
def spec_l1DrawBytes.l0 : Nat → List Int → Int → Int → List Int → Int → Int → Option (ByteArray × Int × Int)
  | 0, _, _, _, _, _, _ => none
  | k + 1, x5, x6, x7, x1000, x1001, x1002 => if x7 < x6 then ((spec_l1Cur_pick.f x1000 x1001 x1002 256).bind fun bt445 => (if x5.length < 140737488355328 then (spec_l1DrawBytes.l0 k (x5 ++ [(bt445.1) % 256]) x6 (wrap64 (x7 + 1)) x1000 bt445.2.1 bt445.2.2) else (none))) else (some (strOfNums x5, x1001, x1002))
def spec_l1DrawBytes.f (k : Nat) (s0_0 : List Int) (s0_1 : Int) (s0_2 : Int) (a1 : Int) : Option (ByteArray × Int × Int) := (spec_l1Cur_pick.f s0_0 s0_1 s0_2 (wrap64 (a1 + 1))).bind fun bt442 => (spec_l1DrawBytes.l0 k (([] : List Int)) bt442.1 0 s0_0 bt442.2.1 bt442.2.2)
theorem spec_l1DrawBytes.mono_l : ∀ k, (∀ y0 y1 y2 y3 y4 y5, LeO (spec_l1DrawBytes.l0 k y0 y1 y2 y3 y4 y5) (spec_l1DrawBytes.l0 (k + 1) y0 y1 y2 y3 y4 y5))
  | 0 => fun _ _ _ _ _ _ r h => by simp [spec_l1DrawBytes.l0] at h
  | k + 1 => by
    have ih0 := spec_l1DrawBytes.mono_l k
    · intro y0 y1 y2 y3 y4 y5
      unfold spec_l1DrawBytes.l0
      repeat' first
      | (with_reducible exact ih0 _ _ _ _ _ _)
      | (with_reducible exact LeO.refl _)
      | (with_reducible exact LeO.none _)
      | (with_reducible refine LeO.ite ?_ ?_)
      | (with_reducible refine LeO.bind ?_ (fun _ => ?_))
      | exact ih0 _ _ _ _ _ _
      | exact LeO.none _
      | refine LeO.ite ?_ ?_
      | refine LeO.bind ?_ (fun _ => ?_)
theorem spec_l1DrawBytes.mono : ∀ a0 a1 a2 a3 k, LeO (spec_l1DrawBytes.f k a0 a1 a2 a3) (spec_l1DrawBytes.f (k + 1) a0 a1 a2 a3) := by
  intro a0 a1 a2 a3 k
  have ih0 := spec_l1DrawBytes.mono_l k
  unfold spec_l1DrawBytes.f
  repeat' first
      | (with_reducible exact ih0 _ _ _ _ _ _)
      | (with_reducible exact LeO.refl _)
      | (with_reducible exact LeO.none _)
      | (with_reducible refine LeO.ite ?_ ?_)
      | (with_reducible refine LeO.bind ?_ (fun _ => ?_))
      | exact ih0 _ _ _ _ _ _
      | exact LeO.none _
      | refine LeO.ite ?_ ?_
      | refine LeO.bind ?_ (fun _ => ?_)
set_option maxHeartbeats 8000000 in
set_option maxRecDepth 100000 in
theorem spec_l1DrawBytes.calls (k : Nat) (g : Nat) (s0_0 : List Int) (s0_1 : Int) (s0_2 : Int) (a1 : Int) (r1 : ByteArray) (r2 : Int) (r3 : Int) (w0 w : World) (hI : IsS68 w0 w g s0_0 s0_1 s0_2) (hB : Below w0.heap.size w0 w) (h : spec_l1DrawBytes.f k s0_0 s0_1 s0_2 a1 = some (r1, r2, r3)) :
    Calls Try.prog 43 #[.pointer (some ⟨g, 0, none⟩), .int .i64 a1] w fun e w' => e = .returned (.string r1) ∧ IsS68 w0 w' g s0_0 r2 r3 ∧ Below w0.heap.size w0 w' ∧ KeepBut w w' g none := by
  have HI0 := qK hI; have HK := qK (KeepBut.refl w g none); have HL := qK hB.size; clear hI; have HW0 := qK hB.size; have HB := qK hB; clear hB; have H : ((spec_l1Cur_pick.f s0_0 s0_1 s0_2 (wrap64 (a1 + 1))).bind fun bt442 => (spec_l1DrawBytes.l0 k (([] : List Int)) bt442.1 0 s0_0 bt442.2.1 bt442.2.2)) = some (r1, r2, r3) := h; clear h; obtain ⟨y439, hy439⟩ : ∃ y_ : List Int, y_ = (([] : List Int)) := ⟨_, rfl⟩; (replace H : ((spec_l1Cur_pick.f s0_0 s0_1 s0_2 (wrap64 (a1 + 1))).bind fun bt442 => (spec_l1DrawBytes.l0 k y439 bt442.1 0 s0_0 bt442.2.1 bt442.2.2)) = some (r1, r2, r3) := by first | (rw [hy439]; with_reducible exact H) | (have H2_ := (Option.bind_some _ _).symm.trans H; rw [hy439]; with_reducible exact H2_) | (have H2_ := (Option.bind_some _ _).symm.trans H; with_reducible exact H2_) | with_reducible exact H | (rw [hy439]; exact H) | exact H); have Ny439 := qK hy439; clear hy439; replace H := Option.bind_eq_some_iff.mp H; obtain ⟨⟨t442, t443, t444⟩, A30, H⟩ := H; have A3 := qK A30; clear A30; have H' := qK H; clear H; go_enter Try.func43, Try.ntmps43; go_wp2_with (first | ((with_reducible refine gds (N := 8) rfl ?_); refine Kd.R_lit (Kd.int .u8) _ 5 ?hg (N := 8) ?hd (xs := ([] : List Int)) (inner := []) (ok := fun _ => True) (okp := fun _ => True) ?hr ?hp (fun _ hk => hk) trivial (Below.refl _ _) (Nat.le_refl _) (by simp) ?_; (case hd => rfl); (case hg => rfl); (case hr => first | (go_simp; done) | (go_simp; rfl)); (case hp => exact (Reps.none _ _)); intro v440 w4 ho5 hb hg_ hnew_; clear hg_ hnew_; (first | rw [← Ny439.out] at ho5 | (simp only [Int.reduceToNat] at ho5; rw [← Ny439.out] at ho5)); have HO441 := qK (Kd.Rlo ho5 (keep_size (w := w) (g := g) (row := none) qHK)); replace HK := qK (KeepBut.trans qHK (KeepBut.of_below hb g none) (.inl rfl)); replace HB := qK (bst qBs68 hb); replace HI0 := qK (IsS68.below qI68 hb); clear hb ho5) | ((with_reducible refine gcl (f := 69) rfl ?_); refine goesL_ (some 12) rfl rfl Try.func69 (by kernel_rfl) rfl #[.pointer (some ⟨g, 0, none⟩), .int .i64 (wrap64 (a1 + 1))] rfl qA ?_; (with_reducible refine (spec_l1Cur_pick.calls g s0_0 s0_1 s0_2 (wrap64 (a1 + 1)) t442 t443 t444 w0 _ ?side1 ?side2 A3.out).mono ?_); (case side1 => exact qI68); (case side2 => repeat (first | (with_reducible first | exact HB.out | apply bal | apply pbd | apply bd1 | refine bse ?_ (IsS68.ge HI0.out)) | exact HB.out)); rintro e w6 ⟨rfl, hi, hb, hk⟩; refine ⟨_, rfl, ?_⟩; replace HO441 := qK (Kd.Rmo (Kd.R_keep (IsS68.apart (show IsS68 w0 _ g s0_0 s0_1 s0_2 from qI68) (qRb HO441) (by decide)) hk (fun _ h => h.2)) (fun _ h => h.1)); replace HK := qK (KeepBut.trans qHK hk (.inl rfl)); replace HB := qK (hb); replace HI0 := qK (hi); (try clear hb); (try clear hb2); (try clear hk); (try clear hi))); go_loopg [5, 7] k (fun kq v5 v7 w' => ∃ (x5_1 : List Int) (x7_1 : Int) (x1001_1 : Int) (x1002_1 : Int), v7 = .int .i64 x7_1 ∧ Aside0 (spec_l1DrawBytes.l0 kq x5_1 t442 x7_1 s0_0 x1001_1 x1002_1 = some (r1, r2, r3)) ∧ Aside0 (kq ≤ k) ∧ Aside0 (Kd.R (Kd.int .u8) 5 w' w.heap.size (fun _ => True) v5 x5_1) ∧ Aside0 (IsS68 w0 w' g s0_0 x1001_1 x1002_1) ∧ Aside0 (KeepBut w w' g none) ∧ Aside0 (Below w0.heap.size w0 w'))
  case atStart => exact ⟨(y439), (0), (t443), (t444), qS, H', ⟨Nat.le_refl _⟩, ⟨by (with_reducible repeat (first | apply Kd.Ral | apply Kd.RdN | apply Kd.Rdr)); exact HO441.out⟩, ⟨qI68⟩, ⟨qHK⟩, ⟨qBs68⟩⟩
  case round =>
    clear H'; (try clear p2); (try clear c4); (try clear c6); (try clear p6); obtain ⟨x5_1, x7_1, x1001_1, x1002_1, rfl, HA, HK1, HO_5, HI0, HK, HB⟩ := hrel
    cases gk with
    | zero => exact absurd HA.out (by simp [spec_l1DrawBytes.l0])
    | succ k1 =>
      have H := HA.out; clear HA; simp only [spec_l1DrawBytes.l0] at H; by_cases c7 : x7_1 < t442
      · rw [if_pos c7] at H; have c7b0 : decide (x7_1 < t442) = true := decide_eq_true c7; clear c7; replace H := Option.bind_eq_some_iff.mp H; obtain ⟨⟨t445, t446, t447⟩, A80, H⟩ := H; have A8 := qK A80; clear A80; by_cases c9 : x5_1.length < 140737488355328
        · rw [if_pos c9] at H; have LMc9 := qK c9; clear c9; obtain ⟨y448, hy448⟩ : ∃ y_ : List Int, y_ = (x5_1 ++ [(t445) % 256]) := ⟨_, rfl⟩; (replace H : (spec_l1DrawBytes.l0 k1 y448 t442 (wrap64 (x7_1 + 1)) s0_0 t446 t447) = some (r1, r2, r3) := by first | (rw [hy448]; with_reducible exact H) | (have H2_ := (Option.bind_some _ _).symm.trans H; rw [hy448]; with_reducible exact H2_) | (have H2_ := (Option.bind_some _ _).symm.trans H; with_reducible exact H2_) | with_reducible exact H | (rw [hy448]; exact H) | exact H); have Ny448 := qK hy448; clear hy448; have H' := qK H; clear H; go_wp2_with (first | ((with_reducible refine gcl (f := 69) rfl ?_); refine goesL_ (some 20) rfl rfl Try.func69 (by kernel_rfl) rfl #[.pointer (some ⟨g, 0, none⟩), .int .i64 256] rfl qA ?_; (with_reducible refine (spec_l1Cur_pick.calls g s0_0 x1001_1 x1002_1 256 t445 t446 t447 w0 _ ?side1 ?side2 A8.out).mono ?_); (case side1 => exact qI68); (case side2 => repeat (first | (with_reducible first | exact HB.out | apply bal | apply pbd | apply bd1 | refine bse ?_ (IsS68.ge HI0.out)) | exact HB.out)); rintro e w10 ⟨rfl, hi, hb, hk⟩; refine ⟨_, rfl, ?_⟩; replace HO_5 := qK (Kd.Rmo (Kd.R_keep (IsS68.apart (show IsS68 w0 _ g s0_0 x1001_1 x1002_1 from qI68) (qRb HO_5) (by decide)) hk (fun _ h => h.2)) (fun _ h => h.1)); replace HK := qK (KeepBut.trans qHK hk (.inl rfl)); replace HB := qK (hb); replace HI0 := qK (hi); (try clear hb); (try clear hb2); (try clear hk); (try clear hi)) | ((with_reducible refine gbu (b := .append) (xs := #[.tmp 18, .tmp 22]) rfl ?_); at_builtin; refine Kd.R_append (Kd.int .u8) w.heap.size rfl (.tmp 18) (.tmp 22) 46 5 (.int .u8 0) 1 rfl Try.underlying46 info5 rfl (by decide) (by omega) u5 x5_1 ((t445) % 256) [.int .u8 ((t445) % 256)] (fun _ => True) (fun _ => False) rfl rfl ?aP (fun _ hk => hk.elim) ?aF ?aO (Below.refl _ _) ?aS ?aL ?_; (case aP => exact rfl); (case aF => exact (fun _ _ => trivial)); (case aO => exact (qRb HO_5)); (case aS => exact (keep_size (w := w) (g := g) (row := none) qHK)); (case aL => have := LMc9.out; omega); intro v449 w11 ho hb hg hat; rw [← Ny448.out] at ho; replace HB := qK (below_weaken qBs68 HL.out hb); replace HI0 := qK (IsS68.grown qI68 hg (IsS68.own_ne HI0.out HO_5.out (by decide))); replace HK := qK (KeepBut.trans qHK (KeepBut.of_grown hg g) (Kd.R_base2 HO_5.out)); have HO450 := qK (ho); clear HO_5; clear ho hb hg hat)); go_roundg k1
          case measure => have := HK1.out; omega
          case rel => exact ⟨(y448), (wrap64 (x7_1 + 1)), (t446), (t447), qS, H', ⟨by have := HK1.out; omega⟩, ⟨by (with_reducible repeat (first | apply Kd.Ral | apply Kd.RdN | apply Kd.Rdr)); exact HO450.out⟩, ⟨qI68⟩, ⟨qHK⟩, ⟨qBs68⟩⟩
        · rw [if_neg c9] at H; exact absurd H (by simp)
      · rw [if_neg c7] at H; have c7b0 : decide (x7_1 < t442) = false := decide_eq_false c7; clear c7; simp only [Option.some.injEq, Prod.mk.injEq] at H; obtain ⟨rfl, rfl, rfl⟩ := H; have hcv12 := own_string (P := Try.prog) Try.underlying46 Try.underlying5 Try.underlying9 (Kd.own_of_R HO_5.out); go_wp2; go_ret; exact ⟨qR, qI68, qBs68, qHK⟩
def spec_DrawWork.l0 : Nat → List ByteArray → List ByteArray → Int → List Int → Int → Int → Option (List ByteArray × List ByteArray)
  | 0, _, _, _, _, _, _ => none
  | k + 1, x5, x6, x7, x452000, x452001, x452002 => if x7 < 6 then ((spec_l1DrawBytes.f k x452000 x452001 x452002 40).bind fun bt460 => (if x6.length < 8796093022208 then (spec_DrawWork.l0 k x5 (x6 ++ [bt460.1]) (wrap64 (x7 + 1)) x452000 bt460.2.1 bt460.2.2) else (none))) else (some (x5, x6))
def spec_DrawWork.f (k : Nat) (l0 : List Int) : Option (List ByteArray × List ByteArray) := (spec_l7DrawEntries.f k l0 0 0 12).bind fun bt452 => (spec_DrawWork.l0 k bt452.1 (([] : List ByteArray)) 0 l0 bt452.2.1 bt452.2.2)
theorem spec_DrawWork.mono_l : ∀ k, (∀ y0 y1 y2 y3 y4 y5, LeO (spec_DrawWork.l0 k y0 y1 y2 y3 y4 y5) (spec_DrawWork.l0 (k + 1) y0 y1 y2 y3 y4 y5))
  | 0 => fun _ _ _ _ _ _ r h => by simp [spec_DrawWork.l0] at h
  | k + 1 => by
    have ih0 := spec_DrawWork.mono_l k
    · intro y0 y1 y2 y3 y4 y5
      unfold spec_DrawWork.l0
      repeat' first
      | (with_reducible exact ih0 _ _ _ _ _ _)
      | (with_reducible exact spec_l1DrawBytes.mono _ _ _ _ _)
      | (with_reducible exact spec_l7DrawEntries.mono _ _ _ _ _)
      | (with_reducible exact LeO.refl _)
      | (with_reducible exact LeO.none _)
      | (with_reducible refine LeO.ite ?_ ?_)
      | (with_reducible refine LeO.bind ?_ (fun _ => ?_))
      | exact ih0 _ _ _ _ _ _
      | exact spec_l1DrawBytes.mono _ _ _ _ _
      | exact spec_l7DrawEntries.mono _ _ _ _ _
      | exact LeO.none _
      | refine LeO.ite ?_ ?_
      | refine LeO.bind ?_ (fun _ => ?_)
theorem spec_DrawWork.mono : ∀ a0 k, LeO (spec_DrawWork.f k a0) (spec_DrawWork.f (k + 1) a0) := by
  intro a0 k
  have ih0 := spec_DrawWork.mono_l k
  unfold spec_DrawWork.f
  repeat' first
      | (with_reducible exact ih0 _ _ _ _ _ _)
      | (with_reducible exact spec_l1DrawBytes.mono _ _ _ _ _)
      | (with_reducible exact spec_l7DrawEntries.mono _ _ _ _ _)
      | (with_reducible exact LeO.refl _)
      | (with_reducible exact LeO.none _)
      | (with_reducible refine LeO.ite ?_ ?_)
      | (with_reducible refine LeO.bind ?_ (fun _ => ?_))
      | exact ih0 _ _ _ _ _ _
      | exact spec_l1DrawBytes.mono _ _ _ _ _
      | exact spec_l7DrawEntries.mono _ _ _ _ _
      | exact LeO.none _
      | refine LeO.ite ?_ ?_
      | refine LeO.bind ?_ (fun _ => ?_)
set_option maxHeartbeats 8000000 in
set_option maxRecDepth 100000 in
theorem spec_DrawWork.calls (k : Nat) (A0 : Option Addr) (c0 : Nat) (l0 : List Int) (r1 : List ByteArray) (r2 : List ByteArray) (w : World) (hr0 : Kd.C (Kd.int .u8) w A0 l0.length l0) (hc0 : l0.length ≤ c0) (h : spec_DrawWork.f k l0 = some (r1, r2)) :
    Calls Try.prog 20 #[.slice A0 l0.length c0] w fun e w' => ∃ v0_ v1_ : Value, e = .returned (.tuple #[v0_, v1_]) ∧ Kd.R Kd.string 9 w' w.heap.size (fun k_ => some k_ ≠ (v1_ : Value).ownBlock) v0_ r1 ∧ Kd.R Kd.string 9 w' w.heap.size (fun k_ => some k_ ≠ (v0_ : Value).ownBlock) v1_ r2 ∧ Below w.heap.size w w' := by
  have hu68 := Try.underlying68; have HR0 := qK hr0; have HC0 := qK hc0; clear hr0 hc0; have HB := qK (Below.refl w.heap.size w); have H : ((spec_l7DrawEntries.f k l0 0 0 12).bind fun bt452 => (spec_DrawWork.l0 k bt452.1 (([] : List ByteArray)) 0 l0 bt452.2.1 bt452.2.2)) = some (r1, r2) := h; clear h; replace H := Option.bind_eq_some_iff.mp H; obtain ⟨⟨t452, t455, t456⟩, A20, H⟩ := H; have A2 := qK A20; clear A20; obtain ⟨y457, hy457⟩ : ∃ y_ : List ByteArray, y_ = (([] : List ByteArray)) := ⟨_, rfl⟩; (replace H : (spec_DrawWork.l0 k t452 y457 0 l0 t455 t456) = some (r1, r2) := by first | (rw [hy457]; with_reducible exact H) | (have H2_ := (Option.bind_some _ _).symm.trans H; rw [hy457]; with_reducible exact H2_) | (have H2_ := (Option.bind_some _ _).symm.trans H; with_reducible exact H2_) | with_reducible exact H | (rw [hy457]; exact H) | exact H); have Ny457 := qK hy457; clear hy457; have H' := qK H; clear H; go_enter Try.func20, Try.ntmps20; go_wp2_with (first | ((with_reducible refine gds (N := 10) rfl ?_); refine qbx 10 #[.slice A0 l0.length c0, .int .i64 0, .int .i64 0] 68 ?_; intro gb451 hg w3 hbox hb; have BK451 := qK (hbox); have GW451 := qK ((qW : w.heap.size ≤ gb451)); have GE451 := GW451; have HI451 := qK ((show IsS68 w w3 gb451 l0 0 0 from ⟨A0, c0, hbox, (by rw [hg]; exact (bsz qB)), HR0.out⟩)); replace HB := qHB HB hb; clear hb hbox hg) | ((with_reducible refine gcl (f := 42) rfl ?_); refine goesL_ (some 12) rfl rfl Try.func42 (by kernel_rfl) rfl #[.pointer (some ⟨gb451, 0, none⟩), .int .i64 12] rfl qA ?_; (with_reducible refine (spec_l7DrawEntries.calls k gb451 l0 0 0 12 t452 t455 t456 w _ ?side1 ?side2 A2.out).mono ?_); (case side1 => repeat (first | (with_reducible first | exact HI451.out | apply IsS68.alloc | apply IsS68.drewN | apply IsS68.drew | apply IsS68.set_1 | apply IsS68.set_2) | exact HI451.out)); (case side2 => repeat (first | (with_reducible first | exact HB.out | apply bal | apply pbd | apply bd1 | refine bse ?_ (IsS68.ge HI451.out)) | exact HB.out)); rintro e w4 ⟨v453, rfl, ho0, hi, hb, hk⟩; refine ⟨_, rfl, ?_⟩; have HO454 := qK (Kd.Rlo ho0 (bsz (by repeat (first | (with_reducible first | exact HB.out | apply bal | apply pbd | apply bd1 | refine bse ?_ (IsS68.ge HI451.out)) | exact HB.out)))); replace HB := qK (hb); replace HI451 := qK (hi); (try clear hb); (try clear hb2); (try clear hk); (try clear hi); (try clear ho0)) | ((with_reducible refine gds (N := 13) rfl ?_); refine Kd.R_lit Kd.string _ 9 ?hg (N := 13) ?hd (xs := ([] : List ByteArray)) (inner := []) (ok := fun _ => True) (okp := fun _ => True) ?hr ?hp (fun _ hk => hk) trivial (Below.refl _ _) (Nat.le_refl _) (by simp) ?_; (case hd => rfl); (case hg => rfl); (case hr => first | (go_simp; done) | (go_simp; rfl)); (case hp => exact (Reps.none _ _)); intro v458 w5 ho6 hb hg_ hnew_; clear hg_ hnew_; (first | rw [← Ny457.out] at ho6 | (simp only [Int.reduceToNat] at ho6; rw [← Ny457.out] at ho6)); have HO459 := qK (Kd.Rlo (Kd.R_new' ho6 (Kd.R_lt (qRb HO454))) (bsz (by repeat (first | (with_reducible first | exact HB.out | apply bal | apply pbd | apply bd1 | refine bse ?_ (IsS68.ge HI451.out)) | exact HB.out)))); replace HO454 := qK (Kd.R_elder' (qRb HO454) (Kd.R_base ho6) hb); replace HB := qK (bst (by repeat (first | (with_reducible first | exact HB.out | apply bal | apply pbd | apply bd1 | refine bse ?_ (IsS68.ge HI451.out)) | exact HB.out)) hb); replace HI451 := qK (IsS68.below (by repeat (first | (with_reducible first | exact HI451.out | apply IsS68.alloc | apply IsS68.drewN | apply IsS68.drew | apply IsS68.set_1 | apply IsS68.set_2) | exact HI451.out)) hb); clear hb ho6)); go_loopg [6, 7] k (fun kq v6 v7 w' => ∃ (x6_1 : List ByteArray) (x7_1 : Int) (x452001_1 : Int) (x452002_1 : Int), v7 = .int .i64 x7_1 ∧ Aside0 (spec_DrawWork.l0 kq t452 x6_1 x7_1 l0 x452001_1 x452002_1 = some (r1, r2)) ∧ Aside0 (kq ≤ k) ∧ Aside0 (Kd.R Kd.string 9 w' w.heap.size (fun k_ => some k_ ≠ (v6 : Value).ownBlock) v453 t452) ∧ Aside0 (Kd.R Kd.string 9 w' w.heap.size (fun k_ => some k_ ≠ (v453 : Value).ownBlock) v6 x6_1) ∧ Aside0 (IsS68 w w' gb451 l0 x452001_1 x452002_1) ∧ Aside0 (Below w.heap.size w w'))
  case atStart => exact ⟨(y457), (0), (t455), (t456), qS, H', ⟨Nat.le_refl _⟩, ⟨by (with_reducible repeat (first | apply Kd.Ral | apply Kd.RdN | apply Kd.Rdr)); exact Kd.Rmo HO454.out (fun _ hk => hk.2)⟩, ⟨by (with_reducible repeat (first | apply Kd.Ral | apply Kd.RdN | apply Kd.Rdr)); exact Kd.Rmo HO459.out (fun _ hk => hk.2)⟩, ⟨by repeat (first | (with_reducible first | exact HI451.out | apply IsS68.alloc | apply IsS68.drewN | apply IsS68.drew | apply IsS68.set_1 | apply IsS68.set_2) | exact HI451.out)⟩, ⟨by repeat (first | (with_reducible first | exact HB.out | apply bal | apply pbd | apply bd1 | refine bse ?_ (IsS68.ge HI451.out)) | exact HB.out)⟩⟩
  case round =>
    clear H'; (try clear c2); (try clear p2); (try clear c4); obtain ⟨x6_1, x7_1, x452001_1, x452002_1, rfl, HA, HK1, HO_5, HO_6, HI451, HB⟩ := hrel
    cases gk with
    | zero => exact absurd HA.out (by simp [spec_DrawWork.l0])
    | succ k1 =>
      have H := HA.out; clear HA; simp only [spec_DrawWork.l0] at H; by_cases c7 : x7_1 < 6
      · rw [if_pos c7] at H; have c7b0 : decide (x7_1 < 6) = true := decide_eq_true c7; clear c7; replace H := Option.bind_eq_some_iff.mp H; obtain ⟨⟨t460, t461, t462⟩, A80, H⟩ := H; have A8 := qK A80; clear A80; by_cases c9 : x6_1.length < 8796093022208
        · rw [if_pos c9] at H; have LMc9 := qK c9; clear c9; obtain ⟨y463, hy463⟩ : ∃ y_ : List ByteArray, y_ = (x6_1 ++ [t460]) := ⟨_, rfl⟩; (replace H : (spec_DrawWork.l0 k1 t452 y463 (wrap64 (x7_1 + 1)) l0 t461 t462) = some (r1, r2) := by first | (rw [hy463]; with_reducible exact H) | (have H2_ := (Option.bind_some _ _).symm.trans H; rw [hy463]; with_reducible exact H2_) | (have H2_ := (Option.bind_some _ _).symm.trans H; with_reducible exact H2_) | with_reducible exact H | (rw [hy463]; exact H) | exact H); have Ny463 := qK hy463; clear hy463; have H' := qK H; clear H; go_wp2_with (first | ((with_reducible refine gcl (f := 43) rfl ?_); refine goesL_ (some 20) rfl rfl Try.func43 (by kernel_rfl) rfl #[.pointer (some ⟨gb451, 0, none⟩), .int .i64 40] rfl qA ?_; (with_reducible refine (spec_l1DrawBytes.calls k1 gb451 l0 x452001_1 x452002_1 40 t460 t461 t462 w _ ?side1 ?side2 A8.out).mono ?_); (case side1 => repeat (first | (with_reducible first | exact HI451.out | apply IsS68.alloc | apply IsS68.drewN | apply IsS68.drew | apply IsS68.set_1 | apply IsS68.set_2) | exact HI451.out)); (case side2 => repeat (first | (with_reducible first | exact HB.out | apply bal | apply pbd | apply bd1 | refine bse ?_ (IsS68.ge HI451.out)) | exact HB.out)); rintro e w10 ⟨rfl, hi, hb, hk⟩; refine ⟨_, rfl, ?_⟩; replace HO_5 := qK (Kd.Rmo (Kd.R_keep (IsS68.apart (show IsS68 w _ gb451 l0 x452001_1 x452002_1 from by repeat (first | (with_reducible first | exact HI451.out | apply IsS68.alloc | apply IsS68.drewN | apply IsS68.drew | apply IsS68.set_1 | apply IsS68.set_2) | exact HI451.out)) (qRb HO_5) (by decide)) hk (fun _ h => h.2)) (fun _ h => h.1)); replace HO_6 := qK (Kd.Rmo (Kd.R_keep (IsS68.apart (show IsS68 w _ gb451 l0 x452001_1 x452002_1 from by repeat (first | (with_reducible first | exact HI451.out | apply IsS68.alloc | apply IsS68.drewN | apply IsS68.drew | apply IsS68.set_1 | apply IsS68.set_2) | exact HI451.out)) (qRb HO_6) (by decide)) hk (fun _ h => h.2)) (fun _ h => h.1)); replace HB := qK (hb); replace HI451 := qK (hi); (try clear hb); (try clear hb2); (try clear hk); (try clear hi)) | ((with_reducible refine gbu (b := .append) (xs := #[.tmp 18, .tmp 21]) rfl ?_); at_builtin; refine Kd.R_append Kd.string (w0 := w) w.heap.size rfl (.tmp 18) (.tmp 21) 40 9 (.string ⟨#[]⟩) 16 rfl Try.underlying40 info9 rfl (by decide) (by omega) u6 x6_1 t460 [.string t460] (fun k_ => some k_ ≠ (v453 : Value).ownBlock) (fun _ => False) rfl rfl ?aP (fun _ hk => hk.elim) ?aF ?aO ?aB ?aS ?aL ?_; (case aP => exact rfl); (case aB => exact (by repeat (first | (with_reducible first | exact HB.out | apply bal | apply pbd | apply bd1 | refine bse ?_ (IsS68.ge HI451.out)) | exact HB.out))); (case aF => exact (fun k_ hk => Kd.fresh' (Kd.R_lt (qRb HO_5)) k_ hk)); (case aO => exact (qRb HO_6)); (case aS => exact (bsz (by repeat (first | (with_reducible first | exact HB.out | apply bal | apply pbd | apply bd1 | refine bse ?_ (IsS68.ge HI451.out)) | exact HB.out)))); (case aL => have := LMc9.out; omega); intro v464 w11 ho hb hg hat; rw [← Ny463.out] at ho; replace HO_5 := qK (Kd.R_after (ok := (fun _ => True)) (by (with_reducible repeat (first | apply Kd.Ral | apply Kd.RdN | apply Kd.Rdr)); exact Kd.Rmo HO_5.out (fun _ hk => ⟨trivial, hk⟩)) hg hat); replace HI451 := qK (IsS68.grown (by repeat (first | (with_reducible first | exact HI451.out | apply IsS68.alloc | apply IsS68.drewN | apply IsS68.drew | apply IsS68.set_1 | apply IsS68.set_2) | exact HI451.out)) hg (IsS68.own_ne HI451.out HO_6.out (by decide))); replace HB := qK (hb); have HO465 := qK (ho); clear HO_6; clear ho hb hg hat)); go_roundg k1
          case measure => have := HK1.out; omega
          case rel => exact ⟨(y463), (wrap64 (x7_1 + 1)), (t461), (t462), qS, H', ⟨by have := HK1.out; omega⟩, ⟨by (with_reducible repeat (first | apply Kd.Ral | apply Kd.RdN | apply Kd.Rdr)); exact Kd.Rmo HO_5.out (fun _ hk => hk.2)⟩, ⟨by (with_reducible repeat (first | apply Kd.Ral | apply Kd.RdN | apply Kd.Rdr)); exact HO465.out⟩, ⟨by repeat (first | (with_reducible first | exact HI451.out | apply IsS68.alloc | apply IsS68.drewN | apply IsS68.drew | apply IsS68.set_1 | apply IsS68.set_2) | exact HI451.out)⟩, ⟨by repeat (first | (with_reducible first | exact HB.out | apply bal | apply pbd | apply bd1 | refine bse ?_ (IsS68.ge HI451.out)) | exact HB.out)⟩⟩
        · rw [if_neg c9] at H; exact absurd H (by simp)
      · rw [if_neg c7] at H; have c7b0 : decide (x7_1 < 6) = false := decide_eq_false c7; clear c7; simp only [Option.some.injEq, Prod.mk.injEq] at H; obtain ⟨rfl, rfl⟩ := H; go_wp2; go_ret2; exact ⟨_, _, qR, by (with_reducible repeat (first | apply Kd.Ral | apply Kd.RdN | apply Kd.Rdr)); exact HO_5.out, by (with_reducible repeat (first | apply Kd.Ral | apply Kd.RdN | apply Kd.Rdr)); exact HO_6.out, by repeat (first | (with_reducible first | exact HB.out | apply bal | apply pbd | apply bd1 | refine bse ?_ (IsS68.ge HI451.out)) | exact HB.out)⟩
def laws_hPick.f (l0 : List Int) (a1 : Int) (a2 : Int) : Option (Int) := if (l0.length : Int) = 0 then (some 0) else (if a2 ≤ 1 then (some 0) else (if 0 ≤ (Int.tmod a1 (l0.length : Int)) then (if (Int.tmod a1 (l0.length : Int)) < (l0.length : Int) then (if a2 = 0 then (none) else (some (Int.tmod (wrap64 (rd l0 (Int.tmod a1 (l0.length : Int)))) a2))) else (none)) else (none)))
set_option maxHeartbeats 8000000 in
set_option maxRecDepth 100000 in
theorem laws_hPick.calls (A0 : Option Addr) (c0 : Nat) (l0 : List Int) (a1 : Int) (a2 : Int) (r : Int) (w : World) (hr0 : Kd.C (Kd.int .u8) w A0 l0.length l0) (hc0 : l0.length ≤ c0) (h : laws_hPick.f l0 a1 a2 = some r) :
    Calls Try.prog 21 #[.slice A0 l0.length c0, .int .i64 a1, .int .i64 a2] w fun e w' => e = .returned (.int .i64 r) ∧ Drawn0 w w' := by
  have HR0 := qK hr0; have HC0 := qK hc0; clear hr0 hc0; have H : (if (l0.length : Int) = 0 then (some 0) else (if a2 ≤ 1 then (some 0) else (if 0 ≤ (Int.tmod a1 (l0.length : Int)) then (if (Int.tmod a1 (l0.length : Int)) < (l0.length : Int) then (if a2 = 0 then (none) else (some (Int.tmod (wrap64 (rd l0 (Int.tmod a1 (l0.length : Int)))) a2))) else (none)) else (none)))) = some r := h; clear h; by_cases c4 : (l0.length : Int) = 0
  · rw [if_pos c4] at H; have c4b0 : ((l0.length : Int) == 0) = true := beq_iff_eq.mpr c4; have c4b1 : ((l0.length : Int) != 0) = false := bne_eq_false_iff_eq.mpr c4; clear c4; obtain rfl := Option.some.inj H; go_enter Try.func21, Try.ntmps21; go_wp2; go_ret; exact ⟨by first | rfl | (simp; done) | (simp [*]; done), by repeat (first | exact Drawn0.refl _ | apply Drawn0.step)⟩
  · rw [if_neg c4] at H; have c4b0 : ((l0.length : Int) == 0) = false := beq_eq_false_iff_ne.mpr c4; have c4b1 : ((l0.length : Int) != 0) = true := bne_iff_ne.mpr c4; have c4b2 : ¬ (l0 = []) := fun h_ => c4 (by rw [h_]; rfl); by_cases c5 : a2 ≤ 1
    · rw [if_pos c5] at H; have c5b0 : decide (a2 ≤ 1) = true := decide_eq_true c5; clear c5; obtain rfl := Option.some.inj H; go_enter Try.func21, Try.ntmps21; go_wp2; go_ret; exact ⟨by first | rfl | (simp; done) | (simp [*]; done), by repeat (first | exact Drawn0.refl _ | apply Drawn0.step)⟩
    · rw [if_neg c5] at H; have c5b0 : decide (a2 ≤ 1) = false := decide_eq_false c5; clear c5; obtain ⟨ji6, hji6⟩ : ∃ j_ : Int, (Int.tmod a1 (l0.length : Int)) = j_ := ⟨_, rfl⟩; (replace H : (if 0 ≤ (ji6) then (if (ji6) < (l0.length : Int) then (if a2 = 0 then (none) else (some (Int.tmod (wrap64 (rd l0 (ji6))) a2))) else (none)) else (none)) = some r := by first | (rw [hji6] at H; exact H) | (simp only [hji6] at H ⊢; exact H)); by_cases c7 : 0 ≤ (ji6)
      · rw [if_pos c7] at H; have c7b0 : decide (0 ≤ (ji6)) = true := decide_eq_true c7; clear c7; by_cases c8 : (ji6) < (l0.length : Int)
        · rw [if_pos c8] at H; have c8b0 : decide ((ji6) < (l0.length : Int)) = true := decide_eq_true c8; clear c8; by_cases c9 : a2 = 0
          · rw [if_pos c9] at H; exact absurd H (by simp)
          · rw [if_neg c9] at H; have c9b0 : (a2 == 0) = false := beq_eq_false_iff_ne.mpr c9; have c9b1 : (a2 != 0) = true := bne_iff_ne.mpr c9; obtain rfl := Option.some.inj H; have p466 : 0 ≤ ((ji6) : Int) := of_decide_eq_true qa; have q466 : (ji6) < (l0.length : Int) := of_decide_eq_true qa; obtain ⟨ad466, e466, hx466_0⟩ := Kd.at_int HR0.out (ji6) p466 q466; cases e466; replace p466 := eq_true p466; replace q466 := eq_true q466; go_enter Try.func21, Try.ntmps21; go_wp2; go_ret; exact ⟨by first | rfl | (simp; done) | (simp only [← hji6] <;> (first | rfl | simp)) | (simp [*]; done), by repeat (first | exact Drawn0.refl _ | apply Drawn0.step)⟩
        · rw [if_neg c8] at H; exact absurd H (by simp)
      · rw [if_neg c7] at H; exact absurd H (by simp)
def impl_number.l0 : Nat → Int → Int → List Int → Int → Int → Option (ByteArray)
  | 0, _, _, _, _, _ => none
  | k + 1, x0, x1, x5, x10, x11 => if x11 < x10 then (if 0 ≤ (wrap64 (8 * (wrap64 ((wrap64 (x1 - 1)) - x11)))) then (if 0 ≤ x11 then (if x11 < (x5.length : Int) then (impl_number.l0 k x0 x1 (x5.set (x11 : Int).toNat ((shr .i64 x0 (wrap64 (8 * (wrap64 ((wrap64 (x1 - 1)) - x11))))) % 256)) x10 (wrap64 (x11 + 1))) else (none)) else (none)) else (none)) else (some (strOfNums x5))
def impl_number.f (k : Nat) (a0 : Int) (a1 : Int) : Option (ByteArray) := if 0 ≤ a1 then (if (a1 : Int).toNat ≤ 281474976710656 then ((some (List.replicate (a1 : Int).toNat 0 : List Int)).bind fun y467 => (impl_number.l0 k a0 a1 y467 (y467.length : Int) 0)) else (none)) else (none)
theorem impl_number.mono_l : ∀ k, (∀ y0 y1 y2 y3 y4, LeO (impl_number.l0 k y0 y1 y2 y3 y4) (impl_number.l0 (k + 1) y0 y1 y2 y3 y4))
  | 0 => fun _ _ _ _ _ r h => by simp [impl_number.l0] at h
  | k + 1 => by
    have ih0 := impl_number.mono_l k
    · intro y0 y1 y2 y3 y4
      unfold impl_number.l0
      repeat' first
      | (with_reducible exact ih0 _ _ _ _ _)
      | (with_reducible exact LeO.refl _)
      | (with_reducible exact LeO.none _)
      | (with_reducible refine LeO.ite ?_ ?_)
      | (with_reducible refine LeO.bind ?_ (fun _ => ?_))
      | exact ih0 _ _ _ _ _
      | exact LeO.none _
      | refine LeO.ite ?_ ?_
      | refine LeO.bind ?_ (fun _ => ?_)
theorem impl_number.mono : ∀ a0 a1 k, LeO (impl_number.f k a0 a1) (impl_number.f (k + 1) a0 a1) := by
  intro a0 a1 k
  have ih0 := impl_number.mono_l k
  unfold impl_number.f
  repeat' first
      | (with_reducible exact ih0 _ _ _ _ _)
      | (with_reducible exact LeO.refl _)
      | (with_reducible exact LeO.none _)
      | (with_reducible refine LeO.ite ?_ ?_)
      | (with_reducible refine LeO.bind ?_ (fun _ => ?_))
      | exact ih0 _ _ _ _ _
      | exact LeO.none _
      | refine LeO.ite ?_ ?_
      | refine LeO.bind ?_ (fun _ => ?_)
set_option maxHeartbeats 8000000 in
set_option maxRecDepth 100000 in
theorem impl_number.calls (k : Nat) (a0 : Int) (a1 : Int) (r : ByteArray) (w : World) (h : impl_number.f k a0 a1 = some r) :
    Calls Try.prog 71 #[.int .i64 a0, .int .i64 a1] w fun e w' => e = .returned (.string r) ∧ Below w.heap.size w w' := by
  have HB := qK (Below.refl w.heap.size w); have H : (if 0 ≤ a1 then (if (a1 : Int).toNat ≤ 281474976710656 then ((some (List.replicate (a1 : Int).toNat 0 : List Int)).bind fun y467 => (impl_number.l0 k a0 a1 y467 (y467.length : Int) 0)) else (none)) else (none)) = some r := h; clear h; by_cases c3 : 0 ≤ a1
  · rw [if_pos c3] at H; have c3b0 := eq_true c3; have c3b1 : decide (0 ≤ a1) = true := decide_eq_true c3; clear c3; by_cases c4 : (a1 : Int).toNat ≤ 281474976710656
    · rw [if_pos c4] at H; have c4b0 := eq_true c4; have c4b1 : decide ((a1 : Int).toNat ≤ 281474976710656) = true := decide_eq_true c4; clear c4; obtain ⟨y467, hy467⟩ : ∃ y_ : List Int, y_ = (List.replicate (a1 : Int).toNat 0) := ⟨_, rfl⟩; (replace H : (impl_number.l0 k a0 a1 y467 (y467.length : Int) 0) = some r := by first | (rw [hy467]; with_reducible exact H) | (have H2_ := (Option.bind_some _ _).symm.trans H; rw [hy467]; with_reducible exact H2_) | (have H2_ := (Option.bind_some _ _).symm.trans H; with_reducible exact H2_) | with_reducible exact H | (rw [hy467]; exact H) | exact H); have Ny467 := qK hy467; clear hy467; have H' := qK H; clear H; go_enter Try.func71, Try.ntmps71; go_wp2_with (first | ((with_reducible refine gds (N := 8) rfl ?_); refine Kd.R_make (Kd.int .u8) _ 5 rfl (N := 8) rfl 46 _ _ rfl a1 rfl rfl Try.underlying46 (.int .u8 0) 1 info5 rfl (by decide) (by omega) 0 (ok := fun _ => True) (okp := fun _ => True) rfl (fun _ hk => hk) trivial (of_decide_eq_true qa) (Nat.le_trans (Nat.mul_le_mul_right _ (of_decide_eq_true qa : a1.toNat ≤ 281474976710656)) (by omega)) (Below.refl _ _) (Nat.le_refl _) ?_; intro v468 w5 ho6 hb hg_ hnew_; clear hg_ hnew_; (first | rw [← Ny467.out] at ho6 | (simp only [Int.reduceToNat] at ho6; rw [← Ny467.out] at ho6)); have HO469 := qK (Kd.Rlo ho6 (bsz qB)); replace HB := qHB HB hb; clear hb ho6; obtain ⟨Ao7, co7, eo7⟩ := Kd.R_slice HO469.out; subst eo7)); go_loopg [11] k (fun kq v11 w' => ∃ (x5_1 : List Int) (x11_1 : Int), v11 = .int .i64 x11_1 ∧ Aside0 (impl_number.l0 kq a0 a1 x5_1 (y467.length : Int) x11_1 = some r) ∧ Aside0 (kq ≤ k) ∧ Aside0 (Kd.R (Kd.int .u8) 5 w' w.heap.size (fun _ => True) (.slice Ao7 y467.length co7) x5_1) ∧ Aside0 (Below w.heap.size w w'))
      case atStart => exact ⟨(y467), (0), qS, H', ⟨Nat.le_refl _⟩, ⟨by (with_reducible repeat (first | apply Kd.Ral | apply Kd.RdN | apply Kd.Rdr)); exact HO469.out⟩, ⟨qB⟩⟩
      case round =>
        clear H'; (try clear p2); (try clear c3); (try clear c3b0); (try clear c3b1); (try clear c4); (try clear c4b0); (try clear c4b1); (try clear c7); obtain ⟨x5_1, x11_1, rfl, HA, HK1, HO_5, HB⟩ := hrel; have hl5_1 := (Kd.R_reads' HO_5.out).1; rw [hl5_1] at HO_5; (try simp only [hl5_1])
        cases gk with
        | zero => exact absurd HA.out (by simp [impl_number.l0])
        | succ k1 =>
          have H := HA.out; clear HA; simp only [impl_number.l0] at H; by_cases c8 : x11_1 < (y467.length : Int)
          · rw [if_pos c8] at H; have c8b0 : decide (x11_1 < (y467.length : Int)) = true := decide_eq_true c8; clear c8; obtain ⟨ji9, hji9⟩ : ∃ j_ : Int, (wrap64 (8 * (wrap64 ((wrap64 (a1 - 1)) - x11_1)))) = j_ := ⟨_, rfl⟩; (replace H : (if 0 ≤ (ji9) then (if 0 ≤ x11_1 then (if x11_1 < (x5_1.length : Int) then (impl_number.l0 k1 a0 a1 (x5_1.set (x11_1 : Int).toNat ((shr .i64 a0 (ji9)) % 256)) (y467.length : Int) (wrap64 (x11_1 + 1))) else (none)) else (none)) else (none)) = some r := by first | (rw [hji9] at H; exact H) | (simp only [hji9] at H ⊢; exact H)); have hji9w : (IntKind.i64.wrap (8 * (wrap64 ((wrap64 (a1 - 1)) - x11_1)))) = ji9 := (i64_w _).trans hji9; by_cases c10 : 0 ≤ (ji9)
            · rw [if_pos c10] at H; have c10b0 := eq_true c10; have c10b1 : decide (0 ≤ (ji9)) = true := decide_eq_true c10; clear c10; obtain ⟨ji11, hji11⟩ : ∃ j_ : Int, (shr .i64 a0 (ji9)) = j_ := ⟨_, rfl⟩; (replace H : (if 0 ≤ x11_1 then (if x11_1 < (x5_1.length : Int) then (impl_number.l0 k1 a0 a1 (x5_1.set (x11_1 : Int).toNat ((ji11) % 256)) (y467.length : Int) (wrap64 (x11_1 + 1))) else (none)) else (none)) = some r := by first | (rw [hji11] at H; exact H) | (simp only [hji11] at H ⊢; exact H)); have hji11_ : (a0 / 2 ^ min (ji9).toNat 64) = ji11 := hji11; have hji11z : (ji9) ≤ 64 → (a0 / 2 ^ (ji9).toNat) = ji11 := shr_small hji11; by_cases c12 : 0 ≤ x11_1
              · rw [if_pos c12] at H; have c12b0 : decide (0 ≤ x11_1) = true := decide_eq_true c12; clear c12; by_cases c13 : x11_1 < (x5_1.length : Int)
                · rw [if_pos c13] at H; have c13b0 : decide (x11_1 < (x5_1.length : Int)) = true := decide_eq_true c13; clear c13; obtain ⟨y470, hy470⟩ : ∃ y_ : List Int, y_ = (x5_1.set (x11_1 : Int).toNat ((ji11) % 256)) := ⟨_, rfl⟩; (replace H : (impl_number.l0 k1 a0 a1 y470 (y467.length : Int) (wrap64 (x11_1 + 1))) = some r := by first | (rw [hy470]; with_reducible exact H) | (have H2_ := (Option.bind_some _ _).symm.trans H; rw [hy470]; with_reducible exact H2_) | (have H2_ := (Option.bind_some _ _).symm.trans H; with_reducible exact H2_) | with_reducible exact H | (rw [hy470]; exact H) | exact H); have Ny470 := qK hy470; clear hy470; have H' := qK H; clear H; have p14 : 0 ≤ (x11_1 : Int) := of_decide_eq_true qa; have q14 : (x11_1 : Int) < ((x5_1.length : Int) : Int) := of_decide_eq_true qa; obtain ⟨go14, co14, eo14, gb14, gl14, cl14, HG14⟩ := Kd.R_form HO_5.out (by omega); (first | cases eo14 | (injection eo14 with ea_ en_ ec_; (first | subst ea_ | (injection ea_ with ea_; subst ea_)); subst ec_; clear en_)); have GB14 := qK gb14; have GG14 := qK HG14; clear gb14 gl14 HG14; obtain ⟨hx14_0, hf14_0⟩ := Kd.R_celln 0 HO_5.out (x11_1 : Int) p14 q14; replace p14 := eq_true p14; replace q14 := eq_true q14; have HP15 := Kd.R_putg HO_5.out (x11_1 : Int) ((ji11) % 256); go_wp2_with (first | ((with_reducible refine gst (t := 5) (p := 24) rfl ?_); refine ste (t := 5) (p := 24) (v := ?vo_w16) (w1 := (wr.setCell ⟨go14, (x11_1 : Int).toNat, none⟩ (.int .u8 ((ji11) % 256)))) ?hg ?ho ?hn ?hr ?_; (case ho => rfl); (case hg => rfl); (case hn => rfl); (case hr => first | (go_simp; done) | (go_simp; rfl)); intro w16 hw; have hg : wr.grownBy w16 (some go14) := (by rw [hw]; exact HP15.2); have hp_ : Kd.R (Kd.int .u8) 5 w16 w.heap.size (fun _ => True) (.slice (some ⟨go14, 0, none⟩) x5_1.length co7) y470 := (by rw [hw, Ny470.out]; exact HP15.1); clear HP15; replace HO_5 := qK (hp_); replace HB := qK ((by rw [hw]; exact bse (HB.out) GB14.out : Below w.heap.size w w16)); clear hg hw hp_)); (try simp only [← hl5_1]); go_roundg k1
                  case measure => have := HK1.out; omega
                  case rel => exact ⟨(y470), (wrap64 (x11_1 + 1)), qS, H', ⟨by have := HK1.out; omega⟩, ⟨by (try simp only [hl5_1]); (with_reducible repeat (first | apply Kd.Ral | apply Kd.RdN | apply Kd.Rdr)); exact HO_5.out⟩, ⟨qB⟩⟩
                · rw [if_neg c13] at H; exact absurd H (by simp)
              · rw [if_neg c12] at H; exact absurd H (by simp)
            · rw [if_neg c10] at H; exact absurd H (by simp)
          · rw [if_neg c8] at H; have c8b0 : decide (x11_1 < (y467.length : Int)) = false := decide_eq_false c8; clear c8; obtain rfl := Option.some.inj H; (have c8b1 : decide (x11_1 < (x5_1.length : Int)) = false := by rw [← hl5_1]; exact c8b0); have hcv17 := own_string (P := Try.prog) Try.underlying46 Try.underlying5 Try.underlying9 (Kd.own_of_R HO_5.out); go_wp2; go_ret; exact ⟨qR, qB⟩
    · rw [if_neg c4] at H; exact absurd H (by simp)
  · rw [if_neg c3] at H; exact absurd H (by simp)
def impl_u32.f (k : Nat) (a0 : Int) : Option (ByteArray) := (impl_number.f k a0 4).bind fun t471 => (some t471)
theorem impl_u32.mono : ∀ a0 k, LeO (impl_u32.f k a0) (impl_u32.f (k + 1) a0) := by
  intro a0 k
  unfold impl_u32.f
  repeat' first
      | (with_reducible exact impl_number.mono _ _ _)
      | (with_reducible exact LeO.refl _)
      | (with_reducible exact LeO.none _)
      | (with_reducible refine LeO.ite ?_ ?_)
      | (with_reducible refine LeO.bind ?_ (fun _ => ?_))
      | exact impl_number.mono _ _ _
      | exact LeO.none _
      | refine LeO.ite ?_ ?_
      | refine LeO.bind ?_ (fun _ => ?_)
set_option maxHeartbeats 8000000 in
set_option maxRecDepth 100000 in
theorem impl_u32.calls (k : Nat) (a0 : Int) (r : ByteArray) (w : World) (h : impl_u32.f k a0 = some r) :
    Calls Try.prog 44 #[.int .i64 a0] w fun e w' => e = .returned (.string r) ∧ Below w.heap.size w w' := by
  have HB := qK (Below.refl w.heap.size w); have H : ((impl_number.f k a0 4).bind fun t471 => (some t471)) = some r := h; clear h; replace H := Option.bind_eq_some_iff.mp H; obtain ⟨t471, A20, H⟩ := H; have A2 := qK A20; clear A20; obtain rfl := Option.some.inj H; go_enter Try.func44, Try.ntmps44; go_wp2_with (first | ((with_reducible refine gcl (f := 71) rfl ?_); refine goesL_ (some 4) rfl rfl Try.func71 (by kernel_rfl) rfl #[.int .i64 a0, .int .i64 4] rfl qA ?_; (with_reducible refine (impl_number.calls k a0 4 t471 _ A2.out).mono ?_); rintro e w3 ⟨rfl, hb⟩; refine ⟨_, rfl, ?_⟩; replace HB := qHB HB hb; (try clear hb); (try clear hb2); (try clear hk); (try clear hi))); go_ret; exact ⟨qR, qB⟩
def impl_Frame.j0 : Nat → ByteArray → Bool → Option (ByteArray)
  | 0, _, _ => none
  | k + 1, x0, x10 => if x10 = true then (some (⟨#[]⟩ : ByteArray)) else ((impl_u32.f k (x0.size : Int)).bind fun t472 => ((impl_Crc32.f x0).bind fun t473 => ((impl_u32.f k t473).bind fun t474 => (if t472.size + t474.size ≤ 9223372036854775807 then (if (t472 ++ t474).size + x0.size ≤ 9223372036854775807 then (some ((t472 ++ t474) ++ x0)) else (none)) else (none)))))
def impl_Frame.f (k : Nat) (a0 : ByteArray) : Option (ByteArray) := if (a0.size : Int) < 1 then (impl_Frame.j0 k a0 true) else (impl_Frame.j0 k a0 (decide ((a0.size : Int) > 60000)))
theorem impl_Frame.mono_l : ∀ k, (∀ y0 y1, LeO (impl_Frame.j0 k y0 y1) (impl_Frame.j0 (k + 1) y0 y1))
  | 0 => fun _ _ r h => by simp [impl_Frame.j0] at h
  | k + 1 => by
    have ih0 := impl_Frame.mono_l k
    · intro y0 y1
      unfold impl_Frame.j0
      repeat' first
      | (with_reducible exact ih0 _ _)
      | (with_reducible exact impl_u32.mono _ _)
      | (with_reducible exact LeO.refl _)
      | (with_reducible exact LeO.none _)
      | (with_reducible refine LeO.ite ?_ ?_)
      | (with_reducible refine LeO.bind ?_ (fun _ => ?_))
      | exact ih0 _ _
      | exact impl_u32.mono _ _
      | exact LeO.none _
      | refine LeO.ite ?_ ?_
      | refine LeO.bind ?_ (fun _ => ?_)
theorem impl_Frame.mono : ∀ a0 k, LeO (impl_Frame.f k a0) (impl_Frame.f (k + 1) a0) := by
  intro a0 k
  have ih0 := impl_Frame.mono_l k
  unfold impl_Frame.f
  repeat' first
      | (with_reducible exact ih0 _ _)
      | (with_reducible exact impl_u32.mono _ _)
      | (with_reducible exact LeO.refl _)
      | (with_reducible exact LeO.none _)
      | (with_reducible refine LeO.ite ?_ ?_)
      | (with_reducible refine LeO.bind ?_ (fun _ => ?_))
      | exact ih0 _ _
      | exact impl_u32.mono _ _
      | exact LeO.none _
      | refine LeO.ite ?_ ?_
      | refine LeO.bind ?_ (fun _ => ?_)
set_option maxHeartbeats 8000000 in
set_option maxRecDepth 100000 in
theorem impl_Frame.calls (k : Nat) (a0 : ByteArray) (r : ByteArray) (w : World) (h : impl_Frame.f k a0 = some r) :
    Calls Try.prog 22 #[.string a0] w fun e w' => e = .returned (.string r) ∧ Below w.heap.size w w' := by
  have HB := qK (Below.refl w.heap.size w); have H : (if (a0.size : Int) < 1 then (impl_Frame.j0 k a0 true) else (impl_Frame.j0 k a0 (decide ((a0.size : Int) > 60000)))) = some r := h; clear h; have HC2 := qK H; clear H; go_enter Try.func22, Try.ntmps22; go_upto_region 1 with (fail); go_cut [10] (fun v10 wc => ∃ (kq : Nat) (x10_1 : Bool), v10 = .bool x10_1 ∧ Aside0 (impl_Frame.j0 kq a0 x10_1 = some r) ∧ Aside0 (kq ≤ k) ∧ Aside0 (Below w.heap.size w wc))
  case first =>
    have H := HC2.out; clear HC2; by_cases c3 : (a0.size : Int) < 1
    · rw [if_pos c3] at H; have c3b0 : decide ((a0.size : Int) < 1) = true := decide_eq_true c3; have c3b1 : decide (a0.size < 1) = true := decide_eq_true (by omega); clear c3; (first | rw [c3b0] | (simp only [i64_w, i32_w]; rw [c3b0]) | skip); have H' := qK H; clear H; go_wp2; go_meet
      case rel => exact ⟨_, (true), qS, H', ⟨by first | omega | exact Nat.le_refl _⟩, ⟨qB⟩⟩
    · rw [if_neg c3] at H; have c3b0 : decide ((a0.size : Int) < 1) = false := decide_eq_false c3; have c3b1 : decide (a0.size < 1) = false := decide_eq_false (by omega); clear c3; (first | rw [c3b0] | (simp only [i64_w, i32_w]; rw [c3b0]) | skip); have H' := qK H; clear H; go_wp2; go_meet
      case rel => exact ⟨_, (decide ((a0.size : Int) > 60000)), qS, H', ⟨by first | omega | exact Nat.le_refl _⟩, ⟨qB⟩⟩
  case rest =>
    clear HC2; (try clear c2); (try clear p2); (try clear c3); (try clear c3b0); (try clear c3b1); obtain ⟨kq, x10_1, rfl, HA, HJ1, HB⟩ := hcut
    cases kq with
    | zero => exact absurd HA.out (by simp [impl_Frame.j0])
    | succ kj1 =>
      have H := HA.out; clear HA; simp only [impl_Frame.j0] at H; by_cases c4 : x10_1 = true
      · subst c4; rw [if_pos rfl] at H; obtain rfl := Option.some.inj H; go_wp2; go_ret; exact ⟨qR, qB⟩
      · replace c4 := Bool.eq_false_iff.mpr c4; subst c4; rw [if_neg qff] at H; replace H := Option.bind_eq_some_iff.mp H; obtain ⟨t472, A50, H⟩ := H; have A5 := qK A50; clear A50; replace H := Option.bind_eq_some_iff.mp H; obtain ⟨t473, A60, H⟩ := H; have A6 := qK A60; clear A60; replace H := Option.bind_eq_some_iff.mp H; obtain ⟨t474, A70, H⟩ := H; have A7 := qK A70; clear A70; by_cases c8 : t472.size + t474.size ≤ 9223372036854775807
        · rw [if_pos c8] at H; have c8b0 := eq_true c8; have c8b1 : decide (t472.size + t474.size ≤ 9223372036854775807) = true := decide_eq_true c8; (try have c8b2 : (9223372036854775807 < t472.size + t474.size) = False := eq_false (Nat.not_lt.2 c8)); by_cases c9 : (t472 ++ t474).size + a0.size ≤ 9223372036854775807
          · rw [if_pos c9] at H; have c9b0 := eq_true c9; have c9b1 : decide ((t472 ++ t474).size + a0.size ≤ 9223372036854775807) = true := decide_eq_true c9; (try have c9b2 : (9223372036854775807 < (t472 ++ t474).size + a0.size) = False := eq_false (Nat.not_lt.2 c9)); obtain rfl := Option.some.inj H; go_wp2_with (first | ((with_reducible refine gcl (f := 44) rfl ?_); refine goesL_ (some 13) rfl rfl Try.func44 (by kernel_rfl) rfl #[.int .i64 (a0.size : Int)] rfl qA ?_; (with_reducible refine (impl_u32.calls kj1 (a0.size : Int) t472 _ A5.out).mono ?_); rintro e w10 ⟨rfl, hb⟩; refine ⟨_, rfl, ?_⟩; replace HB := qHB HB hb; (try clear hb); (try clear hb2); (try clear hk); (try clear hi)) | ((with_reducible refine gcl (f := 45) rfl ?_); refine goesL_ (some 15) rfl rfl Try.func45 (by kernel_rfl) rfl #[.string a0] rfl qA ?_; (with_reducible refine (impl_Crc32.calls a0 t473 _ A6.out).mono ?_); rintro e w11 ⟨rfl, hb⟩; refine ⟨_, rfl, ?_⟩; replace HB := qHB HB hb; (try clear hb); (try clear hb2); (try clear hk); (try clear hi)) | ((with_reducible refine gcl (f := 44) rfl ?_); refine goesL_ (some 16) rfl rfl Try.func44 (by kernel_rfl) rfl #[.int .i64 t473] rfl qA ?_; (with_reducible refine (impl_u32.calls kj1 t473 t474 _ A7.out).mono ?_); rintro e w12 ⟨rfl, hb⟩; refine ⟨_, rfl, ?_⟩; replace HB := qHB HB hb; (try clear hb); (try clear hb2); (try clear hk); (try clear hi))); go_ret; exact ⟨qR, qB⟩
          · rw [if_neg c9] at H; exact absurd H (by simp)
        · rw [if_neg c8] at H; exact absurd H (by simp)
end Go.Proofs.Ytoebfjfhdodakaa.L
end
section
set_option linter.unusedVariables false
set_option linter.unusedSimpArgs false
namespace Go.Proofs.Ytoebfjfhdodakaa.L
open Go Go.Lib Go.RowKit Go.Proofs.Ytoebfjfhdodakaa Go.Proofs.YtoebfjfhdodakaaW.PrintWords Go.Proofs.YtoebfjfhdodakaaW.PrintLast Go.Proofs.YtoebfjfhdodakaaW.PrintMore
/-- A byte string with one byte set. -/
def setB (s : ByteArray) (i : Nat) (b : UInt8) : ByteArray := ⟨(s.data.toList.set i b).toArray⟩
def byteN (s : ByteArray) (i : Nat) : Int := ((s.data.toList.getD i 0).toNat : Int)
theorem setB_size (s : ByteArray) (i : Nat) (b : UInt8) : (setB s i b).size = s.size := by
  unfold setB
  show (s.data.toList.set i b).toArray.size = s.data.size
  simp
theorem strCells_setB (s : ByteArray) (i : Nat) (b : UInt8) : strCells (setB s i b) = (strCells s).set i (.int .u8 b.toNat) := by
  unfold strCells setB
  rw [List.map_set]
/-- The byte with one bit turned. -/
def turned (v : Int) (j : Nat) : Int := Go.bits .xor .u8 v ((2 : Int) ^ j)
def flipB (s : ByteArray) (p : Nat) : ByteArray := setB s (8 + p / 8) (UInt8.ofNat (turned (byteN s (8 + p / 8)) (p % 8)).toNat)
theorem flipB_size (s : ByteArray) (p : Nat) : (flipB s p).size = s.size := setB_size _ _ _
/-- What the law's loop makes of the frame: n rounds are left. -/
def bGo (pick : Int → Option Int) (fr m : Nat) : Nat → ByteArray → Option ByteArray
  | 0, s => some s
  | n + 1, s => if fr + (31 - n) < 8 * m then (if 31 - n = 0 then some 1 else pick (3 + ((31 - n : Nat) : Int))).bind fun p => bGo pick fr m n (if p = 1 then flipB s (fr + (31 - n)) else s) else some s
theorem byteN_range (s : ByteArray) (i : Nat) : 0 ≤ byteN s i ∧ byteN s i ≤ 255 := by
  unfold byteN
  have := (s.data.toList.getD i 0).toNat_lt
  omega
theorem bytRow_parts {w : World} {base : Nat} {e : TypeId} {v : Value} {s : ByteArray} (h : bytRow w base e v s) :
    ∃ g cap, v = .slice (some ⟨g, 0, none⟩) s.size cap ∧ base ≤ g ∧ g < w.heap.size ∧ ∀ i, i < s.size → w.cell? ⟨g, i, none⟩ = some (.int .u8 (byteN s i)) ∧ w.frozen? ⟨g, i, none⟩ = false ∧
      ∀ b : UInt8, bytRow (w.setCell ⟨g, i, none⟩ (.int .u8 b.toNat)) base e v (setB s i b) := by
  obtain ⟨g, cap, cur, fz, rfl, hbg, hg, hf, hsc, hcm, hcs, htk⟩ := h
  refine ⟨g, cap, rfl, hbg, (Array.getElem?_eq_some_iff.1 hg).1, fun i hi => ⟨?_, frozen_free hg hf (by omega), fun b => ?_⟩⟩
  · have hc : cur[i]? = some (.int .u8 (byteN s i)) := by
      have h2 : (cur.toList.take s.size)[i]? = (strCells s)[i]? := by rw [htk]
      rw [List.getElem?_take, if_pos hi] at h2
      rw [← Array.getElem?_toList, h2]
      unfold strCells byteN
      have hil : i < s.data.toList.length := hi
      simp [List.getElem?_map, List.getElem?_eq_getElem hil, List.getD_eq_getElem?_getD]
    simp only [World.cell?, hg]
    exact hc
  · rw [setCell_eq_setRow w g i cur e fz _ hg]
    refine ⟨g, cap, cur.setIfInBounds i (.int .u8 b.toNat), fz, by rw [setB_size], hbg, setRow_heap w g cur _ e _ hg, by simpa using hf, by rw [setB_size]; exact hsc, hcm, by simpa using hcs, ?_⟩
    rw [setB_size, Array.toList_setIfInBounds, List.take_set, htk, strCells_setB]
theorem bytRow_drewN {w : World} {base : Nat} {e : TypeId} {v : Value} {s : ByteArray} (h : bytRow w base e v s) (n : Nat) : bytRow (w.drewN n) base e v s := h
theorem bytRow_get {w : World} {base g m c : Nat} {e : TypeId} {s : ByteArray} (h : bytRow w base e (.slice (some ⟨g, 0, none⟩) m c) s) (i : Nat) (hi : i < s.size) :
    w.cell? ⟨g, i, none⟩ = some (.int .u8 (byteN s i)) ∧ w.frozen? ⟨g, i, none⟩ = false ∧ base ≤ g ∧ m = s.size := by
  obtain ⟨g', cap, hv, hbg, _, hc⟩ := bytRow_parts h
  injection hv with h1 h2 h3
  injection h1 with h1
  injection h1 with h1 _ _
  subst h1
  exact ⟨(hc i hi).1, (hc i hi).2.1, hbg, h2⟩
theorem bytRow_put {w : World} {base g m c : Nat} {e : TypeId} {s : ByteArray} (h : bytRow w base e (.slice (some ⟨g, 0, none⟩) m c) s) (i : Nat) (hi : i < s.size) (n k : Nat) (b : UInt8) (v : Int) (hv : (b.toNat : Int) = v) (hk : i = k) :
    bytRow ((w.drewN n).setCell ⟨g, k, none⟩ (.int .u8 v)) base e (.slice (some ⟨g, 0, none⟩) m c) (setB s i b) := by
  subst hk
  subst hv
  obtain ⟨g', cap, hv, hbg, _, hc⟩ := bytRow_parts (bytRow_drewN h n)
  injection hv with h1 h2 h3
  injection h1 with h1
  injection h1 with h1 _ _
  subst h1
  exact (hc i hi).2.2 b
theorem turned_range (v : Int) (j : Nat) (h0 : 0 ≤ v) (h1 : v ≤ 255) (hj : j < 8) : ((UInt8.ofNat (turned v j).toNat).toNat : Int) = turned v j := by
  obtain ⟨n, rfl⟩ : ∃ n : Nat, v = n := ⟨v.toNat, by omega⟩
  have hn : n < 256 := by omega
  have h2 : (2 : Int) ^ j = ((2 ^ j : Nat) : Int) := by simp
  have h3 : 2 ^ j < 256 := Nat.pow_lt_pow_right (by decide) hj
  unfold turned
  rw [h2, xorN_u8 n (2 ^ j) hn h3, Int.toNat_natCast, UInt8.toNat_ofNat']
  have h4 : n ^^^ 2 ^ j < 2 ^ 8 := Nat.xor_lt_two_pow hn h3
  rw [Nat.mod_eq_of_lt (by omega)]
theorem turn_put {w : World} {base g m c p x q r n : Nat} {e : TypeId} {s : ByteArray} {v : Int} (h : bytRow w base e (.slice (some ⟨g, 0, none⟩) m c) s)
    (hh : 8 + p / 8 = x ∧ p / 8 = q ∧ p % 8 = r ∧ byteN s (8 + p / 8) = v ∧ 8 + p / 8 < s.size) (_hr : p % 8 = r) :
    bytRow ((w.drewN n).setCell ⟨g, x, none⟩ (.int .u8 (Go.bits .xor .u8 v (2 ^ r)))) base e (.slice (some ⟨g, 0, none⟩) m c) (flipB s p) := by
  obtain ⟨h1, h2, h3, h4, h5⟩ := hh
  have hb := byteN_range s (8 + p / 8)
  refine bytRow_put h (8 + p / 8) h5 n x _ _ ?_ h1
  rw [turned_range _ _ hb.1 hb.2 (Nat.mod_lt _ (by decide)), h4, h3]
  rfl
end Go.Proofs.Ytoebfjfhdodakaa.L
end
section
set_option linter.unusedVariables false
set_option linter.unusedSimpArgs false
namespace Go.Proofs.Ytoebfjfhdodakaa.L
open Go Go.Lib Go.RowKit Go.Proofs.Ytoebfjfhdodakaa Go.Proofs.YtoebfjfhdodakaaW.PrintWords Go.Proofs.YtoebfjfhdodakaaW.PrintLast Go.Proofs.YtoebfjfhdodakaaW.PrintMore
theorem conv_row {w : World} {base : Nat} {v : Value} {s : ByteArray} (h : bytRow w base 5 v s) : (convert 46 9 v).run Try.prog w = .ok (.string s) w :=
  bytRow_string Try.underlying46 Try.underlying5 Try.underlying9 h
abbrev DrawW (A0 : Option Addr) (c0 : Nat) (l0 : List Int) (list texts : List ByteArray) : Prop :=
  ∀ w', Kd.C (Kd.int .u8) w' A0 l0.length l0 → Calls Try.prog 20 #[.slice A0 l0.length c0] w' fun e w'' => ∃ v0_ v1_ : Value, e = .returned (.tuple #[v0_, v1_]) ∧ Kd.R Kd.string 9 w'' w'.heap.size (fun k_ => some k_ ≠ (v1_ : Value).ownBlock) v0_ list ∧ Kd.R Kd.string 9 w'' w'.heap.size (fun k_ => some k_ ≠ (v0_ : Value).ownBlock) v1_ texts ∧ Below w'.heap.size w' w''
abbrev PickW (A1 : Option Addr) (c1 : Nat) (l1 : List Int) (pk : Int → Int → Option Int) : Prop :=
  ∀ i n r w', pk i n = some r → Kd.C (Kd.int .u8) w' A1 l1.length l1 → Calls Try.prog 21 #[.slice A1 l1.length c1, .int .i64 i, .int .i64 n] w' fun e w'' => e = .returned (.int .i64 r) ∧ Drawn0 w' w''
abbrev FrameW (e f : ByteArray) : Prop := ∀ w', Calls Try.prog 22 #[.string e] w' fun x w'' => x = .returned (.string f) ∧ Below w'.heap.size w' w''
abbrev ScanfW (f : ByteArray) (l : List ByteArray) (n : Int) : Prop :=
  ∀ w', Calls Try.prog 16 #[.string f] w' fun x w'' => ∃ v0_ : Value, x = .returned (.tuple #[v0_, .int .i64 n]) ∧ Kd.R Kd.string 9 w'' w'.heap.size (fun _ => True) v0_ l ∧ Below w'.heap.size w' w''
abbrev SameW (e : ByteArray) : Prop :=
  ∀ A c A' c' w', Kd.C Kd.string w' A 1 [e] → 1 ≤ c → Kd.C Kd.string w' A' 1 [e] → 1 ≤ c' → Calls Try.prog 23 #[.slice A 1 c, .slice A' 1 c'] w' fun x w'' => x = .returned (.bool true) ∧ Drawn0 w' w''
theorem wrap_bit (r : Nat) (hr : r < 8) : IntKind.u8.wrap ((2 : Int) ^ r) = (2 : Int) ^ r := by
  rcases r with _ | _ | _ | _ | _ | _ | _ | _ | r
  all_goals first | decide | omega
theorem step_round {n i : Nat} (h : Aside0 (n + 1 + i = 32)) : Aside0 (n + (i + 1) = 32) := ⟨by have := h.out; omega⟩
theorem nat_pos (x : Nat) : (0 ≤ (x : Int)) = True := eq_true (Int.natCast_nonneg x)
theorem nat_ltI {x y : Nat} (h : x < y) : ((x : Int) < (y : Int)) = True := eq_true (by omega)
theorem nat_leI {x y : Nat} (h : x ≤ y) : (x : Int) ≤ (y : Int) := by omega
theorem nat_mod8 {p r : Nat} (h : p % 8 = r) : (p : Int) % 8 = (r : Int) := by omega
theorem nat_tmod8 {p r : Nat} (h : p % 8 = r) : (p : Int).tmod 8 = (r : Int) := by rw [Int.tmod_eq_emod_of_nonneg (Int.natCast_nonneg p)]; omega
theorem wrap_q {p q : Nat} (h : p / 8 = q) (hp : p ≤ 1000000) : IntKind.i64.wrap ((p : Int) / 8) = (q : Int) := by rw [i64_w]; unfold wrap64; omega
theorem wrap_x {p q x : Nat} (h : p / 8 = q) (hx : 8 + p / 8 = x) (hp : p ≤ 1000000) : IntKind.i64.wrap (8 + (q : Int)) = (x : Int) := by rw [i64_w]; unfold wrap64; omega
theorem wrap_s {i : Nat} (h : i ≤ 32) : wrap64 ((i : Int) + 1) = ((i + 1 : Nat) : Int) := by unfold wrap64; omega
theorem wrap_3 {i : Nat} (h : i ≤ 32) : wrap64 (3 + (i : Int)) = 3 + (i : Int) := by unfold wrap64; omega
theorem one_row (w : World) (e : ByteArray) : Kd.C Kd.string (w.alloc (.cells #[.string e] 9)) (some ⟨w.heap.size, 0, none⟩) 1 [e] := by
  refine ⟨rfl, by decide, fun _ => ⟨_, rfl, fun j p hp => ⟨[.string p], rfl, rfl, fun i u hu => ?_⟩⟩⟩
  cases j with
  | succ j => simp at hp
  | zero =>
    cases i with
    | succ i => simp at hu
    | zero =>
      simp only [List.getElem?_cons_zero, Option.some.injEq] at hp hu
      subst hp
      subst hu
      have hb := heap_alloc_new w (.cells #[.string e] 9)
      have ha : (⟨w.heap.size, 0, none⟩ : Addr).add 0 = ⟨w.heap.size, 0, none⟩ := by unfold Addr.add; split <;> simp_all
      show (w.alloc (.cells #[.string e] 9)).cell? ((⟨w.heap.size, 0, none⟩ : Addr).add 0) = _
      rw [ha]
      simp only [World.cell?, hb]
      rfl
set_option maxHeartbeats 8000000 in
set_option maxRecDepth 100000 in
theorem burst_any (A0 : Option Addr) (c0 : Nat) (l0 : List Int) (A1 : Option Addr) (c1 : Nat) (l1 : List Int) (w : World) (hr0 : Kd.C (Kd.int .u8) w A0 l0.length l0) (hr1 : Kd.C (Kd.int .u8) w A1 l1.length l1)
    (hl0 : l0.length ≤ 1048576) (hl1 : l1.length ≤ 1048576) (list texts : List ByteArray) (hD : DrawW A0 c0 l0 list texts) (pk : Int → Int → Option Int) (hpk : PickW A1 c1 l1 pk)
    (j : Nat) (hj : pk 0 (list.length : Int) = some (j : Int)) (hjl : j < list.length) (e f : ByteArray) (he : rdOf ByteArray.empty list (j : Int) = e) (hF : FrameW e f) (hf : f.size = e.size + 8) (hm0 : 1 ≤ e.size) (hm1 : e.size ≤ 100000)
    (hS : ScanfW f [e] (f.size : Int)) (hE : SameW e) (p1 p2 : Int) (hp1 : pk 1 256 = some p1) (hp2 : pk 2 256 = some p2) (fr : Nat) (hfr : Int.tmod (wrap64 (wrap64 (p1 * 256) + p2)) (wrap64 (8 * (e.size : Int))) = (fr : Int)) (hfr2 : fr < 8 * e.size)
    (g : ByteArray) (hg : bGo (fun i => pk i 2) fr e.size 32 f = some g) (hS2 : ScanfW g [] 0) :
    Calls Try.prog 5 #[.slice A0 l0.length c0, .slice A1 l1.length c1] w fun e w' => e = .returned (.bool true) ∧ Below w.heap.size w w' := by
  have HR0 := Aside0.mk hr0
  have HR1 := Aside0.mk hr1
  have HB := Aside0.mk (Below.refl w.heap.size w)
  have HD := Aside0.mk hD
  have HPK := Aside0.mk hpk
  have HJ := Aside0.mk (And.intro hj (And.intro he (And.intro hp1 hp2)))
  have HF := Aside0.mk hF
  have HS := Aside0.mk hS
  have HE := Aside0.mk hE
  have HG := Aside0.mk hg
  have HS2 := Aside0.mk hS2
  have d0 : decide ((1048576 : Int) < (l0.length : Int)) = false := decide_eq_false (by omega)
  have d1 : decide ((1048576 : Int) < (l1.length : Int)) = false := decide_eq_false (by omega)
  have d2 : decide (1048576 < l0.length) = false := decide_eq_false (by omega)
  have d3 : decide (1048576 < l1.length) = false := decide_eq_false (by omega)
  have hjz : (j : Int) < (list.length : Int) := by omega
  have hj0 : (0 : Int) ≤ (j : Int) := by omega
  have HFR := Aside0.mk (And.intro hfr hfr2)
  have HM := Aside0.mk (And.intro hf (And.intro hm0 hm1))
  clear hr0 hr1 hD hpk hj he hp1 hp2 hF hS hE hg hS2 hl0 hl1 hjl hfr hfr2 hf hm0 hm1
  go_enter Try.func5, Try.ntmps5
  go_upto_region 4 with (first | (go_at_call 20; (with_reducible refine (HD.out _ ?side).mono ?_); (case side => exact HR0.out); rintro e1 w1 ⟨v0, v1, rfl, ho0, ho1, hb⟩))
  obtain ⟨Ao, co, eo⟩ := Kd.R_slice ho0
  subst eo
  obtain ⟨ad, ea, hx_0⟩ := Kd.at_string (Kd.R_reads' ho0).2.2 (j : Int) hj0 hjz
  cases ea
  rw [HJ.out.2.1] at hx_0
  simp only [Int.toNat_natCast] at hx_0
  have q1 := eq_true hj0
  have q2 := eq_true hjz
  have HB1 := Aside0.mk (bst HB.out hb)
  have HR1' := Aside0.mk (Kd.Cbe HR1.out hb)
  clear HB ho0 ho1 hb
  go_upto_region 5 with (first | (go_at_call 21; (with_reducible refine (HPK.out 0 (list.length : Int) (j : Int) _ HJ.out.1 ?side).mono ?_); (case side => exact HR1'.out); rintro e1 w2 ⟨rfl, ⟨n2, rfl⟩⟩))
  clear q1 q2 hx_0 hjz hj0
  go_upto_region 7 with (first | (go_at_call 22; (with_reducible refine (HF.out _).mono ?_); rintro e1 w3 ⟨rfl, hb⟩; have HB2 := Aside0.mk (bst (pbd HB1.out n2) hb); have HR2 := Aside0.mk (Kd.Cbe (Kd.CdN HR1'.out n2) hb); clear hb) | (go_at_call 16; (with_reducible refine (HS.out _).mono ?_); rintro e1 w4 ⟨v2, rfl, ho2, hb⟩; have HB3 := Aside0.mk (bst HB2.out hb); have HR3 := Aside0.mk (Kd.Cbe HR2.out hb); have HO2 := Aside0.mk ho2; clear hb HB2 HR2 ho2))
  clear HB1 HR1'
  obtain ⟨Ao2, co2, eo2⟩ := Kd.R_slice HO2.out
  subst eo2
  have hw8 : wrap64 ((e.size : Int) + 8) = (f.size : Int) := by
    have := HM.out.1; have := HM.out.2.2
    unfold wrap64; omega
  have HC2 := Aside0.mk (Kd.R_reads' HO2.out)
  clear HO2
  go_upto_region 9 with (first | (go_at_call 23; (with_reducible refine (HE.out _ _ _ _ _ ?s1 ?s2 ?s3 ?s4).mono ?_); (case s1 => exact Kd.Cal HC2.out.2.2 _); (case s2 => exact HC2.out.2.1); (case s3 => exact one_row _ _); (case s4 => exact Nat.le_refl _); rintro e1 w6 ⟨rfl, ⟨n6, rfl⟩⟩))
  have HB4 := Aside0.mk (bal HB3.out (.cells #[.string e] 9))
  have HR4 := Aside0.mk (Kd.Cal HR3.out (.cells #[.string e] 9))
  obtain ⟨W4, hW4⟩ : ∃ W, w4.alloc (.cells #[.string e] 9) = W := ⟨_, rfl⟩
  rw [hW4] at HB4 HR4 ⊢
  clear HB3 HR3 HC2 hW4 hw8
  obtain ⟨m8, hm8⟩ : ∃ m, 8 * e.size = m := ⟨_, rfl⟩
  have hw2 : wrap64 (8 * (e.size : Int)) = (m8 : Int) := by
    have := HM.out
    unfold wrap64; omega
  have HFR2 := HFR.out.1
  rw [hw2] at HFR2
  have z0 : ((m8 : Int) == 0) = false := by
    have := HM.out.2
    rw [beq_eq_false_iff_ne]
    omega
  have z1 : ((m8 : Int) = 0) = False := by
    have := HM.out.2
    exact eq_false (by omega)
  have z2 : (m8 = 0) = False := by
    have := HM.out.2
    exact eq_false (by omega)
  have z3 : (m8 == 0) = false := by
    have := HM.out.2
    rw [beq_eq_false_iff_ne]
    omega
  have HM8 := Aside0.mk hm8
  clear hm8
  go_upto_region 10 with (first | (go_at_call 21; (with_reducible refine (HPK.out 1 256 p1 _ HJ.out.2.2.1 ?side).mono ?_); (case side => exact Kd.CdN HR4.out _); rintro e1 w7 ⟨rfl, ⟨n7, rfl⟩⟩) | (go_at_call 21; (with_reducible refine (HPK.out 2 256 p2 _ HJ.out.2.2.2 ?side).mono ?_); (case side => exact Kd.CdN HR4.out _); rintro e1 w8 ⟨rfl, ⟨n8, rfl⟩⟩))
  have HB5 := Aside0.mk (pbd HB4.out (n6 + n7 + n8))
  have HR5 := Aside0.mk (Kd.CdN HR4.out (n6 + n7 + n8))
  obtain ⟨W5, hW5⟩ : ∃ W, W4.drewN (n6 + n7 + n8) = W := ⟨_, rfl⟩
  rw [hW5] at HB5 HR5 ⊢
  clear HB4 HR4 hW5 HFR2 z0 z1 z2 z3
  have hfs : f.size ≤ maxLen := by
    have := HM.out.1; have := HM.out.2.2
    have e_ : maxLen = 9223372036854775807 := rfl
    omega
  have HY := Aside0.mk (bytRow_made W5 w.heap.size 5 f (bsz HB5.out) hfs)
  have HB6 := Aside0.mk (bytesWorld_below w W5 5 f HB5.out (bsz HB5.out))
  clear hfs
  go_upto_region 11 with (first | (refine wpList_bytes_made _ rfl _ 9 46 5 rfl Try.underlying9 Try.underlying46 Try.underlying5 f rfl ?_))
  obtain ⟨W6, hW6⟩ : ∃ W, bytesWorld W5 5 f = W := ⟨_, rfl⟩
  obtain ⟨gB, hgB⟩ : ∃ x, W5.heap.size = x := ⟨_, rfl⟩
  obtain ⟨cB, hcB⟩ : ∃ x, grownCap W5 f.size 0 5 = x := ⟨_, rfl⟩
  rw [hW6, hgB, hcB] at HY
  rw [hW6] at HB6
  rw [hW6, hgB, hcB]
  clear hW6 hgB hcB HB5 HR5
  go_wp2
  go_loopg [13] 32 (fun kq v13 w' => ∃ (i : Nat) (s : ByteArray), v13 = .int .i64 (i : Int) ∧ Aside0 (kq + i = 32) ∧ Aside0 (bGo (fun i => pk i 2) fr e.size kq s = some g) ∧ Aside0 (s.size = f.size) ∧ Aside0 (bytRow w' w.heap.size 5 (.slice (some ⟨gB, 0, none⟩) f.size cB) s) ∧ Aside0 (Below w.heap.size w w'))
  case atStart => exact ⟨0, f, rfl, ⟨rfl⟩, HG, ⟨rfl⟩, HY, HB6⟩
  case round =>
    clear HG HY HB6
    obtain ⟨i, s, rfl, HI, HG, HSZ, HY, HB⟩ := hrel
    cases gk with
    | zero =>
      have hi : i = 32 := by have := HI.out; omega
      subst hi
      have d4 : decide (((32 : Nat) : Int) < 32) = false := by decide
      have hs2 := Option.some.inj HG.out
      subst hs2
      have hcv := conv_row HY.out
      go_wp2_with (first | (go_at_call 16; (with_reducible refine (HS2.out _).mono ?_); rintro e1 w9 ⟨v9, rfl, ho9, hb⟩; have HB9 := Aside0.mk (bst (pbd HB.out 0) hb); obtain ⟨Ao9, co9, eo9⟩ := Kd.R_slice ho9; subst eo9; clear ho9 hb))
      go_ret
      exact ⟨rfl, HB9.out⟩
    | succ n =>
      have hi : 31 - n = i := by have := HI.out; omega
      have hg := HG.out
      rw [bGo, hi] at hg
      have d4 : decide ((i : Int) < 32) = true := decide_eq_true (by have := HI.out; omega)
      have d4' : decide (i < 32) = true := decide_eq_true (by have := HI.out; omega)
      obtain ⟨p, hp⟩ : ∃ p, fr + i = p := ⟨_, rfl⟩
      have hm8 := HM8.out
      rw [hp, hm8] at hg
      have hw1 : wrap64 ((fr : Int) + (i : Int)) = (p : Int) := by
        have := HFR.out.2; have := HM.out; have := HI.out
        unfold wrap64; omega
      by_cases hc : p < m8
      · rw [if_pos hc] at hg
        have d5 : decide ((p : Int) < (m8 : Int)) = true := decide_eq_true (by omega)
        have d5' : decide (p < m8) = true := decide_eq_true hc
        have hx : 8 + p / 8 < s.size := by have := HSZ.out; have := HM.out.1; omega
        have hcell := bytRow_get HY.out (8 + p / 8) hx
        have k0 := hcell.1
        have k1 := hcell.2.1
        have HGB := Aside0.mk hcell.2.2.1
        clear hcell
        obtain ⟨x, hxe⟩ : ∃ x, 8 + p / 8 = x := ⟨_, rfl⟩
        obtain ⟨q, hq⟩ : ∃ q, p / 8 = q := ⟨_, rfl⟩
        obtain ⟨r, hr⟩ : ∃ r, p % 8 = r := ⟨_, rfl⟩
        obtain ⟨v, hv⟩ : ∃ v, byteN s (8 + p / 8) = v := ⟨_, rfl⟩
        rw [hv] at k0
        rw [hxe] at k0 k1
        have yr : r < 8 := by omega
        have hpb : p ≤ 1000000 := by have := HM.out.2.2; have := HM8.out; omega
        have hib : i ≤ 32 := by have := HI.out; omega
        have hxf : x < f.size := by have := HSZ.out; omega
        have y4 : (0 ≤ (x : Int)) = True := nat_pos x
        have y5 : ((x : Int) < (f.size : Int)) = True := nat_ltI hxf
        have y7 : (0 : Int) ≤ (r : Int) := Int.natCast_nonneg r
        have y8 : (r : Int) ≤ 8 := nat_leI (Nat.le_of_lt yr)
        have y3 : (p : Int) % 8 = (r : Int) := nat_mod8 hr
        have y3' : (p : Int).tmod 8 = (r : Int) := nat_tmod8 hr
        have y1 : IntKind.i64.wrap ((p : Int) / 8) = (q : Int) := wrap_q hq hpb
        have y2 : IntKind.i64.wrap (8 + (q : Int)) = (x : Int) := wrap_x hq hxe hpb
        have y10 : wrap64 ((i : Int) + 1) = ((i + 1 : Nat) : Int) := wrap_s hib
        have y11 : wrap64 (3 + (i : Int)) = 3 + (i : Int) := wrap_3 hib
        have y6 := hxf
        clear hpb hib
        have HV := Aside0.mk (And.intro hxe (And.intro hq (And.intro hr (And.intro hv hx))))
        clear hx hq hr hv hxe
        have y9 : IntKind.u8.wrap ((2 : Int) ^ r) = (2 : Int) ^ r := wrap_bit r yr
        clear hc hm8
        by_cases h0 : i = 0
        · rw [if_pos h0, Option.bind_some, if_pos rfl] at hg
          have HG' := Aside0.mk hg
          have d6 : ((i : Int) == 0) = true := by rw [h0]; rfl
          clear hg HG h0 y11
          go_upto_region 15 with fail
          go_upto_region 16 with fail
          refine wp_region_still_tail 15 (by kernel_rfl) (by kernel_rfl) ?_
          rw [drew_oneB]
          simp only [List.take_succ_cons, List.take_zero, List.drop_succ_cons, List.drop_zero]
          repeat still_step
          try refine wpStill_nil ?_
          clear y1 y2 y3 y3' y7 y8 y9 y4 y5 y6 hw1 d4 d4' d5 d5' d6
          go_wp2
          go_roundg n
          case measure => first | exact Nat.lt_succ_self _ | exact Nat.le_refl _ | omega
          case rel => exact ⟨i + 1, flipB s p, by first | rfl | simp, step_round HI, HG', ⟨by rw [flipB_size]; exact HSZ.out⟩, ⟨turn_put HY.out HV.out (by first | rfl | exact HV.out.2.2.1)⟩, ⟨bse (pbd HB.out _) HGB.out⟩⟩
        · rw [if_neg h0] at hg
          obtain ⟨b, hb, hg⟩ := Option.bind_eq_some_iff.mp hg
          have HPB := Aside0.mk hb
          have HY10 := Aside0.mk y10
          clear y10 y11
          have d6 : ((i : Int) == 0) = false := by rw [beq_eq_false_iff_ne]; exact fun h => h0 (Int.ofNat_eq_zero.mp h)
          by_cases hb1 : b = 1
          · rw [if_pos hb1] at hg
            have HG' := Aside0.mk hg
            have d7 : (b == 1) = true := beq_iff_eq.mpr hb1
            clear hg HG h0 hb hb1
            go_upto_region 15 with (first | (go_at_call 21; (with_reducible refine (HPK.out (3 + (i : Int)) 2 b _ HPB.out ?side).mono ?_); (case side => exact Kd.Cbe HR1.out HB.out); rintro e1 w9 ⟨rfl, ⟨n9, rfl⟩⟩))
            clear d7
            have y10 := HY10.out
            go_upto_region 16 with fail
            refine wp_region_still_tail 15 (by kernel_rfl) (by kernel_rfl) ?_
            rw [drew_oneB]
            simp only [List.take_succ_cons, List.take_zero, List.drop_succ_cons, List.drop_zero]
            repeat still_step
            try refine wpStill_nil ?_
            clear y1 y2 y3 y3' y7 y8 y9 y4 y5 y6 hw1 d4 d4' d5 d5' d6
            go_wp2
            go_roundg n
            case measure => first | exact Nat.lt_succ_self _ | exact Nat.le_refl _ | omega
            case rel => exact ⟨i + 1, flipB s p, by first | rfl | simp, step_round HI, HG', ⟨by rw [flipB_size]; exact HSZ.out⟩, ⟨turn_put HY.out HV.out (by first | rfl | exact HV.out.2.2.1)⟩, ⟨bse (pbd HB.out _) HGB.out⟩⟩
          · rw [if_neg hb1] at hg
            have HG' := Aside0.mk hg
            have d7 : (b == 1) = false := beq_eq_false_iff_ne.mpr hb1
            clear hg HG h0 hb hb1 y1 y2 y3 y3' y7 y8 y9 y4 y5 y6
            go_upto_region 13 with (first | (go_at_call 21; (with_reducible refine (HPK.out (3 + (i : Int)) 2 b _ HPB.out ?side).mono ?_); (case side => exact Kd.Cbe HR1.out HB.out); rintro e1 w9 ⟨rfl, ⟨n9, rfl⟩⟩))
            have y10 := HY10.out
            clear hw1 d4 d4' d5 d5' d6 d7
            go_wp2
            go_roundg n
            case measure => first | exact Nat.lt_succ_self _ | exact Nat.le_refl _ | omega
            case rel => exact ⟨i + 1, s, by first | rfl | simp, step_round HI, HG', HSZ, ⟨bytRow_drewN HY.out _⟩, ⟨pbd HB.out _⟩⟩
      · rw [if_neg hc] at hg
        have d5 : decide ((p : Int) < (m8 : Int)) = false := decide_eq_false (by omega)
        have d5' : decide (p < m8) = false := decide_eq_false hc
        have hs2 := Option.some.inj hg
        subst hs2
        have hcv := conv_row HY.out
        clear hg hc
        go_wp2_with (first | (go_at_call 16; (with_reducible refine (HS2.out _).mono ?_); rintro e1 w9 ⟨v9, rfl, ho9, hb⟩; have HB9 := Aside0.mk (bst (pbd HB.out 0) hb); obtain ⟨Ao9, co9, eo9⟩ := Kd.R_slice ho9; subst eo9; clear ho9 hb))
        go_ret
        exact ⟨rfl, HB9.out⟩
set_option maxHeartbeats 8000000 in
set_option maxRecDepth 100000 in
theorem burst_long (A0 : Option Addr) (c0 : Nat) (l0 : List Int) (A1 : Option Addr) (c1 : Nat) (l1 : List Int) (w : World) (h : ¬ (l0.length ≤ 1048576 ∧ l1.length ≤ 1048576)) :
    Calls Try.prog 5 #[.slice A0 l0.length c0, .slice A1 l1.length c1] w fun e w' => e = .returned (.bool true) ∧ Below w.heap.size w w' := by
  by_cases h0 : l0.length ≤ 1048576
  · have h1 : ¬ l1.length ≤ 1048576 := fun h2 => h ⟨h0, h2⟩
    have d0 : decide ((1048576 : Int) < (l0.length : Int)) = false := decide_eq_false (by omega)
    have d1 : decide ((1048576 : Int) < (l1.length : Int)) = true := decide_eq_true (by omega)
    have d2 : decide (1048576 < l0.length) = false := decide_eq_false (by omega)
    have d3 : decide (1048576 < l1.length) = true := decide_eq_true (by omega)
    clear h0 h1 h
    go_enter Try.func5, Try.ntmps5
    go_wp2
    go_ret
    exact ⟨rfl, Below.refl _ _⟩
  · have d0 : decide ((1048576 : Int) < (l0.length : Int)) = true := decide_eq_true (by omega)
    have d2 : decide (1048576 < l0.length) = true := decide_eq_true (by omega)
    clear h0 h
    go_enter Try.func5, Try.ntmps5
    go_wp2
    go_ret
    exact ⟨rfl, Below.refl _ _⟩
end Go.Proofs.Ytoebfjfhdodakaa.L
end
section
namespace Go.Proofs.Ytoebfjfhdodakaa.L
open Go.RowKit Go.Proofs.YtoebfjfhdodakaaW.PrintWords Go.Proofs.YtoebfjfhdodakaaW.PrintLast Go.Proofs.YtoebfjfhdodakaaW.PrintMore
attribute [local go_sem] max2_int min2_int max_two min_two max_three min_three max_four min_four
set_option linter.unusedVariables false
set_option linter.unusedSimpArgs false
def laws_hStrings.l0 : Nat → List ByteArray → List ByteArray → Int → Int → Option (Bool)
  | 0, _, _, _, _ => none
  | k + 1, x0, x1, x12, x13 => if x13 < x12 then (if 0 ≤ x13 then (if x13 < (x0.length : Int) then (if x13 < (x1.length : Int) then (if (rdOf ByteArray.empty x0 x13).toList = (rdOf ByteArray.empty x1 x13).toList then (laws_hStrings.l0 k x0 x1 x12 (wrap64 (x13 + 1))) else (some false)) else (none)) else (none)) else (none)) else (some true)
def laws_hStrings.f (k : Nat) (l0 : List ByteArray) (l1 : List ByteArray) : Option (Bool) := if (l0.length : Int) = (l1.length : Int) then (laws_hStrings.l0 k l0 l1 (l0.length : Int) 0) else (some false)
theorem laws_hStrings.mono_l : ∀ k, (∀ y0 y1 y2 y3, LeO (laws_hStrings.l0 k y0 y1 y2 y3) (laws_hStrings.l0 (k + 1) y0 y1 y2 y3))
  | 0 => fun _ _ _ _ r h => by simp [laws_hStrings.l0] at h
  | k + 1 => by
    have ih0 := laws_hStrings.mono_l k
    · intro y0 y1 y2 y3
      unfold laws_hStrings.l0
      repeat' first
      | (with_reducible exact ih0 _ _ _ _)
      | (with_reducible exact LeO.refl _)
      | (with_reducible exact LeO.none _)
      | (with_reducible refine LeO.ite ?_ ?_)
      | (with_reducible refine LeO.bind ?_ (fun _ => ?_))
      | exact ih0 _ _ _ _
      | exact LeO.none _
      | refine LeO.ite ?_ ?_
      | refine LeO.bind ?_ (fun _ => ?_)
theorem laws_hStrings.mono : ∀ a0 a1 k, LeO (laws_hStrings.f k a0 a1) (laws_hStrings.f (k + 1) a0 a1) := by
  intro a0 a1 k
  have ih0 := laws_hStrings.mono_l k
  unfold laws_hStrings.f
  repeat' first
      | (with_reducible exact ih0 _ _ _ _)
      | (with_reducible exact LeO.refl _)
      | (with_reducible exact LeO.none _)
      | (with_reducible refine LeO.ite ?_ ?_)
      | (with_reducible refine LeO.bind ?_ (fun _ => ?_))
      | exact ih0 _ _ _ _
      | exact LeO.none _
      | refine LeO.ite ?_ ?_
      | refine LeO.bind ?_ (fun _ => ?_)
set_option maxHeartbeats 8000000 in
set_option maxRecDepth 100000 in
theorem laws_hStrings.calls (k : Nat) (A0 : Option Addr) (c0 : Nat) (l0 : List ByteArray) (A1 : Option Addr) (c1 : Nat) (l1 : List ByteArray) (r : Bool) (w : World) (hr0 : Kd.C Kd.string w A0 l0.length l0) (hc0 : l0.length ≤ c0) (hr1 : Kd.C Kd.string w A1 l1.length l1) (hc1 : l1.length ≤ c1) (h : laws_hStrings.f k l0 l1 = some r) :
    Calls Try.prog 23 #[.slice A0 l0.length c0, .slice A1 l1.length c1] w fun e w' => e = .returned (.bool r) ∧ Drawn0 w w' := by
  have HR0 := qK hr0; have HC0 := qK hc0; clear hr0 hc0; have HR1 := qK hr1; have HC1 := qK hc1; clear hr1 hc1; have H : (if (l0.length : Int) = (l1.length : Int) then (laws_hStrings.l0 k l0 l1 (l0.length : Int) 0) else (some false)) = some r := h; clear h; by_cases c3 : (l0.length : Int) = (l1.length : Int)
  · rw [if_pos c3] at H; have c3b0 : ((l0.length : Int) == (l1.length : Int)) = true := beq_iff_eq.mpr c3; have c3b1 : ((l0.length : Int) != (l1.length : Int)) = false := bne_eq_false_iff_eq.mpr c3; (have c3b2 : (l0.length == l1.length) = true := by first | simpa using c3 | (simp at c3 ⊢; omega)); clear c3; have H' := qK H; clear H; go_enter Try.func23, Try.ntmps23; go_wp2; (repeat (go_quiet (fail); try go_wp2)); go_loopg [13] k (fun kq v13 w' => ∃ (x13_1 : Int), v13 = .int .i64 x13_1 ∧ Aside0 (laws_hStrings.l0 kq l0 l1 (l0.length : Int) x13_1 = some r) ∧ Aside0 (kq ≤ k) ∧ Drawn0 w w')
    case atStart => exact ⟨(0), qS, H', ⟨Nat.le_refl _⟩, by repeat (first | exact Drawn0.refl _ | apply Drawn0.step)⟩
    case round =>
      clear H'; (try clear c1); (try clear c2); (try clear p2); (try clear c3); (try clear c3b0); (try clear c3b1); (try clear c3b2); obtain ⟨x13_1, rfl, HA, HK1, ⟨m1, rfl⟩⟩ := hrel
      cases gk with
      | zero => exact absurd HA.out (by simp [laws_hStrings.l0])
      | succ k1 =>
        have H := HA.out; clear HA; simp only [laws_hStrings.l0] at H; by_cases c4 : x13_1 < (l0.length : Int)
        · rw [if_pos c4] at H; have c4b0 : decide (x13_1 < (l0.length : Int)) = true := decide_eq_true c4; clear c4; by_cases c5 : 0 ≤ x13_1
          · rw [if_pos c5] at H; have c5b0 : decide (0 ≤ x13_1) = true := decide_eq_true c5; clear c5; by_cases c6 : x13_1 < (l0.length : Int)
            · rw [if_pos c6] at H; have c6b0 : decide (x13_1 < (l0.length : Int)) = true := decide_eq_true c6; clear c6; by_cases c7 : x13_1 < (l1.length : Int)
              · rw [if_pos c7] at H; have c7b0 : decide (x13_1 < (l1.length : Int)) = true := decide_eq_true c7; clear c7; by_cases c8 : (rdOf ByteArray.empty l0 x13_1).toList = (rdOf ByteArray.empty l1 x13_1).toList
                · rw [if_pos c8] at H; have c8b0 : ((rdOf ByteArray.empty l0 x13_1).toList == (rdOf ByteArray.empty l1 x13_1).toList) = true := beq_iff_eq.mpr c8; have c8b1 : ((rdOf ByteArray.empty l0 x13_1).toList != (rdOf ByteArray.empty l1 x13_1).toList) = false := bne_eq_false_iff_eq.mpr c8; clear c8; have H' := qK H; clear H; have p475 : 0 ≤ (x13_1 : Int) := of_decide_eq_true qa; have q475 : x13_1 < (l0.length : Int) := of_decide_eq_true qa; obtain ⟨ad475, e475, hx475_0⟩ := Kd.at_string HR0.out x13_1 p475 q475; cases e475; replace p475 := eq_true p475; replace q475 := eq_true q475; have p476 : 0 ≤ (x13_1 : Int) := of_decide_eq_true qa; have q476 : x13_1 < (l1.length : Int) := of_decide_eq_true qa; obtain ⟨ad476, e476, hx476_0⟩ := Kd.at_string HR1.out x13_1 p476 q476; cases e476; replace p476 := eq_true p476; replace q476 := eq_true q476; go_wp2; (repeat (go_quiet (fail); try go_wp2)); go_roundg k1
                  case measure => have := HK1.out; omega
                  case rel => exact ⟨(wrap64 (x13_1 + 1)), qS, H', ⟨by have := HK1.out; omega⟩, by repeat (first | exact Drawn0.refl _ | apply Drawn0.step)⟩
                · rw [if_neg c8] at H; have c8b0 : ((rdOf ByteArray.empty l0 x13_1).toList == (rdOf ByteArray.empty l1 x13_1).toList) = false := beq_eq_false_iff_ne.mpr c8; have c8b1 : ((rdOf ByteArray.empty l0 x13_1).toList != (rdOf ByteArray.empty l1 x13_1).toList) = true := bne_iff_ne.mpr c8; obtain rfl := Option.some.inj H; have p475 : 0 ≤ (x13_1 : Int) := of_decide_eq_true qa; have q475 : x13_1 < (l0.length : Int) := of_decide_eq_true qa; obtain ⟨ad475, e475, hx475_0⟩ := Kd.at_string HR0.out x13_1 p475 q475; cases e475; replace p475 := eq_true p475; replace q475 := eq_true q475; have p476 : 0 ≤ (x13_1 : Int) := of_decide_eq_true qa; have q476 : x13_1 < (l1.length : Int) := of_decide_eq_true qa; obtain ⟨ad476, e476, hx476_0⟩ := Kd.at_string HR1.out x13_1 p476 q476; cases e476; replace p476 := eq_true p476; replace q476 := eq_true q476; go_wp2; (repeat (go_quiet (fail); try go_wp2)); go_ret; exact ⟨by first | rfl | (simp; done) | (simp [*]; done), by repeat (first | exact Drawn0.refl _ | apply Drawn0.step)⟩
              · rw [if_neg c7] at H; exact absurd H (by simp)
            · rw [if_neg c6] at H; exact absurd H (by simp)
          · rw [if_neg c5] at H; exact absurd H (by simp)
        · rw [if_neg c4] at H; have c4b0 : decide (x13_1 < (l0.length : Int)) = false := decide_eq_false c4; clear c4; obtain rfl := Option.some.inj H; go_wp2; (repeat (go_quiet (fail); try go_wp2)); go_ret; exact ⟨by first | rfl | (simp; done) | (simp [*]; done), by repeat (first | exact Drawn0.refl _ | apply Drawn0.step)⟩
  · rw [if_neg c3] at H; have c3b0 : ((l0.length : Int) == (l1.length : Int)) = false := beq_eq_false_iff_ne.mpr c3; have c3b1 : ((l0.length : Int) != (l1.length : Int)) = true := bne_iff_ne.mpr c3; (have c3b2 : (l0.length == l1.length) = false := by first | simpa using c3 | (simp at c3 ⊢; omega)); obtain rfl := Option.some.inj H; go_enter Try.func23, Try.ntmps23; go_wp2; (repeat (go_quiet (fail); try go_wp2)); go_ret; exact ⟨by first | rfl | (simp; done) | (simp [*]; done), by repeat (first | exact Drawn0.refl _ | apply Drawn0.step)⟩
/-- The law's whole chain, told for the answer true alone. -/
def laws_FnBurst.f (k : Nat) (l0 : List Int) (l1 : List Int) : Option Bool :=
  if l0.length ≤ 1048576 ∧ l1.length ≤ 1048576 then
    (spec_DrawWork.f k l0).bind fun d => (laws_hPick.f l1 0 (d.1.length : Int)).bind fun j =>
      if 0 ≤ j ∧ j < (d.1.length : Int) then
        (impl_Frame.f k (rdOf ByteArray.empty d.1 j)).bind fun f => (impl_ScanFrames.f k f).bind fun s => (laws_hStrings.f k [rdOf ByteArray.empty d.1 j] [rdOf ByteArray.empty d.1 j]).bind fun q =>
          (laws_hPick.f l1 1 256).bind fun p1 => (laws_hPick.f l1 2 256).bind fun p2 =>
            (bGo (fun i => laws_hPick.f l1 i 2) (Int.tmod (wrap64 (wrap64 (p1 * 256) + p2)) (wrap64 (8 * ((rdOf ByteArray.empty d.1 j).size : Int)))).toNat (rdOf ByteArray.empty d.1 j).size 32 f).bind fun g => (impl_ScanFrames.f k g).bind fun z =>
              if s = ([rdOf ByteArray.empty d.1 j], (f.size : Int)) ∧ q = true ∧ f.size = (rdOf ByteArray.empty d.1 j).size + 8 ∧ 1 ≤ (rdOf ByteArray.empty d.1 j).size ∧ (rdOf ByteArray.empty d.1 j).size ≤ 100000 ∧ z = ([], 0) ∧
                0 ≤ Int.tmod (wrap64 (wrap64 (p1 * 256) + p2)) (wrap64 (8 * ((rdOf ByteArray.empty d.1 j).size : Int))) ∧ (Int.tmod (wrap64 (wrap64 (p1 * 256) + p2)) (wrap64 (8 * ((rdOf ByteArray.empty d.1 j).size : Int)))).toNat < 8 * (rdOf ByteArray.empty d.1 j).size then some true else none
      else none
  else some true
theorem laws_FnBurst.mono : ∀ a0 a1 k, LeO (laws_FnBurst.f k a0 a1) (laws_FnBurst.f (k + 1) a0 a1) := by
  intro a0 a1 k
  unfold laws_FnBurst.f
  split
  · refine LeO.bind (spec_DrawWork.mono _ _) fun d => LeO.bind (LeO.refl _) fun j => ?_
    split
    · exact LeO.bind (impl_Frame.mono _ _) fun f => LeO.bind (impl_ScanFrames.mono _ _) fun s => LeO.bind (laws_hStrings.mono _ _ _) fun q => LeO.bind (LeO.refl _) fun p1 => LeO.bind (LeO.refl _) fun p2 => LeO.bind (LeO.refl _) fun g => LeO.bind (impl_ScanFrames.mono _ _) fun z => LeO.refl _
    · exact LeO.refl _
  · exact LeO.refl _
theorem laws_FnBurst.calls (k : Nat) (A0 : Option Addr) (c0 : Nat) (l0 : List Int) (A1 : Option Addr) (c1 : Nat) (l1 : List Int) (r : Bool) (w : World) (hr0 : Kd.C (Kd.int .u8) w A0 l0.length l0) (hc0 : l0.length ≤ c0) (hr1 : Kd.C (Kd.int .u8) w A1 l1.length l1) (hc1 : l1.length ≤ c1) (h : laws_FnBurst.f k l0 l1 = some r) :
    Calls Try.prog 5 #[.slice A0 l0.length c0, .slice A1 l1.length c1] w fun e w' => e = .returned (.bool r) ∧ Below w.heap.size w w' := by
  unfold laws_FnBurst.f at h
  by_cases hl : l0.length ≤ 1048576 ∧ l1.length ≤ 1048576
  · rw [if_pos hl] at h
    obtain ⟨⟨list, texts⟩, hd, h⟩ := Option.bind_eq_some_iff.mp h
    obtain ⟨j, hj, h⟩ := Option.bind_eq_some_iff.mp h
    by_cases hjr : 0 ≤ j ∧ j < (list.length : Int)
    · rw [if_pos hjr] at h
      obtain ⟨jn, rfl⟩ : ∃ n : Nat, j = n := ⟨j.toNat, by omega⟩
      obtain ⟨f, hf, h⟩ := Option.bind_eq_some_iff.mp h
      obtain ⟨s, hs, h⟩ := Option.bind_eq_some_iff.mp h
      obtain ⟨q, hq, h⟩ := Option.bind_eq_some_iff.mp h
      obtain ⟨p1, hp1, h⟩ := Option.bind_eq_some_iff.mp h
      obtain ⟨p2, hp2, h⟩ := Option.bind_eq_some_iff.mp h
      obtain ⟨g, hg, h⟩ := Option.bind_eq_some_iff.mp h
      obtain ⟨z, hz, h⟩ := Option.bind_eq_some_iff.mp h
      dsimp only at hj hjr hf hs hq hg h
      obtain ⟨⟨hs2, rfl, hfs, hm0, hm1, hz2, hx0, hx1⟩, h9⟩ := Option.ite_none_right_eq_some.mp h
      clear h
      subst hs2
      subst hz2
      obtain rfl := Option.some.inj h9
      exact burst_any A0 c0 l0 A1 c1 l1 w hr0 hr1 hl.1 hl.2 list texts (fun w' hr => spec_DrawWork.calls k A0 c0 l0 list texts w' hr hc0 hd) (fun i n => laws_hPick.f l1 i n) (fun i n r w' hi hr => laws_hPick.calls A1 c1 l1 i n r w' hr hc1 hi)
          jn hj (by have := hjr.2; omega) _ f rfl (fun w' => impl_Frame.calls k _ f w' hf) hfs hm0 hm1 (fun w' => impl_ScanFrames.calls k f _ _ w' hs)
          (fun A c A' c' w' h1 h2 h3 h4 => laws_hStrings.calls k A c [rdOf ByteArray.empty list (jn : Int)] A' c' [rdOf ByteArray.empty list (jn : Int)] true w' h1 h2 h3 h4 hq)
          p1 p2 hp1 hp2 _ (Int.toNat_of_nonneg hx0).symm hx1 g hg (fun w' => impl_ScanFrames.calls k g [] 0 w' hz)
    · rw [if_neg hjr] at h
      cases h
  · rw [if_neg hl] at h
    obtain rfl := Option.some.inj h
    exact burst_long A0 c0 l0 A1 c1 l1 w hl
end Go.Proofs.Ytoebfjfhdodakaa.L
end
section
set_option linter.unusedVariables false
set_option linter.unusedSimpArgs false
namespace Go.Proofs.Ytoebfjfhdodakaa
open Go.RowKit Go.ChangeShapes Go.WideShapes Go.Proofs.YtoebfjfhdodakaaW.PrintWords
/-- Whatever reads as a datum of type t is a value of the kind d that is 'good'. -/
def Opens {α : Type} (P : Program) (t : TypeId) (d : Kd α) (good : α → Prop) : Prop :=
  ∀ (H : Type) (enc : TypeId × Value → H) (W : World) (fuel : Nat) (cs : List Value) (x : DataW H × List MemPlace),
    DataW.trod enc P W 0 (fun _ => true) true fuel t cs = some x → ∃ a, d.K W a cs ∧ good a
theorem opens_int {P : Program} {t : TypeId} {k : IntKind} (ht : P.underlying t = some (.int k)) : Opens P t (Kd.int k) (fun n => (Lit.int k n).wf = true) :=
  fun H enc W fuel cs x h => by
    obtain ⟨n, rfl, _, hw⟩ := DataW.trod_int ht h
    exact ⟨n, rfl, hw⟩
theorem cells_of_some {W : World} {a : Addr} {n : Nat} {cs : List Value} (h : W.cells? 0 a n = some cs) : cs.length = n ∧ ∀ i u, cs[i]? = some u → W.cell? (a.add i) = some u := by
  unfold World.cells? at h
  rw [if_pos (Nat.zero_le _)] at h
  have hl := mapM_some_length h
  rw [List.length_range] at hl
  refine ⟨hl, fun i u hu => ?_⟩
  have hi : i < n := by
    rcases Nat.lt_or_ge i n with h' | h'
    · exact h'
    · rw [List.getElem?_eq_none (by omega)] at hu; cases hu
  have := mapM_some_get h i i (by simp [hi])
  rw [this]; exact hu
theorem opens_slice {α : Type} {P : Program} {t e : TypeId} {d : Kd α} {good : α → Prop} [Inhabited α] (ht : P.underlying t = some (.slice e)) (hc : P.cellsOf e = d.sz) (he : Opens P e d good) :
    Opens P t (Kd.slice e d) (fun l => ∀ a ∈ l, good a) :=
  fun H enc W fuel cs x h => by
    rcases Go.Deep.open_slice ht h with ⟨rfl, _⟩ | ⟨a, len, cap, m, n, D, Pl, rfl, _, hlc, hm, hmm, _, hel⟩
    · exact ⟨[], ⟨none, 0, rfl, Nat.le_refl _, rfl, by simp, fun h => absurd h (by simp)⟩, fun a ha => by cases ha⟩
    · have hmc : m = cap := by simpa using hmm
      subst hmc
      have hx : ∀ i, i < len → ∃ y : α, (∃ cs', W.cells? 0 (a.add (i * P.cellsOf e)) (P.cellsOf e) = some cs' ∧ d.K W y cs') ∧ good y := fun i hi => by
        obtain ⟨cs', h1, h2⟩ := hel i (by omega)
        obtain ⟨y, hy, hg⟩ := he H enc W n cs' _ h2
        exact ⟨y, ⟨cs', h1, hy⟩, hg⟩
      obtain ⟨f, hf⟩ := Go.Deep.choose_lt hx
      have hlen : ((List.range len).map f).length = len := by simp
      refine ⟨(List.range len).map f, ⟨some a, m, by rw [hlen], by rw [hlen]; exact hlc, ?_⟩, fun y hy => ?_⟩
      · refine ⟨rfl, by rw [hlen]; unfold maxLen at hm; omega, fun _ => ⟨a, rfl, fun j p hp => ?_⟩⟩
        have hj : j < len := by
          rcases Nat.lt_or_ge j len with h' | h'
          · exact h'
          · rw [List.getElem?_eq_none (by omega)] at hp; cases hp
        have hpe : f j = p := by simpa [hj] using hp
        obtain ⟨⟨cs', h1, h2⟩, _⟩ := hf j hj
        obtain ⟨hl', hcell⟩ := cells_of_some h1
        refine ⟨cs', by rw [hl', hc], hpe ▸ h2, fun i u hu => ?_⟩
        have := hcell i u hu
        rw [Go.Deep.add_add, hc] at this
        exact this
      · obtain ⟨j, hj, rfl⟩ := List.mem_map.1 hy
        exact (hf j (List.mem_range.1 hj)).2
theorem len_le {α : Type} {d : Kd α} {W : World} {A : Option Addr} {l : List α} (h : d.C W A l.length l) : l.length ≤ maxLen := by
  have := h.2.1
  unfold maxLen
  omega
end Go.Proofs.Ytoebfjfhdodakaa
end
section
set_option linter.unusedVariables false
set_option linter.unusedSimpArgs false
namespace Go.Proofs.Ytoebfjfhdodakaa.fnBurst
open Go.ChangeShapes Go.WideShapes Go.ChangeAt Go.RowKit Go.Proofs.Ytoebfjfhdodakaa Go.Proofs.Ytoebfjfhdodakaa.L Go.Proofs.YtoebfjfhdodakaaW.PrintWords
open Go.ChangeMaps (open_string shut_string)
/-- THE ONE PURE STATEMENT of the law: no memory, no Go. -/
def Pure0 : Prop := ∀ (l0 : List Int) (l1 : List Int), l0.length ≤ maxLen → (∀ y ∈ l0, (Lit.int .u8 y).wf = true) → l1.length ≤ maxLen → (∀ y ∈ l1, (Lit.int .u8 y).wf = true) → ∃ k, laws_FnBurst.f k l0 l1 = some true
theorem own : ownKnob Try.prog.godebug = none := by kernel_rfl
theorem laidOut : laidOutB Try.prog = true := by kernel_rfl
set_option maxRecDepth 100000 in
theorem lifted (Q : Pure0) (os : Os) (started : os.Started) (H : Type) (enc : TypeId × Value → H) :
    ReturnsInHanded {} Try.checked os 5 .any (Rows.fnBurstSpec.pre6 enc Try.prog Try.f5 Rows.fnBurstRow.domain false) (Rows.fnBurstSpec.post enc Try.prog Try.f5 false true false false) := by
  refine returnsInHanded_of_change (C := Try.checked) own started (by kernel_rfl) Try.func5
    (ChangeSpec.witness6 (enc := enc) (C := Try.checked) false ⟨#[], #[.slice none 0 0, .slice none 0 0], []⟩ 8 (by kernel_rfl) (by kernel_rfl) (by kernel_rfl) (by kernel_rfl)) ?_
  intro W base args ds gs before hval0 hW hcnd _
  have hval : ∀ (j : Nat) t v, Try.f5.params[j]? = some t → args[j]? = some v → Value.okWide Try.prog W .any base t v := hval0
  have hW' := hW
  obtain ⟨p, q, hA0, hV, rfl, hfz, hnd⟩ := hW
  have hA : DataW.TrodAll enc Try.prog W 0 (fun _ => true) true Try.f5.params.toList args.toList ds p := hA0
  rw [Try.params5] at hA hval
  obtain ⟨v0, vs0, d0, ds0, p0, q0, hargs, rfl, rfl, h0, r0⟩ := trodAll_cons hA
  obtain ⟨v1, vs1, d1, ds1, p1, q1, rfl, rfl, rfl, h1, r1⟩ := trodAll_cons r0
  obtain ⟨rfl, rfl, rfl⟩ := trodAll_nil r1
  obtain rfl : args = #[v0, v1] := by cases args; simp_all
  obtain ⟨rfl, rfl⟩ := trodVars_none hV
  have k0 := h0
  have lt0 : ∀ x ∈ p0, x.block < W.heap.size := by obtain ⟨m, hm⟩ := k0; exact DataW.trod_lt m _ _ _ hm
  obtain ⟨A0, n0, c0, rfl⟩ := okWide_slice Try.underlying46 (hval 0 46 v0 rfl rfl)
  obtain ⟨fuel0, hf0⟩ := h0
  obtain ⟨l0, ⟨A0', c0', he0, hc0, hr0⟩, hg0⟩ := (opens_slice Try.underlying46 (by kernel_rfl) (opens_int Try.underlying5)) H enc W fuel0 [.slice A0 n0 c0] _ (by simpa [Value.cells] using hf0)
  simp only [List.cons.injEq, Value.slice.injEq, and_true] at he0
  obtain ⟨rfl, rfl, rfl⟩ := he0
  have k1 := h1
  have lt1 : ∀ x ∈ p1, x.block < W.heap.size := by obtain ⟨m, hm⟩ := k1; exact DataW.trod_lt m _ _ _ hm
  obtain ⟨A1, n1, c1, rfl⟩ := okWide_slice Try.underlying46 (hval 1 46 v1 rfl rfl)
  obtain ⟨fuel1, hf1⟩ := h1
  obtain ⟨l1, ⟨A1', c1', he1, hc1, hr1⟩, hg1⟩ := (opens_slice Try.underlying46 (by kernel_rfl) (opens_int Try.underlying5)) H enc W fuel1 [.slice A1 n1 c1] _ (by simpa [Value.cells] using hf1)
  simp only [List.cons.injEq, Value.slice.injEq, and_true] at he1
  obtain ⟨rfl, rfl, rfl⟩ := he1
  clear hA0 hval0
  obtain ⟨k, hk⟩ := Q l0 l1 (len_le hr0) hg0 (len_le hr1) hg1
  refine (laws_FnBurst.calls k A0 c0 l0 A1 c1 l1 true W hr0 hc0 hr1 hc1 hk).mono fun e W' he => ?_
  obtain ⟨rfl, bel0⟩ := he
  have bel : Below W.heap.size W W' := bel0
  exact ⟨_, rfl, _, _, _, [], _, [], hW', trodAll_mk1 (shut_bool Try.underlying4 _), (trodAll_cons_mk (Below.trod laidOut (by kernel_rfl) (of_decide_eq_true (by kernel_rfl)) k0 bel lt0) (trodAll_cons_mk (Below.trod laidOut (by kernel_rfl) (of_decide_eq_true (by kernel_rfl)) k1 bel lt1) trodAll_mk0)), rfl, bel.frame _, fun h => by cases h⟩
theorem over (Q : Pure0) : Rows.fnBurstRow.holds Try.pinned (OpenSpec.ofChange Rows.fnBurstSpec) :=
  OpenClaim.holds_of_wide 5 Try.f5 rfl rfl rfl rfl rfl rfl rfl ⟨rfl, rfl, rfl, rfl, rfl⟩ rfl rfl rfl rfl rfl (by kernel_rfl) Try.func5 (by kernel_rfl)
    (of_decide_eq_true (by kernel_rfl)) (by unfold Func.isWrapper; first | (rw [if_pos (by decide +kernel)]; kernel_rfl) | (rw [if_neg (by decide +kernel)]; exact ⟨rfl, rfl⟩))
    (fun os started H enc _ => lifted Q os started H enc)
end Go.Proofs.Ytoebfjfhdodakaa.fnBurst
end
section
set_option linter.unusedVariables false
set_option linter.unusedSimpArgs false
namespace Go.Proofs.Ytoebfjfhdodakaa
open Go.RowKit Go.Proofs.YtoebfjfhdodakaaW.PrintWords
/-- The lowest bytes of v, the highest first: so many. -/
def numB : Nat → Int → List Int
  | 0, _ => []
  | n + 1, v => (v / 256 ^ n) % 256 :: numB n v
theorem numB_length (n : Nat) (v : Int) : (numB n v).length = n := by
  induction n with
  | zero => rfl
  | succ n ih => simp [numB, ih]
theorem numB_get (n : Nat) : ∀ (v : Int) (i : Nat), i < n → (numB n v)[i]? = some ((v / 256 ^ (n - 1 - i)) % 256) := by
  induction n with
  | zero => intro v i h; omega
  | succ n ih =>
    intro v i h
    cases i with
    | zero => simp [numB]
    | succ i => simp only [numB, List.getElem?_cons_succ]; rw [ih v i (by omega)]; congr 4; omega
theorem strOfNums_size (l : List Int) : (strOfNums l).size = l.length := by simp [strOfNums, ByteArray.size]
end Go.Proofs.Ytoebfjfhdodakaa
end
section
set_option linter.unusedVariables false
set_option linter.unusedSimpArgs false
namespace Go.Proofs.Ytoebfjfhdodakaa.Pure
open Go.RowKit Go.Proofs.Ytoebfjfhdodakaa Go.Proofs.Ytoebfjfhdodakaa.L Go.Proofs.YtoebfjfhdodakaaW.PrintWords Go.Proofs.YtoebfjfhdodakaaW.PrintLast
theorem num_l1 (d : Nat) : ∀ (j : Nat) (x1 : Int) (x5 : List Int) (i : Nat) (x : Int) (r : ByteArray), j + d = i → i ≤ 100 → x5.length < 1000 →
    Ev (fun k => spec_l1Num.l0 k x1 (x5 ++ [(x / 256 ^ d) % 256]) (wrap64 ((i : Int) - 1))) r → Ev (fun k => spec_l1Num.l1 k x1 x5 i x j) r := by
  induction d with
  | zero =>
    intro j x1 x5 i x r hj hi hl h
    refine Ev.step (f := fun k => spec_l1Num.l0 k x1 (x5 ++ [x % 256]) (wrap64 ((i : Int) - 1))) (fun k => ?_) ?_
    · rw [spec_l1Num.l1, if_neg (by omega), if_pos (by omega)]
    · simpa using h
  | succ d ih =>
    intro j x1 x5 i x r hj hi hl h
    refine Ev.step (f := fun k => spec_l1Num.l1 k x1 x5 i (x / 256) ((j + 1 : Nat) : Int)) (fun k => ?_) ?_
    · rw [spec_l1Num.l1, if_pos (by omega), show wrap64 ((j : Int) + 1) = ((j + 1 : Nat) : Int) from by unfold wrap64; omega]
    · refine ih (j + 1) x1 x5 i (x / 256) r (by omega) hi hl ?_
      rw [Int.ediv_ediv_of_nonneg (by decide), show (256 : Int) * 256 ^ d = 256 ^ (d + 1) from by rw [Int.pow_succ]; exact Int.mul_comm _ _]
      exact h
theorem num_l0 (n : Nat) : ∀ (x1 : Int) (x5 : List Int), n ≤ 100 → x5.length + n < 1000 →
    Ev (fun k => spec_l1Num.l0 k x1 x5 ((n : Int) - 1)) (strOfNums (x5 ++ numB n x1)) := by
  induction n with
  | zero =>
    intro x1 x5 _ _
    refine Ev.step (f := fun _ => some (strOfNums x5)) (fun k => ?_) ?_
    · rw [spec_l1Num.l0, if_neg (by omega)]
    · simpa [numB] using Ev.now _
  | succ n ih =>
    intro x1 x5 hn hl
    refine Ev.step (f := fun k => spec_l1Num.l1 k x1 x5 ((n + 1 : Nat) - 1) x1 0) (fun k => ?_) ?_
    · rw [spec_l1Num.l0, if_pos (by omega)]
    · have e : (((n + 1 : Nat) : Int) - 1) = (n : Int) := by omega
      rw [e]
      refine num_l1 n 0 x1 x5 n x1 _ (by omega) (by omega) (by omega) ?_
      have hw : wrap64 ((n : Int) - 1) = (n : Int) - 1 := by unfold wrap64; omega
      rw [hw]
      have := ih x1 (x5 ++ [(x1 / 256 ^ n) % 256]) (by omega) (by simp; omega)
      simpa [numB, List.append_assoc] using this
theorem spec_num (n : Nat) (v : Int) (hn : n ≤ 100) : Ev (fun k => spec_l1Num.f k n v) (strOfNums (numB n v)) := by
  have h := num_l0 n v [] hn (by simp; omega)
  refine Ev.congr (f := fun k => spec_l1Num.l0 k v [] ((n : Int) - 1)) (fun k => ?_) (by simpa using h)
  unfold spec_l1Num.f
  rw [show wrap64 ((n : Int) - 1) = (n : Int) - 1 from by unfold wrap64; omega]
end Go.Proofs.Ytoebfjfhdodakaa.Pure
end
section
set_option linter.unusedVariables false
set_option linter.unusedSimpArgs false
namespace Go.Proofs.Ytoebfjfhdodakaa.Pure
open Go.RowKit Go.Proofs.Ytoebfjfhdodakaa Go.Proofs.Ytoebfjfhdodakaa.L Go.Proofs.YtoebfjfhdodakaaW.PrintWords Go.Proofs.YtoebfjfhdodakaaW.PrintLast
theorem inum_l0 (e : Nat) : ∀ (x0 : Int) (n : Nat) (xs : List Int) (i : Nat), i + e = n → n ≤ 8 → xs.length = n → (∀ j, j < i → xs[j]? = (numB n x0)[j]?) →
    Ev (fun k => impl_number.l0 k x0 n xs n i) (strOfNums (numB n x0)) := by
  induction e with
  | zero =>
    intro x0 n xs i hi hn hl hx
    obtain rfl : i = n := by omega
    have : xs = numB i x0 := by
      apply List.ext_getElem?
      intro j
      by_cases hj : j < i
      · exact hx j hj
      · rw [List.getElem?_eq_none (by omega), List.getElem?_eq_none (by rw [numB_length]; omega)]
    subst this
    refine Ev.step (f := fun _ => some (strOfNums (numB i x0))) (fun k => ?_) (Ev.now _)
    rw [impl_number.l0, if_neg (by omega)]
  | succ e ih =>
    intro x0 n xs i hi hn hl hx
    have hw : wrap64 (8 * wrap64 (wrap64 ((n : Int) - 1) - (i : Int))) = ((8 * (n - 1 - i) : Nat) : Int) := by unfold wrap64; omega
    have hsh : shr .i64 x0 ((8 * (n - 1 - i) : Nat) : Int) = x0 / 256 ^ (n - 1 - i) := by
      unfold shr
      have hm : min ((8 * (n - 1 - i) : Nat) : Int).toNat 64 = 8 * (n - 1 - i) := by omega
      show x0 / 2 ^ min ((8 * (n - 1 - i) : Nat) : Int).toNat 64 = _
      rw [hm, Int.pow_mul]; rfl
    refine Ev.step (f := fun k => impl_number.l0 k x0 n (xs.set i ((x0 / 256 ^ (n - 1 - i)) % 256)) n ((i + 1 : Nat) : Int)) (fun k => ?_) ?_
    · rw [impl_number.l0, if_pos (by omega), hw, if_pos (by omega), if_pos (by omega), if_pos (by omega), hsh, show wrap64 ((i : Int) + 1) = ((i + 1 : Nat) : Int) from by unfold wrap64; omega]
      simp
    · refine ih x0 n _ (i + 1) (by omega) hn (by simp [hl]) (fun j hj => ?_)
      rw [List.getElem?_set]
      by_cases h : i = j
      · subst h
        rw [if_pos rfl, if_pos (by omega), numB_get n x0 i (by omega)]
      · rw [if_neg h]
        exact hx j (by omega)
theorem impl_num (n : Nat) (v : Int) (hn : n ≤ 8) : Ev (fun k => impl_number.f k v n) (strOfNums (numB n v)) := by
  have h := inum_l0 n v n (List.replicate n 0) 0 (by omega) hn (by simp) (fun j hj => by omega)
  refine Ev.congr (fun k => ?_) h
  unfold impl_number.f
  rw [if_pos (by omega), if_pos (by omega)]
  simp
end Go.Proofs.Ytoebfjfhdodakaa.Pure
end
section
set_option linter.unusedVariables false
namespace Go.Proofs.Ytoebfjfhdodakaa.Pure
open Go Go.RowKit Go.Proofs.Ytoebfjfhdodakaa Go.Proofs.YtoebfjfhdodakaaW.PrintWords
theorem w64 (x : Int) (h : -9223372036854775808 ≤ x ∧ x ≤ 9223372036854775807) : wrap64 x = x := by unfold wrap64; omega
theorem wsucc (i : Nat) (h : i < 9223372036854775807) : wrap64 ((i : Int) + 1) = ((i + 1 : Nat) : Int) := by unfold wrap64; omega
theorem rdS (l : List ByteArray) (i : Nat) (h : i < l.length) : rdOf ByteArray.empty l (i : Int) = l[i] := by
  simp [rdOf, List.getD, h]
end Go.Proofs.Ytoebfjfhdodakaa.Pure
end
section
set_option linter.unusedVariables false
set_option linter.unusedSimpArgs false
namespace Go.Proofs.Ytoebfjfhdodakaa.Pure
open Go Go.RowKit Go.Proofs.Ytoebfjfhdodakaa Go.Proofs.Ytoebfjfhdodakaa.L Go.Proofs.YtoebfjfhdodakaaW.PrintWords Go.Proofs.YtoebfjfhdodakaaW.PrintLast
theorem impl_crc (s : ByteArray) (hs : s.size ≤ 140737488351232) : impl_Crc32.f s = some (4294967295 - ((crcN s s.size : Nat) : Int)) := by
  unfold impl_Crc32.f
  rw [if_pos (by omega), crcReg_nat]
/-- A frame: the length, the CRC, the entry; nothing of an entry of another length. -/
def frameB (s : ByteArray) : ByteArray :=
  if 1 ≤ s.size ∧ s.size ≤ 60000 then (strOfNums (numB 4 s.size) ++ strOfNums (numB 4 (4294967295 - ((crcN s s.size : Nat) : Int)))) ++ s else ⟨#[]⟩
theorem impl_u32_ev (v : Int) : Ev (fun k => impl_u32.f k v) (strOfNums (numB 4 v)) := by
  unfold impl_u32.f
  exact (impl_num 4 v (by omega)).bind (Ev.now _)
theorem impl_frame (s : ByteArray) (hs : s.size ≤ 140737488351232) : Ev (fun k => impl_Frame.f k s) (frameB s) := by
  have hbad : Ev (fun k => impl_Frame.j0 k s true) ⟨#[]⟩ := Ev.step (f := fun _ => some ⟨#[]⟩) (fun k => by rw [impl_Frame.j0, if_pos rfl]) (Ev.now _)
  unfold impl_Frame.f frameB
  by_cases h1 : 1 ≤ s.size
  · simp only [if_neg (show ¬ (s.size : Int) < 1 by omega)]
    by_cases h2 : s.size ≤ 60000
    · rw [if_pos (And.intro h1 h2), show decide ((s.size : Int) > 60000) = false from decide_eq_false (by omega)]
      refine Ev.step (fun k => by rw [impl_Frame.j0, if_neg (by decide)]) ?_
      refine (impl_u32_ev s.size).bind ?_
      simp only [impl_crc s hs, Option.bind_some]
      refine (impl_u32_ev _).bind ?_
      simp only [strOfNums_size, ByteArray.size_append, numB_length]
      rw [if_pos (by omega), if_pos (by omega)]
      exact Ev.now _
    · rw [if_neg (show ¬ (1 ≤ s.size ∧ s.size ≤ 60000) from fun h => h2 h.2), show decide ((s.size : Int) > 60000) = true from decide_eq_true (by omega)]
      exact hbad
  · simp only [if_pos (show (s.size : Int) < 1 by omega)]
    rw [if_neg (show ¬ (1 ≤ s.size ∧ s.size ≤ 60000) from fun h => h1 h.1)]
    exact hbad
/-- The number that n bytes from a on spell, the highest first. -/
def bigN (s : ByteArray) (a : Nat) : Nat → Int
  | 0 => 0
  | n + 1 => bigN s a n * 256 + bt s ((a + n : Nat) : Int)
theorem bigN_range (s : ByteArray) (a n : Nat) : 0 ≤ bigN s a n ∧ bigN s a n < 256 ^ n := by
  induction n with
  | zero => simp [bigN]
  | succ n ih =>
    have h := bt_range s ((a + n : Nat) : Int)
    rw [bigN, Int.pow_succ]
    omega
theorem bigN_small (s : ByteArray) (a n : Nat) (h : n ≤ 4) : 0 ≤ bigN s a n ∧ bigN s a n < 4294967296 := by
  have := bigN_range s a n
  have h2 : (256 : Int) ^ n ≤ 256 ^ 4 := by
    have h3 : n = 0 ∨ n = 1 ∨ n = 2 ∨ n = 3 ∨ n = 4 := by omega
    rcases h3 with rfl | rfl | rfl | rfl | rfl <;> decide
  have h4 : (256 : Int) ^ 4 = 4294967296 := by decide
  omega
theorem or_byte64 (a b : Int) (ha : 0 ≤ a) (ha2 : a < 16777216) (hb : 0 ≤ b) (hb2 : b ≤ 255) : Go.bits .or .i64 (a * 256) b = a * 256 + b := by
  obtain ⟨x, rfl⟩ := Int.eq_ofNat_of_zero_le ha
  obtain ⟨y, rfl⟩ := Int.eq_ofNat_of_zero_le hb
  have h1 : ((x : Int) * 256) = ((x * 256 : Nat) : Int) := by omega
  have hx : x * 256 < 4294967296 := by omega
  have hy : y < 4294967296 := by omega
  have hor : x * 256 ||| y = x * 256 + y := by
    have := Nat.two_pow_add_eq_or_of_lt (i := 8) (b := y) (by omega) x
    rw [Nat.mul_comm x 256]
    exact this.symm
  show Go.bits .or .i64 ((x : Int) * 256) (y : Int) = (x : Int) * 256 + (y : Int)
  rw [h1]
  simp only [Go.bits, BitVec.ofInt_natCast, BitVec.toNat_or, BitVec.toNat_ofNat]
  rw [Nat.mod_eq_of_lt (show x * 256 < 2 ^ IntKind.i64.bits from Nat.lt_of_lt_of_le hx (by decide)), Nat.mod_eq_of_lt (show y < 2 ^ IntKind.i64.bits from Nat.lt_of_lt_of_le hy (by decide)), hor]
  have hw : IntKind.i64.wrap ((x * 256 + y : Nat) : Int) = ((x * 256 + y : Nat) : Int) := by
    simp only [IntKind.wrap, IntKind.bits, IntKind.signed]
    have : ((x * 256 + y : Nat) : Int) < 4294967296 := by omega
    simp
    omega
  rw [hw]
  omega
theorem big_l0 (s : ByteArray) (hs : s.size ≤ 4) (d : Nat) : ∀ i : Nat, i + d = s.size → Ev (fun k => impl_fromBig.l0 k s (bigN s 0 i) (s.size : Int) (i : Int)) (bigN s 0 s.size) := by
  induction d with
  | zero =>
    intro i hi
    obtain rfl : i = s.size := by omega
    exact Ev.step (f := fun _ => some (bigN s 0 s.size)) (fun k => by rw [impl_fromBig.l0, if_neg (by omega)]) (Ev.now _)
  | succ d ih =>
    intro i hi
    have h := bt_range s (i : Int)
    have hb := bigN_small s 0 i (by omega)
    have hb3 : bigN s 0 i < 16777216 := by
      have h2 := (bigN_range s 0 i).2
      have h3 : i = 0 ∨ i = 1 ∨ i = 2 ∨ i = 3 := by omega
      rcases h3 with rfl | rfl | rfl | rfl <;> omega
    refine Ev.step (fun k => ?_) (ih (i + 1) (by omega))
    rw [impl_fromBig.l0, if_pos (by omega), if_pos (by omega), if_pos (by omega), w64 (bt s (i : Int)) (by omega), w64 (bigN s 0 i * 256) (by omega), or_byte64 _ _ hb.1 hb3 h.1 h.2, wsucc i (by omega), bigN]
    rw [Nat.zero_add]
theorem big_ev (s : ByteArray) (hs : s.size ≤ 4) : Ev (fun k => impl_fromBig.f k s) (bigN s 0 s.size) :=
  Ev.congr (fun k => rfl) (big_l0 s hs s.size 0 (by omega))
theorem bt_extract (s : ByteArray) (a b : Nat) (hb : b ≤ s.size) (i : Nat) (hi : a + i < b) : bt (s.extract a b) (i : Int) = bt s ((a + i : Nat) : Int) := by
  unfold bt
  have h1 : (i : Int).toNat < (s.extract a b).size := by rw [ByteArray.size_extract]; omega
  have h2 : (((a + i : Nat) : Int)).toNat < s.size := by omega
  rw [dif_pos h1, dif_pos h2]
  simp only [Int.toNat_natCast]
  congr 2
  rw [ByteArray.getElem_extract]
theorem bigN_extract (s : ByteArray) (a b : Nat) (hb : b ≤ s.size) (n : Nat) (hn : a + n ≤ b) : bigN (s.extract a b) 0 n = bigN s a n := by
  induction n with
  | zero => rfl
  | succ n ih =>
    rw [bigN, bigN, ih (by omega), Nat.zero_add, bt_extract s a b hb n (by omega)]
theorem big_part (s : ByteArray) (a : Nat) (ha : a + 4 ≤ s.size) : Ev (fun k => impl_fromBig.f k (s.extract a (a + 4))) (bigN s a 4) := by
  have hz : (s.extract a (a + 4)).size = 4 := by rw [ByteArray.size_extract]; omega
  have := big_ev (s.extract a (a + 4)) (by omega)
  rw [hz, bigN_extract s a (a + 4) (by omega) 4 (by omega)] at this
  exact this
/-- The first entry: nothing where no frame begins. -/
def firstP (d : ByteArray) : Option ByteArray :=
  if d.size < 8 then none
  else if bigN d 0 4 < 1 ∨ 60000 < bigN d 0 4 ∨ (d.size : Int) - 8 < bigN d 0 4 then none
  else if 4294967295 - ((crcN (d.extract 8 (8 + (bigN d 0 4).toNat)) (d.extract 8 (8 + (bigN d 0 4).toNat)).size : Nat) : Int) = bigN d 4 4 then some (d.extract 8 (8 + (bigN d 0 4).toNat)) else none
/-- All entries: so many rounds at most. -/
def scanP : Nat → ByteArray → List ByteArray
  | 0, _ => []
  | n + 1, d => match firstP d with
    | none => []
    | some e => e :: scanP n (d.extract (8 + e.size) d.size)
def totP (l : List ByteArray) : Nat := (l.map fun e => 8 + e.size).sum
/-- What the program's loop yields. -/
theorem impl_l0 (n : Nat) : ∀ (d : ByteArray) (out : List ByteArray) (t : Nat), d.size < n → d.size ≤ 140737488351232 → out.length + d.size ≤ 8796093022000 → t + d.size ≤ 9223372036854775000 →
    Ev (fun k => impl_ScanFrames.l0 k d out (t : Int)) (out ++ scanP n d, ((t + totP (scanP n d) : Nat) : Int)) := by
  induction n with
  | zero => intro d out t h; omega
  | succ n ih =>
    intro d out t hd hs hl ht
    rw [scanP]
    have hn := bigN_small d 0 4 (by omega)
    refine Ev.step (f := fun k => if d.size < 8 then some (out, (t : Int)) else (impl_fromBig.f k (d.extract 0 4)).bind fun x => if x < 1 ∨ 60000 < x ∨ (d.size : Int) - 8 < x then some (out, (t : Int)) else (impl_Crc32.f (d.extract 8 (8 + x.toNat))).bind fun c => (impl_fromBig.f k (d.extract 4 8)).bind fun y => if c = y then (if out.length < 8796093022207 then impl_ScanFrames.l0 k (d.extract (8 + x.toNat) d.size) (out ++ [d.extract 8 (8 + x.toNat)]) (wrap64 ((t : Int) + wrap64 (8 + ((d.extract 8 (8 + x.toNat)).size : Int)))) else none) else some (out, (t : Int))) (fun k => by rw [impl_ScanFrames.l0]) ?_
    by_cases h1 : d.size < 8
    · simp only [if_pos h1, firstP, totP, List.append_nil, List.map_nil, List.sum_nil, Nat.add_zero]
      exact Ev.now _
    · simp only [if_neg h1]
      refine (big_part d 0 (by omega)).bind ?_
      by_cases h2 : bigN d 0 4 < 1 ∨ 60000 < bigN d 0 4 ∨ (d.size : Int) - 8 < bigN d 0 4
      · have e : firstP d = none := by unfold firstP; rw [if_neg h1, if_pos h2]
        simp only [if_pos h2, e, totP, List.append_nil, List.map_nil, List.sum_nil, Nat.add_zero]
        exact Ev.now _
      · have h3 : ¬ bigN d 0 4 < 1 := fun e => h2 (.inl e)
        have h4 : ¬ 60000 < bigN d 0 4 := fun e => h2 (.inr (.inl e))
        have h5 : ¬ (d.size : Int) - 8 < bigN d 0 4 := fun e => h2 (.inr (.inr e))
        obtain ⟨m, hm⟩ : ∃ m : Nat, bigN d 0 4 = (m : Int) := ⟨(bigN d 0 4).toNat, by omega⟩
        have hz : (d.extract 8 (8 + m)).size = m := by rw [ByteArray.size_extract]; omega
        simp only [if_neg h2]
        rw [hm]
        simp only [Int.toNat_natCast, impl_crc (d.extract 8 (8 + m)) (by omega), Option.bind_some]
        refine (big_part d 4 (by omega)).bind ?_
        by_cases h6 : 4294967295 - ((crcN (d.extract 8 (8 + m)) (d.extract 8 (8 + m)).size : Nat) : Int) = bigN d 4 4
        · have e : firstP d = some (d.extract 8 (8 + m)) := by unfold firstP; rw [if_neg h1, if_neg h2, hm, Int.toNat_natCast, if_pos h6]
          simp only [if_pos h6, e, if_pos (show out.length < 8796093022207 by omega)]
          simp only [hz]
          have hw : wrap64 ((t : Int) + wrap64 (8 + (m : Int))) = ((t + (8 + m) : Nat) : Int) := by rw [w64 (8 + (m : Int)) (by omega), w64 _ (by omega)]; omega
          rw [hw]
          have hz2 : (d.extract (8 + m) d.size).size = d.size - (8 + m) := by rw [ByteArray.size_extract]; omega
          have := ih (d.extract (8 + m) d.size) (out ++ [d.extract 8 (8 + m)]) (t + (8 + m)) (by omega) (by omega) (by rw [List.length_append, List.length_singleton]; omega) (by omega)
          simp only [totP, List.map_cons, List.sum_cons, hz] at this ⊢
          rw [List.append_assoc, List.singleton_append] at this
          have e2 : t + (8 + m + (List.map (fun e => 8 + e.size) (scanP n (d.extract (8 + m) d.size))).sum) = t + (8 + m) + (List.map (fun e => 8 + e.size) (scanP n (d.extract (8 + m) d.size))).sum := by omega
          rw [e2]
          exact this
        · have e : firstP d = none := by unfold firstP; rw [if_neg h1, if_neg h2, hm, Int.toNat_natCast, if_neg h6]
          simp only [if_neg h6, e, totP, List.append_nil, List.map_nil, List.sum_nil, Nat.add_zero]
          exact Ev.now _
theorem impl_scan (d : ByteArray) (hs : d.size ≤ 8000000000000) : Ev (fun k => impl_ScanFrames.f k d) (scanP (d.size + 1) d, ((totP (scanP (d.size + 1) d) : Nat) : Int)) := by
  have := impl_l0 (d.size + 1) d [] 0 (by omega) (by omega) (by simp; omega) (by omega)
  rw [List.nil_append, Nat.zero_add] at this
  refine Ev.congr (fun k => ?_) this
  unfold impl_ScanFrames.f
  rw [if_pos (by omega)]
  rfl
theorem bt_list (d : ByteArray) (i : Nat) (h : i < d.data.toList.length) : bt d (i : Int) = ((d.data.toList[i]'h).toNat : Int) := by
  have hs : i < d.size := by rw [Array.length_toList] at h; exact h
  unfold bt
  rw [dif_pos (show (i : Int).toNat < d.size by omega)]
  simp only [Int.toNat_natCast]
  rfl
theorem ofNat_inj {a b : Int} (ha : 0 ≤ a) (ha2 : a ≤ 255) (hb : 0 ≤ b) (hb2 : b ≤ 255) (h : UInt8.ofNat a.toNat = UInt8.ofNat b.toNat) : a = b := by
  have := congrArg UInt8.toNat h
  simp only [UInt8.toNat_ofNat'] at this
  omega
theorem four (d : ByteArray) (a : Nat) (ha : a + 4 ≤ d.size) : (d.data.toList.drop a).take 4 = [UInt8.ofNat (bt d ((a + 0 : Nat) : Int)).toNat, UInt8.ofNat (bt d ((a + 1 : Nat) : Int)).toNat, UInt8.ofNat (bt d ((a + 2 : Nat) : Int)).toNat, UInt8.ofNat (bt d ((a + 3 : Nat) : Int)).toNat] := by
  have hl : d.data.toList.length = d.size := by rw [Array.length_toList]; rfl
  rw [List.drop_eq_getElem_cons (show a < d.data.toList.length by omega), List.drop_eq_getElem_cons (show a + 1 < d.data.toList.length by omega), List.drop_eq_getElem_cons (show a + 1 + 1 < d.data.toList.length by omega), List.drop_eq_getElem_cons (show a + 1 + 1 + 1 < d.data.toList.length by omega)]
  rw [bt_list d (a + 0) (by omega), bt_list d (a + 1) (by omega), bt_list d (a + 2) (by omega), bt_list d (a + 3) (by omega)]
  simp
theorem four_iff (d : ByteArray) (a : Nat) (ha : a + 4 ≤ d.size) (v : Int) (h0 : 0 ≤ v) (h1 : v ≤ 4294967295) : ((numB 4 v).map fun n => UInt8.ofNat n.toNat) = (d.data.toList.drop a).take 4 ↔ v = bigN d a 4 := by
  rw [four d a ha]
  have e : (numB 4 v) = [v / 16777216 % 256, v / 65536 % 256, v / 256 % 256, v % 256] := by simp [numB]
  rw [e]
  have r0 := bt_range d ((a + 0 : Nat) : Int)
  have r1 := bt_range d ((a + 1 : Nat) : Int)
  have r2 := bt_range d ((a + 2 : Nat) : Int)
  have r3 := bt_range d ((a + 3 : Nat) : Int)
  have hB : bigN d a 4 = (((0 * 256 + bt d ((a + 0 : Nat) : Int)) * 256 + bt d ((a + 1 : Nat) : Int)) * 256 + bt d ((a + 2 : Nat) : Int)) * 256 + bt d ((a + 3 : Nat) : Int) := rfl
  rw [hB]
  constructor
  · intro h
    simp only [List.map_cons, List.map_nil, List.cons.injEq, and_true] at h
    obtain ⟨a0, a1, a2, a3⟩ := h
    have b0 := ofNat_inj (by omega) (by omega) r0.1 r0.2 a0
    have b1 := ofNat_inj (by omega) (by omega) r1.1 r1.2 a1
    have b2 := ofNat_inj (by omega) (by omega) r2.1 r2.2 a2
    have b3 := ofNat_inj (by omega) (by omega) r3.1 r3.2 a3
    omega
  · intro h
    have b0 : v / 16777216 % 256 = bt d ((a + 0 : Nat) : Int) := by omega
    have b1 : v / 65536 % 256 = bt d ((a + 1 : Nat) : Int) := by omega
    have b2 : v / 256 % 256 = bt d ((a + 2 : Nat) : Int) := by omega
    have b3 : v % 256 = bt d ((a + 3 : Nat) : Int) := by omega
    rw [b0, b1, b2, b3]
    rfl
end Go.Proofs.Ytoebfjfhdodakaa.Pure
end
section
set_option linter.unusedVariables false
set_option linter.unusedSimpArgs false
namespace Go.Proofs.Ytoebfjfhdodakaa.L
open Go Go.RowKit Go.Proofs.Ytoebfjfhdodakaa Go.Proofs.YtoebfjfhdodakaaW.PrintWords Go.Proofs.YtoebfjfhdodakaaW.PrintLast
/-- The bytes from a on as one number, the first the lowest. -/
def leN (s : ByteArray) (a : Nat) : Nat → Nat
  | 0 => 0
  | k + 1 => leN s a k ^^^ 2 ^ (8 * k) * (bt s ((a + k : Nat) : Int)).toNat
theorem pow_mul_xor (i x y : Nat) : 2 ^ i * (x ^^^ y) = 2 ^ i * x ^^^ 2 ^ i * y := by
  apply Nat.eq_of_testBit_eq
  intro j
  simp only [Nat.testBit_two_pow_mul, Nat.testBit_xor]
  by_cases h : i ≤ j <;> simp [h]
theorem crcN_le (s : ByteArray) (k : Nat) : crcN s k = crcLs (8 * k) (leN s 0 k ^^^ 4294967295) := by
  induction k with
  | zero => simp [crcN, leN, crcLs]
  | succ k ih =>
    have e : leN s 0 (k + 1) ^^^ 4294967295 = (leN s 0 k ^^^ 4294967295) ^^^ 2 ^ (8 * k) * (bt s ((0 + k : Nat) : Int)).toNat := by
      rw [leN, Nat.xor_assoc, Nat.xor_assoc, Nat.xor_comm 4294967295]
    rw [e, show 8 * (k + 1) = 8 + 8 * k by omega, crcLs_add, crcLs_xor, crcLs_shift, crcN, ih, Nat.zero_add]
theorem crcL_pos (x : Nat) (h0 : x ≠ 0) (h1 : x < 4294967296) : crcL x ≠ 0 := by
  unfold crcL
  by_cases ho : x % 2 = 1
  · rw [if_pos ho]
    intro h
    have h2 : x / 2 = 3988292384 := by
      have h3 : x / 2 ^^^ 3988292384 ^^^ 3988292384 = 0 ^^^ 3988292384 := by rw [h]
      rw [Nat.xor_assoc, Nat.xor_self, Nat.xor_zero, Nat.zero_xor] at h3
      exact h3
    omega
  · rw [if_neg ho, Nat.xor_zero]
    omega
theorem crcLs_pos (k x : Nat) (h0 : x ≠ 0) (h1 : x < 4294967296) : crcLs k x ≠ 0 := by
  induction k with
  | zero => exact h0
  | succ k ih => exact crcL_pos _ ih (crcLs_lt k x h1)
/-- Two byte strings that part by a burst have two CRCs. -/
theorem crc_burst (s t : ByteArray) (m fr Y : Nat) (hY : Y % 2 = 1) (hY2 : Y < 4294967296) (hfr : fr ≤ 8 * m) (h : leN t 0 m = leN s 0 m ^^^ 2 ^ fr * Y) : crcN s m ≠ crcN t m := by
  rw [crcN_le, crcN_le, h]
  have e : (leN s 0 m ^^^ 2 ^ fr * Y) ^^^ 4294967295 = (leN s 0 m ^^^ 4294967295) ^^^ 2 ^ fr * Y := by
    rw [Nat.xor_assoc, Nat.xor_assoc, Nat.xor_comm 4294967295]
  rw [e, crcLs_xor (8 * m) (leN s 0 m ^^^ 4294967295)]
  have e2 : crcLs (8 * m) (2 ^ fr * Y) = crcLs (8 * m - fr) Y := by
    have := crcLs_add (8 * m - fr) fr (2 ^ fr * Y)
    rw [crcLs_shift, show 8 * m - fr + fr = 8 * m by omega] at this
    exact this
  rw [e2]
  have hp := crcLs_pos (8 * m - fr) Y (by omega) hY2
  generalize crcLs (8 * m - fr) Y = z at hp ⊢
  generalize crcLs (8 * m) (leN s 0 m ^^^ 4294967295) = x
  intro hh
  apply hp
  have h3 : x ^^^ x = x ^^^ (x ^^^ z) := congrArg (x ^^^ ·) hh
  rw [Nat.xor_self, ← Nat.xor_assoc, Nat.xor_self, Nat.zero_xor] at h3
  exact h3.symm
theorem bt_getD (d : ByteArray) (i : Nat) : bt d (i : Int) = byteN d i := by
  unfold bt byteN
  by_cases h : i < d.size
  · have hl : i < d.data.toList.length := h
    rw [dif_pos (show (i : Int).toNat < d.size by omega)]
    simp only [Int.toNat_natCast, List.getD_eq_getElem?_getD, List.getElem?_eq_getElem hl, Option.getD_some]
    rfl
  · have hl : d.data.toList.length ≤ i := by
      have : ¬ i < d.data.size := h
      simpa using this
    rw [dif_neg (show ¬ (i : Int).toNat < d.size by omega)]
    simp [List.getD_eq_getElem?_getD, List.getElem?_eq_none hl]
theorem byteN_setB (s : ByteArray) (i j : Nat) (b : UInt8) (hi : i < s.size) : byteN (setB s i b) j = if j = i then (b.toNat : Int) else byteN s j := by
  unfold byteN setB
  have hl : i < s.data.toList.length := hi
  simp only [List.getD_eq_getElem?_getD, List.getElem?_set]
  by_cases h : i = j
  · subst h
    simp [hi]
  · have h' : ¬ j = i := fun e => h e.symm
    simp [h, h']
theorem turned_nat (n j : Nat) (hn : n < 256) (hj : j < 8) : turned (n : Int) j = ((n ^^^ 2 ^ j : Nat) : Int) := by
  have h2 : (2 : Int) ^ j = ((2 ^ j : Nat) : Int) := by simp
  have h3 : 2 ^ j < 256 := Nat.pow_lt_pow_right (by decide) hj
  unfold turned
  rw [h2, xorN_u8 n (2 ^ j) hn h3]
theorem bt_flip (s : ByteArray) (p j : Nat) (hp : 8 + p / 8 < s.size) : (bt (flipB s p) (j : Int)).toNat = if j = 8 + p / 8 then (bt s (j : Int)).toNat ^^^ 2 ^ (p % 8) else (bt s (j : Int)).toNat := by
  rw [bt_getD, bt_getD]
  unfold flipB
  rw [byteN_setB _ _ _ _ hp]
  by_cases h : j = 8 + p / 8
  · rw [if_pos h, if_pos h, ← h]
    obtain ⟨h0, h1⟩ := byteN_range s j
    obtain ⟨n, hn⟩ : ∃ n : Nat, byteN s j = n := ⟨(byteN s j).toNat, by omega⟩
    rw [turned_range _ _ h0 h1 (Nat.mod_lt _ (by decide)), hn, turned_nat n _ (by omega) (Nat.mod_lt _ (by decide))]
    simp only [Int.toNat_natCast]
  · rw [if_neg h, if_neg h]
theorem leN_flip (s : ByteArray) (p k : Nat) (hp : 8 + p / 8 < s.size) : leN (flipB s p) 8 k = leN s 8 k ^^^ (if p / 8 < k then 2 ^ p else 0) := by
  induction k with
  | zero => simp [leN]
  | succ k ih =>
    rw [leN, leN, ih, bt_flip s p (8 + k) hp]
    by_cases h1 : p / 8 < k
    · rw [if_pos h1, if_neg (show ¬ 8 + k = 8 + p / 8 by omega), if_pos (show p / 8 < k + 1 by omega), Nat.xor_assoc, Nat.xor_assoc, Nat.xor_comm (2 ^ p)]
    · rw [if_neg h1, Nat.xor_zero]
      by_cases h2 : p / 8 = k
      · rw [if_pos (show 8 + k = 8 + p / 8 by omega), if_pos (show p / 8 < k + 1 by omega), pow_mul_xor, ← Nat.xor_assoc]
        congr 1
        rw [← Nat.pow_add]
        congr 1
        omega
      · rw [if_neg (show ¬ 8 + k = 8 + p / 8 by omega), if_neg (show ¬ p / 8 < k + 1 by omega), Nat.xor_zero]
/-- What the law's loop has made of the frame: a burst, the head as it was. -/
theorem bGo_burst (pick : Int → Option Int) (fr m : Nat) : ∀ (n : Nat) (s g : ByteArray), n ≤ 32 → s.size = m + 8 → bGo pick fr m n s = some g →
    g.size = m + 8 ∧ (∀ j : Nat, j < 8 → (bt g (j : Int)).toNat = (bt s (j : Int)).toNat) ∧ ∃ Y, Y < 2 ^ n ∧ (n = 32 → fr < 8 * m → Y % 2 = 1) ∧ leN g 8 m = leN s 8 m ^^^ 2 ^ (fr + (32 - n)) * Y := by
  intro n
  induction n with
  | zero =>
    intro s g hn hs h
    obtain rfl := Option.some.inj h
    exact ⟨hs, fun _ _ => rfl, 0, by decide, by omega, by simp⟩
  | succ n ih =>
    intro s g hn hs h
    rw [bGo] at h
    by_cases hc : fr + (31 - n) < 8 * m
    · rw [if_pos hc] at h
      obtain ⟨p, hp, h⟩ := Option.bind_eq_some_iff.mp h
      have hb : 8 + (fr + (31 - n)) / 8 < s.size := by omega
      have hs' : (if p = 1 then flipB s (fr + (31 - n)) else s).size = m + 8 := by
        split
        · rw [flipB_size]; exact hs
        · exact hs
      obtain ⟨h1, h2, Y, hY, hY2, hle⟩ := ih _ g (by omega) hs' h
      refine ⟨h1, fun j hj => ?_, 2 * Y + (if p = 1 then 1 else 0), ?_, ?_, ?_⟩
      · rw [h2 j hj]
        split
        · rw [bt_flip s _ j hb, if_neg (by omega)]
        · rfl
      · rw [Nat.pow_succ]
        split <;> omega
      · intro h32 _
        rw [if_pos (show 31 - n = 0 by omega)] at hp
        obtain rfl := Option.some.inj hp
        rw [if_pos rfl]
        omega
      · rw [hle]
        have e1 : fr + (32 - n) = fr + (32 - (n + 1)) + 1 := by omega
        have e2 : fr + (31 - n) = fr + (32 - (n + 1)) := by omega
        rw [e2, e1, Nat.pow_succ, Nat.mul_assoc]
        by_cases hp1 : p = 1
        · rw [e2] at hc hb
          rw [if_pos hp1, if_pos hp1, leN_flip s _ m hb, if_pos (by omega), Nat.xor_assoc]
          congr 1
          have e3 : 2 * Y + 1 = 1 ^^^ 2 * Y := by
            apply Nat.eq_of_testBit_eq
            intro i
            cases i with
            | zero => simp
            | succ i =>
              have e4 : (2 * Y + 1) / 2 = Y := by omega
              have e5 : (1 ^^^ 2 * Y) / 2 = Y := by
                have h9 := Nat.xor_div_two_pow (a := 1) (b := 2 * Y) (n := 1)
                simpa using h9
              rw [Nat.testBit_succ, Nat.testBit_succ, e4, e5]
          rw [e3, pow_mul_xor, Nat.mul_one]
        · rw [if_neg hp1, if_neg hp1]
          rfl
    · rw [if_neg hc] at h
      obtain rfl := Option.some.inj h
      exact ⟨hs, fun _ _ => rfl, 0, by exact Nat.two_pow_pos _, fun h1 h2 => by omega, by simp⟩
theorem bGo_some (pick : Int → Option Int) (hp : ∀ i : Nat, ∃ r, pick (i : Int) = some r) (fr m : Nat) : ∀ (n : Nat) (s : ByteArray), ∃ g, bGo pick fr m n s = some g := by
  intro n
  induction n with
  | zero => intro s; exact ⟨s, rfl⟩
  | succ n ih =>
    intro s
    rw [bGo]
    split
    · split
      · rw [Option.bind_some]
        exact ih _
      · obtain ⟨r, hr⟩ := hp (3 + (31 - n))
        rw [show (3 : Int) + ((31 - n : Nat) : Int) = ((3 + (31 - n) : Nat) : Int) by omega, hr, Option.bind_some]
        exact ih _
    · exact ⟨s, rfl⟩
theorem leN_congr (s t : ByteArray) (a b k : Nat) (h : ∀ i, i < k → bt s ((a + i : Nat) : Int) = bt t ((b + i : Nat) : Int)) : leN s a k = leN t b k := by
  induction k with
  | zero => rfl
  | succ k ih => rw [leN, leN, ih (fun i hi => h i (by omega)), h k (by omega)]
end Go.Proofs.Ytoebfjfhdodakaa.L
end
section
set_option linter.unusedVariables false
set_option linter.unusedSimpArgs false
namespace Go.Proofs.Ytoebfjfhdodakaa.Pure
open Go Go.RowKit Go.Proofs.Ytoebfjfhdodakaa Go.Proofs.Ytoebfjfhdodakaa.L Go.Proofs.YtoebfjfhdodakaaW.PrintWords Go.Proofs.YtoebfjfhdodakaaW.PrintLast
theorem frame_parts (e : ByteArray) (h1 : 1 ≤ e.size) (h2 : e.size ≤ 60000) :
    (frameB e).size = e.size + 8 ∧ bigN (frameB e) 0 4 = (e.size : Int) ∧ bigN (frameB e) 4 4 = 4294967295 - ((crcN e e.size : Nat) : Int) ∧ (frameB e).extract 8 (8 + e.size) = e := by
  have hc := crcN_lt e e.size
  have hf : frameB e = (strOfNums (numB 4 (e.size : Int)) ++ strOfNums (numB 4 (4294967295 - ((crcN e e.size : Nat) : Int)))) ++ e := by
    unfold frameB
    rw [if_pos ⟨h1, h2⟩]
  have hA : ∀ x y : ByteArray, (x ++ y).data.toList = x.data.toList ++ y.data.toList := fun x y => by simp
  have hS : ∀ l : List Int, (strOfNums l).data.toList = l.map fun n => UInt8.ofNat n.toNat := fun l => by simp [strOfNums]
  have hz : (frameB e).size = e.size + 8 := by
    rw [hf, ByteArray.size_append, ByteArray.size_append, strOfNums_size, strOfNums_size, numB_length, numB_length]
    omega
  have hl : (frameB e).data.toList = (((numB 4 (e.size : Int)).map fun n => UInt8.ofNat n.toNat) ++ ((numB 4 (4294967295 - ((crcN e e.size : Nat) : Int))).map fun n => UInt8.ofNat n.toNat)) ++ e.data.toList := by
    rw [hf, hA, hA, hS, hS]
  have l4 : ∀ v, ((numB 4 v).map fun n => UInt8.ofNat n.toNat).length = 4 := fun v => by rw [List.length_map, numB_length]
  refine ⟨hz, ?_, ?_, ?_⟩
  · refine ((four_iff (frameB e) 0 (by omega) (e.size : Int) (by omega) (by omega)).1 ?_).symm
    rw [hl, List.drop_zero, List.append_assoc, List.take_append_of_le_length (by rw [l4]; exact Nat.le_refl _), List.take_of_length_le (by rw [l4]; exact Nat.le_refl _)]
  · refine ((four_iff (frameB e) 4 (by omega) (4294967295 - ((crcN e e.size : Nat) : Int)) (by omega) (by omega)).1 ?_).symm
    rw [hl, List.append_assoc, List.drop_append_of_le_length (by rw [l4]; exact Nat.le_refl _), List.drop_of_length_le (by rw [l4]; exact Nat.le_refl _), List.nil_append, List.take_append_of_le_length (by rw [l4]; exact Nat.le_refl _), List.take_of_length_le (by rw [l4]; exact Nat.le_refl _)]
  · apply ByteArray.ext
    apply Array.toList_inj.1
    have hE : ((frameB e).extract 8 (8 + e.size)).data.toList = ((frameB e).data.toList.drop 8).take (8 + e.size - 8) := by simp
    rw [hE, hl]
    have h8 : (((numB 4 (e.size : Int)).map fun n => UInt8.ofNat n.toNat) ++ ((numB 4 (4294967295 - ((crcN e e.size : Nat) : Int))).map fun n => UInt8.ofNat n.toNat)).length = 8 := by
      rw [List.length_append, l4, l4]
    rw [List.drop_append_of_le_length (by rw [h8]; exact Nat.le_refl _), List.drop_of_length_le (by rw [h8]; exact Nat.le_refl _), List.nil_append]
    have hle : e.data.toList.length = e.size := by rw [Array.length_toList]; rfl
    rw [List.take_of_length_le (by omega)]
theorem first_frame (e : ByteArray) (h1 : 1 ≤ e.size) (h2 : e.size ≤ 60000) : firstP (frameB e) = some e := by
  obtain ⟨hz, ha, hb, hx⟩ := frame_parts e h1 h2
  unfold firstP
  rw [ha, Int.toNat_natCast, hx, hb, hz, if_neg (by omega), if_neg (by omega), if_pos rfl]
theorem scan_frame (e : ByteArray) (h1 : 1 ≤ e.size) (h2 : e.size ≤ 60000) : scanP ((frameB e).size + 1) (frameB e) = [e] := by
  obtain ⟨hz, ha, hb, hx⟩ := frame_parts e h1 h2
  rw [scanP, first_frame e h1 h2]
  have hs : ((frameB e).extract (8 + e.size) (frameB e).size).size = 0 := by rw [ByteArray.size_extract]; omega
  have hn : firstP ((frameB e).extract (8 + e.size) (frameB e).size) = none := by
    unfold firstP
    rw [if_pos (by omega)]
  show e :: scanP (frameB e).size _ = [e]
  rw [hz, scanP]
  rw [hz] at hn
  rw [hn]
theorem bt_ext {s t : ByteArray} {j : Int} (h : (bt s j).toNat = (bt t j).toNat) : bt s j = bt t j := by
  have := bt_range s j
  have := bt_range t j
  omega
theorem scan_burst (pick : Int → Option Int) (fr : Nat) (e g : ByteArray) (h1 : 1 ≤ e.size) (h2 : e.size ≤ 60000) (hfr : fr < 8 * e.size) (hg : bGo pick fr e.size 32 (frameB e) = some g) :
    scanP (g.size + 1) g = [] ∧ g.size = e.size + 8 := by
  obtain ⟨hz, ha, hb, hx⟩ := frame_parts e h1 h2
  obtain ⟨gz, hh, Y, hY, hY2, hle⟩ := bGo_burst pick fr e.size 32 (frameB e) g (by omega) hz hg
  have hY1 := hY2 rfl hfr
  have hbit : ∀ j : Nat, j < 8 → bt g (j : Int) = bt (frameB e) (j : Int) := fun j hj => bt_ext (hh j hj)
  have hbig : ∀ a n : Nat, a + n ≤ 8 → bigN g a n = bigN (frameB e) a n := by
    intro a n
    induction n with
    | zero => intro _; rfl
    | succ n ih => intro h; rw [bigN, bigN, ih (by omega), hbit (a + n) (by omega)]
  have hlen : ∀ (t : ByteArray) (k : Nat), t.size = e.size + 8 → k ≤ e.size → leN (t.extract 8 (8 + e.size)) 0 k = leN t 8 k := fun t k ht hk =>
    leN_congr _ _ 0 8 k fun i hi => by rw [Nat.zero_add, bt_extract t 8 (8 + e.size) (by omega) i (by omega)]
  have hcrc : crcN e e.size ≠ crcN (g.extract 8 (8 + e.size)) e.size := by
    refine crc_burst e (g.extract 8 (8 + e.size)) e.size fr Y hY1 (by omega) (by omega) ?_
    rw [hlen g e.size gz (Nat.le_refl _), hle]
    have := hlen (frameB e) e.size hz (Nat.le_refl _)
    rw [hx] at this
    rw [this]
    rfl
  have hn : firstP g = none := by
    unfold firstP
    rw [hbig 0 4 (by omega), hbig 4 4 (by omega), ha, hb, Int.toNat_natCast, if_neg (by omega), if_neg (by omega), if_neg ?_]
    have hgs : (g.extract 8 (8 + e.size)).size = e.size := by rw [ByteArray.size_extract]; omega
    rw [hgs]
    omega
  refine ⟨?_, gz⟩
  rw [scanP, hn]
end Go.Proofs.Ytoebfjfhdodakaa.Pure
end
section
namespace Go.Proofs.Ytoebfjfhdodakaa
open Go.RowKit Go.Proofs.YtoebfjfhdodakaaW.PrintWords
/-- Do the bytes of s from i on, so many, all answer yes? -/
def allFrom (p : Int → Bool) (s : ByteArray) : Nat → Nat → Bool
  | 0, _ => true
  | d + 1, i => p (bt s i) && allFrom p s d (i + 1)
/-- A byte inside a name. -/
def wordByte (c : Int) : Bool := (decide (97 ≤ c) && decide (c ≤ 122)) || (decide (48 ≤ c) && decide (c ≤ 57)) || c == 95
/-- A byte of a text. -/
def textByte (c : Int) : Bool := decide (32 ≤ c) && decide (c ≤ 126)
end Go.Proofs.Ytoebfjfhdodakaa
end
section
set_option linter.unusedVariables false
set_option linter.unusedSimpArgs false
namespace Go.Proofs.Ytoebfjfhdodakaa.Pure
open Go Go.RowKit Go.Proofs.Ytoebfjfhdodakaa Go.Proofs.Ytoebfjfhdodakaa.L Go.Proofs.YtoebfjfhdodakaaW.PrintWords Go.Proofs.YtoebfjfhdodakaaW.PrintMore Go.Proofs.YtoebfjfhdodakaaW.PrintLast
def kwL : List (List UInt8) := [[97, 110, 100], [99, 114, 101, 97, 116, 101], [100, 101, 108, 101, 116, 101], [102, 114, 111, 109], [105, 110, 115, 101, 114, 116], [105, 110, 116], [105, 110, 116, 111], [108, 101, 110], [110, 111, 116], [111, 114], [115, 101, 108, 101, 99, 116], [115, 101, 116], [116, 97, 98, 108, 101], [116, 101, 120, 116], [117, 112, 100, 97, 116, 101], [118, 97, 108, 117, 101, 115], [119, 104, 101, 114, 101]]
def isKw (s : ByteArray) : Bool := kwL.contains s.data.toList
def nameKw (s : ByteArray) : Bool := decide (1 ≤ s.size) && (decide (s.size ≤ 30) && ((decide (97 ≤ bt s 0) && decide (bt s 0 ≤ 122)) && (allFrom wordByte s s.size 0 && !isKw s)))
abbrev Col := S114
abbrev Val := S116
abbrev Itm := S122
theorem rdCol (l : List Col) (i : Nat) (h : i < l.length) : rd_T114 l (i : Int) = l[i] := by simp [rd_T114, h]
theorem rdVal (l : List Val) (i : Nat) (h : i < l.length) : rd_T116 l (i : Int) = l[i] := by simp [rd_T116, h]
theorem rdItm (l : List Itm) (i : Nat) (h : i < l.length) : rd_T122 l (i : Int) = l[i] := by simp [rd_T122, h]
theorem rdII (l : List (List Itm)) (i : Nat) (h : i < l.length) : rd_L8 l (i : Int) = l[i] := by simp [rd_L8, h]
theorem ff : ¬ (false = true) := by decide
theorem between_b (x lo hi : Int) : spec_l1Between.f x lo hi = some (decide (lo ≤ x ∧ x ≤ hi)) := by
  unfold spec_l1Between.f
  by_cases h0 : lo ≤ x
  · rw [if_pos h0]; simp [h0]
  · rw [if_neg h0]; simp [h0]
theorem spec_letter (c : Int) : spec_l4Letter.f c = some (decide (97 ≤ c) && decide (c ≤ 122)) := by
  unfold spec_l4Letter.f
  by_cases h1 : 97 ≤ c <;> by_cases h2 : c ≤ 122 <;> simp [h1, h2]
theorem spec_inner (c : Int) : spec_l4Inner.f c = some (wordByte c) := by
  unfold spec_l4Inner.f wordByte
  rw [spec_letter]
  by_cases h1 : 97 ≤ c <;> by_cases h2 : c ≤ 122 <;> by_cases h3 : 48 ≤ c <;> by_cases h4 : c ≤ 57 <;> simp [h1, h2, h3, h4]
theorem has_l0 (s : ByteArray) (l : List ByteArray) (hl : l.length ≤ 1000) (d : Nat) : ∀ i : Nat, i + d = l.length → Ev (fun k => spec_l4Has.l0 k s l (l.length : Int) (i : Int)) ((l.drop i).any fun x => decide (x.toList = s.toList)) := by
  induction d with
  | zero =>
    intro i hi
    have hd : l.drop i = [] := List.drop_eq_nil_of_le (by omega)
    rw [hd]
    refine Ev.step (f := fun _ => some false) (fun k => ?_) (Ev.now _)
    rw [spec_l4Has.l0, if_neg (by omega)]
  | succ d ih =>
    intro i hi
    have hil : i < l.length := by omega
    have hd : l.drop i = l[i] :: l.drop (i + 1) := List.drop_eq_getElem_cons hil
    rw [hd, List.any_cons]
    by_cases h : l[i].toList = s.toList
    · refine Ev.step (f := fun _ => some true) (fun k => ?_) ?_
      · rw [spec_l4Has.l0, if_pos (by omega), if_pos (by omega), if_pos (by omega), rdS l i hil, if_pos h]
      · rw [decide_eq_true h, Bool.true_or]; exact Ev.now _
    · refine Ev.step (f := fun k => spec_l4Has.l0 k s l (l.length : Int) ((i + 1 : Nat) : Int)) (fun k => ?_) ?_
      · rw [spec_l4Has.l0, if_pos (by omega), if_pos (by omega), if_pos (by omega), rdS l i hil, if_neg h, wsucc i (by omega)]
      · rw [decide_eq_false h, Bool.false_or]; exact ih (i + 1) (by omega)
/-- The reference's keywords. -/
def kwS : List ByteArray := (spec_l4Keywords.f).getD []
theorem kwS_eq : spec_l4Keywords.f = some kwS := rfl
theorem kw_sub1 : ∀ a ∈ kwS.map (fun x => x.data.toList), a ∈ kwL := by decide
theorem kw_sub2 : ∀ a ∈ kwL, a ∈ kwS.map (fun x => x.data.toList) := by decide
theorem has_kw (s : ByteArray) : (kwS.any fun x => decide (x.toList = s.toList)) = isKw s := by
  rw [Bool.eq_iff_iff]
  unfold isKw
  rw [List.any_eq_true, List.contains_iff_mem]
  constructor
  · rintro ⟨x, hx, h⟩
    have h := of_decide_eq_true h
    rw [ByteArray.toList_eq, ByteArray.toList_eq] at h
    rw [← h]
    exact kw_sub1 _ (List.mem_map_of_mem hx)
  · intro h
    obtain ⟨x, hx, e⟩ := List.mem_map.1 (kw_sub2 _ h)
    exact ⟨x, hx, decide_eq_true (by rw [ByteArray.toList_eq, ByteArray.toList_eq]; exact e)⟩
theorem name_l0 (s : ByteArray) (hs : s.size ≤ 1000) (d : Nat) : ∀ i : Nat, i + d = s.size → Ev (fun k => spec_l4Name.l0 k s (i : Int)) (allFrom wordByte s d i) := by
  induction d with
  | zero =>
    intro i hi
    exact Ev.step (f := fun _ => some true) (fun k => by rw [spec_l4Name.l0, if_neg (by omega)]) (Ev.now _)
  | succ d ih =>
    intro i hi
    rw [allFrom]
    refine Ev.step (f := fun k => if wordByte (bt s i) = true then spec_l4Name.l0 k s ((i + 1 : Nat) : Int) else some false) (fun k => ?_) ?_
    · rw [spec_l4Name.l0, if_pos (by omega), if_pos (by omega), spec_inner, Option.bind_some, wsucc i (by omega)]
    · cases hb : wordByte (bt s i) with
      | false => simp only [if_neg ff, Bool.false_and]; exact Ev.now _
      | true => simp only [if_true, Bool.true_and]; exact ih (i + 1) (by omega)
theorem spec_nm (s : ByteArray) : Ev (fun k => spec_l4Name.f k s) (nameKw s) := by
  have hbad : Ev (fun k => spec_l4Name.j0 k s true) false := Ev.step (f := fun _ => some false) (fun k => by rw [spec_l4Name.j0, if_pos rfl]) (Ev.now _)
  unfold spec_l4Name.f nameKw
  simp only [between_b, Option.bind_some, spec_letter, kwS_eq]
  by_cases h1 : 1 ≤ s.size
  · by_cases h2 : s.size ≤ 30
    · simp only [decide_eq_true (show (1 : Int) ≤ (s.size : Int) ∧ (s.size : Int) ≤ 30 by omega), if_true, if_pos (show (0 : Int) < (s.size : Int) by omega), decide_eq_true h1, decide_eq_true h2, Bool.true_and]
      cases hL : (decide (97 ≤ bt s 0) && decide (bt s 0 ≤ 122)) with
      | false => simp only [if_neg ff, Bool.false_and]; exact hbad
      | true =>
        simp only [if_true, Bool.true_and]
        have hh := has_l0 s kwS (by decide) kwS.length 0 (by omega)
        rw [List.drop_zero, has_kw] at hh
        refine Ev.bind (Ev.congr (fun k => rfl) hh) ?_
        cases hk : isKw s with
        | true => simp only [Bool.not_true, Bool.and_false]; exact hbad
        | false =>
          simp only [Bool.not_false, Bool.and_true]
          refine Ev.step (fun k => by rw [spec_l4Name.j0, if_neg ff]) ?_
          exact name_l0 s (by omega) s.size 0 (by omega)
    · simp only [decide_eq_false (show ¬ ((1 : Int) ≤ (s.size : Int) ∧ (s.size : Int) ≤ 30) by omega), if_neg ff, decide_eq_true h1, decide_eq_false h2, Bool.true_and, Bool.false_and]
      exact hbad
  · simp only [decide_eq_false (show ¬ ((1 : Int) ≤ (s.size : Int) ∧ (s.size : Int) ≤ 30) by omega), if_neg ff, decide_eq_false h1, Bool.false_and]
    exact hbad
/-- A text. -/
def textOk (s : ByteArray) : Bool := decide (s.size ≤ 200) && allFrom textByte s s.size 0
theorem text_l0 (s : ByteArray) (hs : s.size ≤ 1000) (d : Nat) : ∀ i : Nat, i + d = s.size → Ev (fun k => spec_l4Text.l0 k s (i : Int)) (allFrom textByte s d i) := by
  induction d with
  | zero =>
    intro i hi
    exact Ev.step (f := fun _ => some true) (fun k => by rw [spec_l4Text.l0, if_neg (by omega)]) (Ev.now _)
  | succ d ih =>
    intro i hi
    rw [allFrom]
    have hr := bt_range s i
    have hw : wrap64 (bt s i) = bt s i := w64 _ (by omega)
    have ht : decide (32 ≤ bt s i ∧ bt s i ≤ 126) = textByte (bt s i) := by
      unfold textByte
      by_cases h1 : 32 ≤ bt s i <;> by_cases h2 : bt s i ≤ 126 <;> simp [h1, h2]
    refine Ev.step (f := fun k => if textByte (bt s i) = true then spec_l4Text.l0 k s ((i + 1 : Nat) : Int) else some false) (fun k => ?_) ?_
    · rw [spec_l4Text.l0, if_pos (by omega), if_pos (by omega), hw, between_b, ht, Option.bind_some, wsucc i (by omega)]
    · cases hb : textByte (bt s i) with
      | false => simp only [if_neg ff, Bool.false_and]; exact Ev.now _
      | true => simp only [if_true, Bool.true_and]; exact ih (i + 1) (by omega)
theorem spec_txt (s : ByteArray) : Ev (fun k => spec_l4Text.f k s) (textOk s) := by
  unfold spec_l4Text.f textOk
  by_cases h : s.size ≤ 200
  · simp only [if_neg (show ¬ (s.size : Int) > 200 by omega), decide_eq_true h, Bool.true_and]
    exact text_l0 s (by omega) s.size 0 (by omega)
  · simp only [if_pos (show (s.size : Int) > 200 by omega), decide_eq_false h, Bool.false_and]
    exact Ev.now _
def numOk (n : Int) : Bool := n != (-9223372036854775808)
/-- A value of a statement. -/
def valOk (t n : Int) (x : ByteArray) : Bool := if t = 1 then (numOk n && (x.toList == ([] : List UInt8))) else if t = 2 then (decide (n = 0) && textOk x) else false
theorem spec_val (t n : Int) (x : ByteArray) : Ev (fun k => spec_l4Value.f k t n x) (valOk t n x) := by
  unfold spec_l4Value.f valOk spec_l4Number.f numOk
  by_cases h1 : t = 1
  · simp only [if_pos h1, Option.bind_some]
    cases (n != (-9223372036854775808)) with
    | false => simp only [if_neg ff, Bool.false_and]; exact Ev.now _
    | true => simp only [if_true, Bool.true_and]; exact Ev.now _
  · by_cases h2 : t = 2
    · by_cases h3 : n = 0
      · simp only [if_neg h1, if_pos h2, if_pos h3, decide_eq_true h3, Bool.true_and]
        exact (spec_txt x).bind (Ev.now _)
      · simp only [if_neg h1, if_pos h2, if_neg h3, decide_eq_false h3, Bool.false_and]; exact Ev.now _
    · simp only [if_neg h1, if_neg h2]; exact Ev.now _
/-- An item of an expression. -/
def itmOk (op n : Int) (x : ByteArray) : Bool :=
  if op = 1 then (numOk n && (x.toList == ([] : List UInt8))) else if op = 2 then (decide (n = 0) && textOk x) else if op = 3 then (decide (n = 0) && nameKw x) else (decide (4 ≤ op ∧ op ≤ 13) && (decide (n = 0) && (x.toList == ([] : List UInt8))))
def arity (op : Int) : Int := if op ≤ 3 then 0 else if op = 11 then 1 else if op = 13 then 1 else 2
theorem spec_itm (op n : Int) (x : ByteArray) : Ev (fun k => spec_l4Item.f k op n x) (itmOk op n x) := by
  unfold spec_l4Item.f itmOk spec_l4Number.f numOk
  by_cases h1 : op = 1
  · simp only [if_pos h1, Option.bind_some]
    cases (n != (-9223372036854775808)) with
    | false => simp only [if_neg ff, Bool.false_and]; exact Ev.now _
    | true => simp only [if_true, Bool.true_and]; exact Ev.now _
  · by_cases h2 : op = 2
    · by_cases hn : n = 0
      · simp only [if_neg h1, if_pos h2, if_pos hn, decide_eq_true hn, Bool.true_and]
        exact (spec_txt x).bind (Ev.now _)
      · simp only [if_neg h1, if_pos h2, if_neg hn, decide_eq_false hn, Bool.false_and]; exact Ev.now _
    · by_cases h3 : op = 3
      · by_cases hn : n = 0
        · simp only [if_neg h1, if_neg h2, if_pos h3, if_pos hn, decide_eq_true hn, Bool.true_and]
          exact (spec_nm x).bind (Ev.now _)
        · simp only [if_neg h1, if_neg h2, if_pos h3, if_neg hn, decide_eq_false hn, Bool.false_and]; exact Ev.now _
      · simp only [if_neg h1, if_neg h2, if_neg h3, between_b, Option.bind_some]
        by_cases h4 : 4 ≤ op ∧ op ≤ 13
        · by_cases hn : n = 0
          · simp only [decide_eq_true h4, if_true, if_pos hn, decide_eq_true hn, Bool.true_and]; exact Ev.now _
          · simp only [decide_eq_true h4, if_true, if_neg hn, decide_eq_false hn, Bool.true_and, Bool.false_and]; exact Ev.now _
        · simp only [decide_eq_false h4, if_neg ff, Bool.false_and]; exact Ev.now _
theorem spec_ar (op : Int) : spec_l4Arity.f op = some (arity op) := by
  unfold spec_l4Arity.f arity
  split
  · rfl
  · split
    · rfl
    · split <;> rfl
/-- An expression from its item number i on, with so many operands on the stack. -/
def expRun : List Itm → Int → Bool
  | [], d => d == 1
  | t :: r, d => itmOk t.f0 t.f1 t.f2 && (if d < arity t.f0 then false else expRun r (d + (1 - arity t.f0)))
theorem arity_range (op : Int) : 0 ≤ arity op ∧ arity op ≤ 2 := by
  unfold arity
  split
  · omega
  · split
    · omega
    · split <;> omega
theorem spec_exp_l0 (l : List Itm) (hl : l.length ≤ 1000) (e : Nat) : ∀ (i : Nat) (d : Int), i + e = l.length → 0 ≤ d → d ≤ i → Ev (fun k => spec_l4Exp.l0 k d l (l.length : Int) (i : Int)) (expRun (l.drop i) d) := by
  induction e with
  | zero =>
    intro i d hi h0 h1
    have hd : l.drop i = [] := List.drop_eq_nil_of_le (by omega)
    rw [hd]
    exact Ev.step (f := fun _ => some (d == 1)) (fun k => by rw [spec_l4Exp.l0, if_neg (by omega)]) (Ev.now _)
  | succ e ih =>
    intro i d hi h0 h1
    have hil : i < l.length := by omega
    have hd : l.drop i = l[i] :: l.drop (i + 1) := List.drop_eq_getElem_cons hil
    have ha := arity_range l[i].f0
    have w1 : wrap64 (1 - arity l[i].f0) = 1 - arity l[i].f0 := w64 _ (by omega)
    have w2 : wrap64 (d + (1 - arity l[i].f0)) = d + (1 - arity l[i].f0) := w64 _ (by omega)
    rw [hd, expRun]
    refine Ev.step (f := fun k => (spec_l4Item.f k l[i].f0 l[i].f1 l[i].f2).bind fun t => if t = true then (if d < arity l[i].f0 then some false else spec_l4Exp.l0 k (d + (1 - arity l[i].f0)) l (l.length : Int) ((i + 1 : Nat) : Int)) else some false) (fun k => ?_) ?_
    · rw [spec_l4Exp.l0, if_pos (by omega), if_pos (by omega), if_pos (by omega), rdItm l i hil]
      simp only [spec_ar, Option.bind_some, w1, w2, wsucc i (show i < 9223372036854775807 by omega)]
    · refine (spec_itm _ _ _).bind ?_
      cases hk : itmOk l[i].f0 l[i].f1 l[i].f2 with
      | false => simp only [if_neg ff, Bool.false_and]; exact Ev.now _
      | true =>
        simp only [if_true, Bool.true_and]
        by_cases hc : d < arity l[i].f0
        · simp only [if_pos hc]; exact Ev.now _
        · simp only [if_neg hc]; exact ih (i + 1) _ (by omega) (by omega) (by omega)
/-- An expression. -/
def expOk (l : List Itm) : Bool := decide (1 ≤ l.length ∧ l.length ≤ 100) && expRun l 0
theorem spec_exp (l : List Itm) : Ev (fun k => spec_l4Exp.f k l) (expOk l) := by
  unfold spec_l4Exp.f expOk
  simp only [between_b, Option.bind_some]
  by_cases h : 1 ≤ l.length ∧ l.length ≤ 100
  · simp only [decide_eq_true (show (1 : Int) ≤ (l.length : Int) ∧ (l.length : Int) ≤ 100 by omega), if_true, decide_eq_true h, Bool.true_and]
    exact spec_exp_l0 l (by omega) l.length 0 0 (by omega) (by omega) (by omega)
  · simp only [decide_eq_false (show ¬ ((1 : Int) ≤ (l.length : Int) ∧ (l.length : Int) ≤ 100) by omega), if_neg ff, decide_eq_false h, Bool.false_and]
    exact Ev.now _
def whOk (l : List Itm) : Bool := decide (l.length = 0) || expOk l
theorem spec_wh (l : List Itm) : Ev (fun k => spec_l4Where.f k l) (whOk l) := by
  unfold spec_l4Where.f whOk
  by_cases h : l.length = 0
  · simp only [if_pos (show (l.length : Int) = 0 by omega), decide_eq_true h, Bool.true_or]; exact Ev.now _
  · simp only [if_neg (show ¬ (l.length : Int) = 0 by omega), decide_eq_false h, Bool.false_or]
    exact (spec_exp l).bind (Ev.now _)
def colOk (c : Col) : Bool := nameKw c.f0 && (decide (c.f1 = 1) || decide (c.f1 = 2))
/-- The document's StmOK. -/
def stmOk (kind : Int) (table : ByteArray) (cols : List Col) (vals : List Val) (col : ByteArray) (exp wh : List Itm) (outs : List (List Itm)) : Bool :=
  nameKw table &&
    (if kind = 1 then decide (vals.length = 0) && (decide (col.toList = ([] : List UInt8)) && (decide (exp.length = 0) && (decide (outs.length = 0) && (decide (wh.length = 0) && (decide (1 ≤ cols.length ∧ cols.length ≤ 20) && cols.all colOk)))))
     else if kind = 2 then decide (cols.length = 0) && (decide (col.toList = ([] : List UInt8)) && (decide (exp.length = 0) && (decide (outs.length = 0) && (decide (wh.length = 0) && (decide (1 ≤ vals.length ∧ vals.length ≤ 20) && vals.all fun v => valOk v.f0 v.f1 v.f2)))))
     else if kind = 3 then decide (cols.length = 0) && (decide (vals.length = 0) && (decide (outs.length = 0) && (nameKw col && (expOk exp && whOk wh))))
     else if kind = 4 then decide (cols.length = 0) && (decide (vals.length = 0) && (decide (col.toList = ([] : List UInt8)) && (decide (exp.length = 0) && (decide (outs.length = 0) && whOk wh))))
     else if kind = 5 then decide (cols.length = 0) && (decide (vals.length = 0) && (decide (col.toList = ([] : List UInt8)) && (decide (exp.length = 0) && (decide (1 ≤ outs.length ∧ outs.length ≤ 20) && (outs.all expOk && whOk wh)))))
     else false)
end Go.Proofs.Ytoebfjfhdodakaa.Pure
end
section
set_option linter.unusedVariables false
set_option linter.unusedSimpArgs false
namespace Go.Proofs.Ytoebfjfhdodakaa.Gen
open Go Go.RowKit Go.Proofs.Ytoebfjfhdodakaa Go.Proofs.YtoebfjfhdodakaaW.PrintWords
/-- The sum of the elements' weights. -/
def sumW {α : Type} (w : α → Nat) (l : List α) : Nat := (l.map w).sum
theorem sumW_drop {α : Type} (w : α → Nat) (l : List α) (i : Nat) (h : i < l.length) : sumW w (l.drop i) = w l[i] + sumW w (l.drop (i + 1)) := by
  rw [show l.drop i = l[i] :: l.drop (i + 1) from List.drop_eq_getElem_cons h]
  rfl
theorem sz {α : Type} (w : α → Nat) (F : Nat → List α → Int → Int → Option Int) (E : Nat → α → Int → Option Int) (l : List α) (B : Int)
    (hs : ∀ k a (i : Nat) (h : i < l.length), F (k + 1) l a (i : Int) = (E k l[i] a).bind fun t => if t < 0 then some (-1) else F k l t ((i + 1 : Nat) : Int))
    (hz : ∀ k a, F (k + 1) l a (l.length : Int) = some a)
    (hE : ∀ x ∈ l, ∀ a, 0 ≤ a → a ≤ B → Ev (fun k => E k x a) (if (w x : Int) ≤ a then a - w x else -1)) (d : Nat) :
    ∀ (i : Nat) (a : Int), i + d = l.length → 0 ≤ a → a ≤ B → Ev (fun k => F k l a (i : Int)) (if (sumW w (l.drop i) : Int) ≤ a then a - sumW w (l.drop i) else -1) := by
  induction d with
  | zero =>
    intro i a hi h0 h1
    have hd : l.drop i = [] := List.drop_eq_nil_of_le (by omega)
    obtain rfl : i = l.length := by omega
    refine Ev.step (f := fun _ => some a) (fun k => hz k a) ?_
    rw [hd]
    have e : sumW w ([] : List α) = 0 := rfl
    rw [e, if_pos (by omega)]
    simpa using Ev.now a
  | succ d ih =>
    intro i a hi h0 h1
    have hil : i < l.length := by omega
    have hsum := sumW_drop w l i hil
    refine Ev.step (fun k => hs k a i hil) ?_
    refine (hE _ (List.getElem_mem hil) a h0 h1).bind ?_
    by_cases hc : (w l[i] : Int) ≤ a
    · simp only [if_pos hc, if_neg (show ¬ (a - (w l[i] : Int) < 0) by omega)]
      have := ih (i + 1) (a - (w l[i] : Int)) (by omega) (by omega) (by omega)
      have e1 : ((sumW w (l.drop (i + 1)) : Int) ≤ a - (w l[i] : Int)) ↔ ((sumW w (l.drop i) : Int) ≤ a) := by rw [hsum]; omega
      have e2 : a - (w l[i] : Int) - (sumW w (l.drop (i + 1)) : Int) = a - (sumW w (l.drop i) : Int) := by rw [hsum]; omega
      rw [e2] at this
      simpa only [e1] using this
    · simp only [if_neg hc, if_pos (show (-1 : Int) < 0 by decide)]
      rw [if_neg (by rw [hsum]; omega)]
      exact Ev.now _
theorem every {α : Type} (p : α → Bool) (r : Bool) (F : Nat → Int → Option Bool) (E : Nat → α → Option Bool) (l : List α)
    (hs : ∀ k (i : Nat) (h : i < l.length), F (k + 1) (i : Int) = (E k l[i]).bind fun t => if t = true then F k ((i + 1 : Nat) : Int) else some false)
    (hz : Ev (fun k => F k (l.length : Int)) r)
    (hE : ∀ x ∈ l, Ev (fun k => E k x) (p x)) (d : Nat) : ∀ (i : Nat), i + d = l.length → Ev (fun k => F k (i : Int)) ((l.drop i).all p && r) := by
  induction d with
  | zero =>
    intro i hi
    have hd : l.drop i = [] := List.drop_eq_nil_of_le (by omega)
    obtain rfl : i = l.length := by omega
    rw [hd]
    exact hz
  | succ d ih =>
    intro i hi
    have hil : i < l.length := by omega
    have hd : l.drop i = l[i] :: l.drop (i + 1) := List.drop_eq_getElem_cons hil
    refine Ev.step (fun k => hs k i hil) ?_
    refine (hE _ (List.getElem_mem hil)).bind ?_
    rw [hd, List.all_cons]
    cases hp : p l[i] with
    | false => simp only [Bool.false_and, if_neg (show ¬ (false = true) by decide)]; exact Ev.now _
    | true => simp only [if_true, Bool.true_and]; exact ih (i + 1) (by omega)
end Go.Proofs.Ytoebfjfhdodakaa.Gen
end
section
set_option linter.unusedVariables false
set_option linter.unusedSimpArgs false
namespace Go.Proofs.Ytoebfjfhdodakaa.Pure
open Go Go.RowKit Go.Proofs.Ytoebfjfhdodakaa Go.Proofs.Ytoebfjfhdodakaa.L Go.Proofs.YtoebfjfhdodakaaW.PrintWords Go.Proofs.YtoebfjfhdodakaaW.PrintMore Go.Proofs.YtoebfjfhdodakaaW.PrintLast
/-- Does something stand that this kind has not? -/
def bad (kind : Int) (cols : List Col) (vals : List Val) (col : ByteArray) (exp : List Itm) (outs : List (List Itm)) : Bool :=
  (decide (¬ kind = 1) && decide (¬ cols.length = 0)) || ((decide (¬ kind = 2) && decide (¬ vals.length = 0)) || ((decide (¬ kind = 3) && (decide (¬ col.toList = ([] : List UInt8)) || decide (¬ exp.length = 0))) || (decide (¬ kind = 5) && decide (¬ outs.length = 0))))
theorem ne0 {α : Type} (l : List α) : ((l.length : Int) != 0) = decide (¬ l.length = 0) := by
  by_cases h : l.length = 0
  · simp [h]
  · rw [decide_eq_true h]; exact bne_iff_ne.2 (by omega)
theorem len0 {α : Type} (l : List α) : ((l.length : Int) = 0) ↔ l.length = 0 := by omega
theorem spec_f_eq (k : Nat) (kind : Int) (table : ByteArray) (cols : List Col) (vals : List Val) (col : ByteArray) (exp wh : List Itm) (outs : List (List Itm)) :
    spec_StmOK.f k kind table cols vals col exp wh outs = (spec_l4Name.f k table).bind fun t => if t = true then spec_StmOK.j0 k kind (bad kind cols vals col exp outs) kind table cols vals col exp wh outs else some false := by
  unfold spec_StmOK.f bad
  simp only [ne0, len0]
  congr 1
  funext t
  cases t with
  | false => simp only [if_neg ff]
  | true =>
    simp only [if_true]
    by_cases h1 : kind = 1
    · subst h1
      by_cases e2 : vals.length = 0 <;> by_cases e3 : col.toList = ([] : List UInt8) <;> by_cases e4 : exp.length = 0 <;> simp [e2, e3, e4]
    · by_cases h2 : kind = 2
      · subst h2
        by_cases e1 : cols.length = 0 <;> by_cases e3 : col.toList = ([] : List UInt8) <;> by_cases e4 : exp.length = 0 <;> simp [e1, e3, e4]
      · by_cases h3 : kind = 3
        · subst h3
          by_cases e1 : cols.length = 0 <;> by_cases e2 : vals.length = 0 <;> simp [e1, e2]
        · by_cases h5 : kind = 5
          · subst h5
            by_cases e1 : cols.length = 0 <;> by_cases e2 : vals.length = 0 <;> by_cases e3 : col.toList = ([] : List UInt8) <;> by_cases e4 : exp.length = 0 <;> simp [e1, e2, e3, e4]
          · by_cases e1 : cols.length = 0 <;> by_cases e2 : vals.length = 0 <;> by_cases e3 : col.toList = ([] : List UInt8) <;> by_cases e4 : exp.length = 0 <;> simp [h1, h2, h3, h5, e1, e2, e3, e4]
theorem spec_type (t : Int) : spec_l4Type.f t = some (decide (t = 1) || decide (t = 2)) := by
  unfold spec_l4Type.f
  by_cases h : t = 1
  · simp [h]
  · rw [if_neg h, decide_eq_false h, Bool.false_or]
    by_cases h2 : t = 2
    · simp [h2]
    · rw [decide_eq_false h2, show (t == 2) = false from beq_eq_false_iff_ne.2 h2]
theorem bind_two {β : Type} (x : Option Bool) (b : Bool) (y : Option β) (z : Option β) :
    (x.bind fun t => if t = true then ((some b : Option Bool).bind fun u => if u = true then y else z) else z) = ((x.bind fun t => some (t && b)).bind fun v => if v = true then y else z) := by
  cases x with
  | none => rfl
  | some t => cases t <;> cases b <;> rfl
section
variable (table : ByteArray) (cols : List Col) (vals : List Val) (col : ByteArray) (exp wh : List Itm) (outs : List (List Itm))
theorem j0_true (kind : Int) : Ev (fun k => spec_StmOK.j0 k kind true kind table cols vals col exp wh outs) false :=
  Ev.step (f := fun _ => some false) (fun k => by rw [spec_StmOK.j0, if_pos rfl]) (Ev.now _)
theorem j1_true (kind : Int) : Ev (fun k => spec_StmOK.j1 k kind true kind table cols vals col exp wh outs) false :=
  Ev.step (f := fun _ => some false) (fun k => by rw [spec_StmOK.j1, if_pos rfl]) (Ev.now _)
theorem j0_low (kind : Int) (h : kind < 3) {r : Bool} (hr : Ev (fun k => spec_StmOK.j1 k kind (decide (¬ wh.length = 0)) kind table cols vals col exp wh outs) r) : Ev (fun k => spec_StmOK.j0 k kind false kind table cols vals col exp wh outs) r :=
  Ev.step (fun k => by rw [spec_StmOK.j0, if_neg ff, if_pos h, ne0]) hr
theorem j0_high (kind : Int) (h : ¬ kind < 3) {r : Bool} (hr : Ev (fun k => spec_StmOK.j1 k kind false kind table cols vals col exp wh outs) r) : Ev (fun k => spec_StmOK.j0 k kind false kind table cols vals col exp wh outs) r :=
  Ev.step (fun k => by rw [spec_StmOK.j0, if_neg ff, if_neg h]) hr
theorem spec_cols (hl : cols.length ≤ 1000000000) : Ev (fun k => spec_StmOK.l0 k cols (cols.length : Int) ((0 : Nat) : Int) 1 table cols vals col exp wh outs) (decide (1 ≤ cols.length ∧ cols.length ≤ 20) && cols.all colOk) := by
  by_cases h20 : cols.length ≤ 20
  · have := Gen.every (α := Col) colOk (decide (1 ≤ cols.length)) (fun k i => spec_StmOK.l0 k cols (cols.length : Int) i 1 table cols vals col exp wh outs)
      (fun k c => (spec_l4Name.f k c.f0).bind fun t => some (t && (decide (c.f1 = 1) || decide (c.f1 = 2)))) cols (fun k i h => by
        rw [spec_StmOK.l0, if_pos (by omega), if_pos (by omega), if_pos (by omega), if_neg (by omega), rdCol cols i h, wsucc i (by omega)]
        simp only [spec_type]
        exact bind_two _ _ _ _)
      (Ev.step (f := fun _ => some (decide (1 ≤ cols.length))) (fun k => by
        rw [spec_StmOK.l0, if_neg (by omega)]
        congr 1
        by_cases h : 1 ≤ cols.length
        · rw [decide_eq_true h, decide_eq_true (by omega)]
        · rw [decide_eq_false h, decide_eq_false (by omega)]) (Ev.now _))
      (fun c _ => (spec_nm c.f0).bind (Ev.now _)) cols.length 0 (by omega)
    have e : (decide (1 ≤ cols.length ∧ cols.length ≤ 20) && cols.all colOk) = ((cols.drop 0).all colOk && decide (1 ≤ cols.length)) := by
      rw [List.drop_zero, Bool.and_comm]
      by_cases h : 1 ≤ cols.length
      · rw [decide_eq_true h, decide_eq_true (And.intro h h20)]
      · rw [decide_eq_false h, decide_eq_false (fun x => h x.1)]
    rw [e]
    exact this
  · refine Ev.step (f := fun _ => some false) (fun k => ?_) ?_
    · rw [spec_StmOK.l0, if_pos (by omega), if_pos (by omega), if_pos (by omega), if_pos (by omega)]
    · rw [decide_eq_false (fun x => h20 x.2), Bool.false_and]; exact Ev.now _
theorem spec_vals (hl : vals.length ≤ 1000000000) : Ev (fun k => spec_StmOK.l1 k vals (vals.length : Int) ((0 : Nat) : Int) 2 table cols vals col exp wh outs) (decide (1 ≤ vals.length ∧ vals.length ≤ 20) && vals.all fun v => valOk v.f0 v.f1 v.f2) := by
  by_cases h20 : vals.length ≤ 20
  · have := Gen.every (α := Val) (fun v => valOk v.f0 v.f1 v.f2) (decide (1 ≤ vals.length)) (fun k i => spec_StmOK.l1 k vals (vals.length : Int) i 2 table cols vals col exp wh outs)
      (fun k v => spec_l4Value.f k v.f0 v.f1 v.f2) vals (fun k i h => by
        rw [spec_StmOK.l1, if_pos (by omega), if_pos (by omega), if_pos (by omega), if_neg (by omega), rdVal vals i h, wsucc i (by omega)])
      (Ev.step (f := fun _ => some (decide (1 ≤ vals.length))) (fun k => by
        rw [spec_StmOK.l1, if_neg (by omega)]
        congr 1
        by_cases h : 1 ≤ vals.length
        · rw [decide_eq_true h, decide_eq_true (by omega)]
        · rw [decide_eq_false h, decide_eq_false (by omega)]) (Ev.now _))
      (fun v _ => spec_val _ _ _) vals.length 0 (by omega)
    have e : (decide (1 ≤ vals.length ∧ vals.length ≤ 20) && vals.all fun v => valOk v.f0 v.f1 v.f2) = ((vals.drop 0).all (fun v => valOk v.f0 v.f1 v.f2) && decide (1 ≤ vals.length)) := by
      rw [List.drop_zero, Bool.and_comm]
      by_cases h : 1 ≤ vals.length
      · rw [decide_eq_true h, decide_eq_true (And.intro h h20)]
      · rw [decide_eq_false h, decide_eq_false (fun x => h x.1)]
    rw [e]
    exact this
  · refine Ev.step (f := fun _ => some false) (fun k => ?_) ?_
    · rw [spec_StmOK.l1, if_pos (by omega), if_pos (by omega), if_pos (by omega), if_pos (by omega)]
    · rw [decide_eq_false (fun x => h20 x.2), Bool.false_and]; exact Ev.now _
theorem spec_outs (hl : outs.length ≤ 1000000000) : Ev (fun k => spec_StmOK.l2 k outs (outs.length : Int) ((0 : Nat) : Int) 5 table cols vals col exp wh outs) (decide (1 ≤ outs.length ∧ outs.length ≤ 20) && (outs.all expOk && whOk wh)) := by
  by_cases h20 : outs.length ≤ 20
  · have := Gen.every (α := List Itm) expOk (decide (1 ≤ outs.length) && whOk wh) (fun k i => spec_StmOK.l2 k outs (outs.length : Int) i 5 table cols vals col exp wh outs)
      (fun k v => spec_l4Exp.f k v) outs (fun k i h => by
        rw [spec_StmOK.l2, if_pos (by omega), if_pos (by omega), if_pos (by omega), if_neg (by omega), rdII outs i h, wsucc i (by omega)])
      (by
        by_cases h : 1 ≤ outs.length
        · refine Ev.step (f := fun k => (spec_l4Where.f k wh).bind fun t => some t) (fun k => by rw [spec_StmOK.l2, if_neg (by omega), if_pos (by omega)]) ?_
          rw [decide_eq_true h, Bool.true_and]
          exact (spec_wh wh).bind (Ev.now _)
        · refine Ev.step (f := fun _ => some false) (fun k => by rw [spec_StmOK.l2, if_neg (by omega), if_neg (by omega)]) ?_
          rw [decide_eq_false h, Bool.false_and]
          exact Ev.now _)
      (fun v _ => spec_exp _) outs.length 0 (by omega)
    have e : (decide (1 ≤ outs.length ∧ outs.length ≤ 20) && (outs.all expOk && whOk wh)) = ((outs.drop 0).all expOk && (decide (1 ≤ outs.length) && whOk wh)) := by
      rw [List.drop_zero]
      by_cases h : 1 ≤ outs.length
      · rw [decide_eq_true h, decide_eq_true (And.intro h h20)]; simp
      · rw [decide_eq_false h, decide_eq_false (fun x => h x.1)]; simp
    rw [e]
    exact this
  · refine Ev.step (f := fun _ => some false) (fun k => ?_) ?_
    · rw [spec_StmOK.l2, if_pos (by omega), if_pos (by omega), if_pos (by omega), if_pos (by omega)]
    · rw [decide_eq_false (fun x => h20 x.2), Bool.false_and]; exact Ev.now _
theorem spec_stm (kind : Int) (h2 : cols.length ≤ 1000000000) (h3 : vals.length ≤ 1000000000) (h7 : outs.length ≤ 1000000000) :
    Ev (fun k => spec_StmOK.f k kind table cols vals col exp wh outs) (stmOk kind table cols vals col exp wh outs) := by
  refine Ev.congr (fun k => spec_f_eq k kind table cols vals col exp wh outs) ?_
  refine (spec_nm table).bind ?_
  unfold stmOk
  cases hn : nameKw table with
  | false => simp only [if_neg ff, Bool.false_and]; exact Ev.now _
  | true =>
    simp only [if_true, Bool.true_and]
    by_cases k1 : kind = 1
    · subst k1
      by_cases e2 : vals.length = 0 <;> by_cases e3 : col.toList = ([] : List UInt8) <;> by_cases e4 : exp.length = 0 <;> by_cases e5 : outs.length = 0
      all_goals
        simp only [bad, decide_not, decide_true, decide_false, Bool.not_true, Bool.not_false, Bool.false_and, Bool.true_and, Bool.or_false, Bool.false_or, Bool.true_or, Bool.or_true, Bool.and_true, Bool.and_false, if_true, ite_false, if_neg ff, show ¬ (1 : Int) = 2 by decide, show ¬ (1 : Int) = 3 by decide, show ¬ (1 : Int) = 4 by decide, show ¬ (1 : Int) = 5 by decide, e2, e3, e4, e5]
        first
        | exact j0_true table cols vals col exp wh outs 1
        | (refine j0_low table cols vals col exp wh outs 1 (by decide) ?_
           by_cases e6 : wh.length = 0
           · simp only [e6, decide_true, decide_not, Bool.not_true, Bool.true_and]
             refine Ev.step (fun k => by rw [spec_StmOK.j1, if_neg ff, if_pos rfl]) ?_
             exact spec_cols table cols vals col exp wh outs h2
           · simp only [e6, decide_false, decide_not, Bool.not_false, Bool.false_and]
             exact j1_true table cols vals col exp wh outs 1)
    by_cases k2 : kind = 2
    · subst k2
      by_cases e1 : cols.length = 0 <;> by_cases e3 : col.toList = ([] : List UInt8) <;> by_cases e4 : exp.length = 0 <;> by_cases e5 : outs.length = 0
      all_goals
        simp only [bad, decide_not, decide_true, decide_false, Bool.not_true, Bool.not_false, Bool.false_and, Bool.true_and, Bool.or_false, Bool.false_or, Bool.true_or, Bool.or_true, Bool.and_true, Bool.and_false, if_true, ite_false, if_neg ff, show ¬ (2 : Int) = 1 by decide, show ¬ (2 : Int) = 3 by decide, show ¬ (2 : Int) = 4 by decide, show ¬ (2 : Int) = 5 by decide, e1, e3, e4, e5]
        first
        | exact j0_true table cols vals col exp wh outs 2
        | (refine j0_low table cols vals col exp wh outs 2 (by decide) ?_
           by_cases e6 : wh.length = 0
           · simp only [e6, decide_true, decide_not, Bool.not_true, Bool.true_and]
             refine Ev.step (fun k => by rw [spec_StmOK.j1, if_neg ff, if_neg (by decide), if_pos rfl]) ?_
             exact spec_vals table cols vals col exp wh outs h3
           · simp only [e6, decide_false, decide_not, Bool.not_false, Bool.false_and]
             exact j1_true table cols vals col exp wh outs 2)
    by_cases k3 : kind = 3
    · subst k3
      by_cases e1 : cols.length = 0 <;> by_cases e2 : vals.length = 0 <;> by_cases e5 : outs.length = 0
      all_goals
        simp only [bad, decide_not, decide_true, decide_false, Bool.not_true, Bool.not_false, Bool.false_and, Bool.true_and, Bool.or_false, Bool.false_or, Bool.true_or, Bool.or_true, Bool.and_true, Bool.and_false, if_true, ite_false, if_neg ff, show ¬ (3 : Int) = 1 by decide, show ¬ (3 : Int) = 2 by decide, show ¬ (3 : Int) = 4 by decide, show ¬ (3 : Int) = 5 by decide, e1, e2, e5]
        first
        | exact j0_true table cols vals col exp wh outs 3
        | (refine j0_high table cols vals col exp wh outs 3 (by decide) ?_
           refine Ev.step (fun k => by rw [spec_StmOK.j1, if_neg ff, if_neg (by decide), if_neg (by decide), if_pos rfl]) ?_
           refine (spec_nm col).bind ?_
           cases nameKw col with
           | false => simp only [if_neg ff, Bool.false_and]; exact Ev.now _
           | true =>
             simp only [if_true, Bool.true_and]
             refine (spec_exp exp).bind ?_
             cases expOk exp with
             | false => simp only [if_neg ff, Bool.false_and]; exact Ev.now _
             | true => simp only [if_true, Bool.true_and]; exact (spec_wh wh).bind (Ev.now _))
    by_cases k4 : kind = 4
    · subst k4
      by_cases e1 : cols.length = 0 <;> by_cases e2 : vals.length = 0 <;> by_cases e3 : col.toList = ([] : List UInt8) <;> by_cases e4 : exp.length = 0 <;> by_cases e5 : outs.length = 0
      all_goals
        simp only [bad, decide_not, decide_true, decide_false, Bool.not_true, Bool.not_false, Bool.false_and, Bool.true_and, Bool.or_false, Bool.false_or, Bool.true_or, Bool.or_true, Bool.and_true, Bool.and_false, if_true, ite_false, if_neg ff, show ¬ (4 : Int) = 1 by decide, show ¬ (4 : Int) = 2 by decide, show ¬ (4 : Int) = 3 by decide, show ¬ (4 : Int) = 5 by decide, e1, e2, e3, e4, e5]
        first
        | exact j0_true table cols vals col exp wh outs 4
        | (refine j0_high table cols vals col exp wh outs 4 (by decide) ?_
           refine Ev.step (fun k => by rw [spec_StmOK.j1, if_neg ff, if_neg (by decide), if_neg (by decide), if_neg (by decide), if_pos rfl]) ?_
           exact (spec_wh wh).bind (Ev.now _))
    by_cases k5 : kind = 5
    · subst k5
      by_cases e1 : cols.length = 0 <;> by_cases e2 : vals.length = 0 <;> by_cases e3 : col.toList = ([] : List UInt8) <;> by_cases e4 : exp.length = 0
      all_goals
        simp only [bad, decide_not, decide_true, decide_false, Bool.not_true, Bool.not_false, Bool.false_and, Bool.true_and, Bool.or_false, Bool.false_or, Bool.true_or, Bool.or_true, Bool.and_true, Bool.and_false, if_true, ite_false, if_neg ff, show ¬ (5 : Int) = 1 by decide, show ¬ (5 : Int) = 2 by decide, show ¬ (5 : Int) = 3 by decide, show ¬ (5 : Int) = 4 by decide, e1, e2, e3, e4]
        first
        | exact j0_true table cols vals col exp wh outs 5
        | (refine j0_high table cols vals col exp wh outs 5 (by decide) ?_
           refine Ev.step (fun k => by rw [spec_StmOK.j1, if_neg ff, if_neg (by decide), if_neg (by decide), if_neg (by decide), if_neg (by decide), if_pos rfl]) ?_
           exact spec_outs table cols vals col exp wh outs h7)
    simp only [if_neg k1, if_neg k2, if_neg k3, if_neg k4, if_neg k5]
    cases hb : bad kind cols vals col exp outs with
    | true => exact j0_true table cols vals col exp wh outs kind
    | false =>
      by_cases hlt : kind < 3
      · refine j0_low table cols vals col exp wh outs kind hlt ?_
        by_cases e6 : wh.length = 0
        · simp only [e6, decide_true, decide_not, Bool.not_true]
          exact Ev.step (f := fun _ => some false) (fun k => by rw [spec_StmOK.j1, if_neg ff, if_neg k1, if_neg k2, if_neg k3, if_neg k4, if_neg k5]) (Ev.now _)
        · simp only [e6, decide_false, decide_not, Bool.not_false]
          exact j1_true table cols vals col exp wh outs kind
      · refine j0_high table cols vals col exp wh outs kind hlt ?_
        exact Ev.step (f := fun _ => some false) (fun k => by rw [spec_StmOK.j1, if_neg ff, if_neg k1, if_neg k2, if_neg k3, if_neg k4, if_neg k5]) (Ev.now _)
end
end Go.Proofs.Ytoebfjfhdodakaa.Pure
end
section
set_option linter.unusedVariables false
set_option linter.unusedSimpArgs false
namespace Go.Proofs.Ytoebfjfhdodakaa.Pure
open Go Go.RowKit Go.Proofs.Ytoebfjfhdodakaa Go.Proofs.Ytoebfjfhdodakaa.L Go.Proofs.YtoebfjfhdodakaaW.PrintWords Go.Proofs.YtoebfjfhdodakaaW.PrintMore Go.Proofs.YtoebfjfhdodakaaW.PrintLast
theorem Ev.pos {α : Type} {c : Prop} [Decidable c] {f g : Nat → Option α} {r : α} (h : c) (hf : Ev f r) : Ev (fun k => if c then f k else g k) r := by
  simpa only [if_pos h] using hf
theorem Ev.neg {α : Type} {c : Prop} [Decidable c] {f g : Nat → Option α} {r : α} (h : ¬ c) (hf : Ev g r) : Ev (fun k => if c then f k else g k) r := by
  simpa only [if_neg h] using hf
def encN (n : Nat) (v : Int) : ByteArray := strOfNums (numB n v)
theorem encN_size (n : Nat) (v : Int) : (encN n v).size = n := by
  unfold encN
  rw [strOfNums_size, numB_length]
def enc8 (s : ByteArray) : ByteArray := encN 1 (s.size : Int) ++ s
def enc16 (s : ByteArray) : ByteArray := encN 2 (s.size : Int) ++ s
theorem enc8_size (s : ByteArray) : (enc8 s).size = 1 + s.size := by unfold enc8; rw [ByteArray.size_append, encN_size]
theorem enc16_size (s : ByteArray) : (enc16 s).size = 2 + s.size := by unfold enc16; rw [ByteArray.size_append, encN_size]
def stepI (s : ByteArray) (y : Itm) : ByteArray := if y.f0 = 1 then (s ++ encN 1 y.f0) ++ encN 8 y.f1 else if y.f0 = 2 then (s ++ encN 1 y.f0) ++ enc16 y.f2 else if y.f0 = 3 then (s ++ encN 1 y.f0) ++ enc8 y.f2 else s ++ encN 1 y.f0
def stepC (s : ByteArray) (y : Col) : ByteArray := s ++ (enc8 y.f0 ++ encN 1 y.f1)
def stepV (s : ByteArray) (y : Val) : ByteArray := if y.f0 = 1 then (s ++ encN 1 y.f0) ++ encN 8 y.f1 else (s ++ encN 1 y.f0) ++ enc16 y.f2
theorem stepI_size (s : ByteArray) (y : Itm) (hy : y.f2.size ≤ 1000) : (stepI s y).size ≤ s.size + 1100 := by
  unfold stepI
  by_cases c1 : y.f0 = 1
  · simp only [if_pos c1, ByteArray.size_append, encN_size]; omega
  · by_cases c2 : y.f0 = 2
    · simp only [if_neg c1, if_pos c2, ByteArray.size_append, encN_size, enc16_size]; omega
    · by_cases c3 : y.f0 = 3
      · simp only [if_neg c1, if_neg c2, if_pos c3, ByteArray.size_append, encN_size, enc8_size]; omega
      · simp only [if_neg c1, if_neg c2, if_neg c3, ByteArray.size_append, encN_size]; omega
theorem stepI_size2 (s : ByteArray) (y : Itm) (hy : y.f2.size ≤ 200) : (stepI s y).size ≤ s.size + 250 := by
  unfold stepI
  by_cases c1 : y.f0 = 1
  · simp only [if_pos c1, ByteArray.size_append, encN_size]; omega
  · by_cases c2 : y.f0 = 2
    · simp only [if_neg c1, if_pos c2, ByteArray.size_append, encN_size, enc16_size]; omega
    · by_cases c3 : y.f0 = 3
      · simp only [if_neg c1, if_neg c2, if_pos c3, ByteArray.size_append, encN_size, enc8_size]; omega
      · simp only [if_neg c1, if_neg c2, if_neg c3, ByteArray.size_append, encN_size]; omega
theorem stepV_size (s : ByteArray) (y : Val) (hy : y.f2.size ≤ 1000) : (stepV s y).size ≤ s.size + 1100 := by
  unfold stepV
  by_cases c1 : y.f0 = 1
  · simp only [if_pos c1, ByteArray.size_append, encN_size]; omega
  · simp only [if_neg c1, ByteArray.size_append, encN_size, enc16_size]; omega
def expEnc (l : List Itm) : ByteArray := l.foldl stepI (encN 2 (l.length : Int))
theorem foldI_size (l : List Itm) (hs : ∀ y ∈ l, y.f2.size ≤ 200) : ∀ s : ByteArray, (l.foldl stepI s).size ≤ s.size + l.length * 250 := by
  induction l with
  | nil => intro s; simp
  | cons y l ih =>
    intro s
    have h1 := ih (fun z hz => hs z (List.mem_cons_of_mem _ hz)) (stepI s y)
    have h2 := stepI_size2 s y (hs y List.mem_cons_self)
    rw [List.foldl_cons, List.length_cons, Nat.add_mul]
    omega
theorem expEnc_size (l : List Itm) (hl : l.length ≤ 100) (hs : ∀ y ∈ l, y.f2.size ≤ 200) : (expEnc l).size ≤ 30000 := by
  have := foldI_size l hs (encN 2 (l.length : Int))
  rw [encN_size] at this
  unfold expEnc
  omega
/-- A statement's bytes; none where there are too many. -/
def capB (s : ByteArray) : ByteArray := if (s.size : Int) > 60000 then (⟨#[]⟩ : ByteArray) else s
def encStm (kind : Int) (table : ByteArray) (cols : List Col) (vals : List Val) (col : ByteArray) (exp wh : List Itm) (outs : List (List Itm)) : ByteArray :=
  if stmOk kind table cols vals col exp wh outs = true then
    (if kind = 1 then capB (cols.foldl stepC ((encN 1 kind ++ enc8 table) ++ encN 1 (cols.length : Int)))
     else if kind = 2 then capB (vals.foldl stepV ((encN 1 kind ++ enc8 table) ++ encN 1 (vals.length : Int)))
     else if kind = 3 then capB ((encN 1 kind ++ enc8 table) ++ ((enc8 col ++ expEnc exp) ++ expEnc wh))
     else if kind = 4 then capB ((encN 1 kind ++ enc8 table) ++ expEnc wh)
     else if kind = 5 then capB (outs.foldl (fun s e => s ++ expEnc e) ((encN 1 kind ++ enc8 table) ++ encN 1 (outs.length : Int)) ++ expEnc wh)
     else capB (encN 1 kind ++ enc8 table))
  else (⟨#[]⟩ : ByteArray)
theorem bind_if {α β : Type} (p : Prop) [Decidable p] (a : Option α) (g : α → Option β) : (if p then a else none).bind g = if p then a.bind g else none := by split <;> rfl
theorem bind_ite {α β : Type} (p : Prop) [Decidable p] (a b : Option α) (g : α → Option β) : (if p then a else b).bind g = if p then a.bind g else b.bind g := by split <;> rfl
/-- A loop that adds to the bytes. -/
theorem foldE {α : Type} (L : Nat → ByteArray → Nat → Option ByteArray) (st : Nat → ByteArray → α → Option ByteArray) (sp : ByteArray → α → ByteArray) (fin : ByteArray → ByteArray) (l : List α) (c B : Nat)
    (hL : ∀ k s i (h : i < l.length), L (k + 1) s i = (st k s l[i]).bind fun s' => L k s' (i + 1))
    (hfin : ∀ s, s.size ≤ B → Ev (fun k => L k s l.length) (fin s))
    (hst : ∀ s y, y ∈ l → s.size + c ≤ B → Ev (fun k => st k s y) (sp s y))
    (hsz : ∀ s y, y ∈ l → (sp s y).size ≤ s.size + c) (d : Nat) :
    ∀ i s, i + d = l.length → s.size + d * c ≤ B → Ev (fun k => L k s i) (fin ((l.drop i).foldl sp s)) := by
  induction d with
  | zero =>
    intro i s hi hz
    rw [List.drop_eq_nil_of_le (by omega)]
    obtain rfl : i = l.length := by omega
    exact hfin s (by omega)
  | succ d ih =>
    intro i s hi hz
    have hil : i < l.length := by omega
    have hm : l[i] ∈ l := List.getElem_mem hil
    rw [Nat.add_mul] at hz
    refine Ev.step (fun k => hL k s i hil) ?_
    refine (hst s l[i] hm (by omega)).bind ?_
    rw [List.drop_eq_getElem_cons hil, List.foldl_cons]
    exact ih (i + 1) _ (by omega) (by have := hsz s l[i] hm; omega)
theorem empty_size {s : ByteArray} (h : s.toList = ([] : List UInt8)) : s.size = 0 := by
  have e : s.toList.length = s.size := by rw [ByteArray.toList_eq]; rfl
  rw [h] at e
  exact e.symm
theorem name_small {s : ByteArray} (h : nameKw s = true) : s.size ≤ 30 := by
  unfold nameKw at h
  simp only [Bool.and_eq_true, decide_eq_true_eq] at h
  exact h.2.1
theorem itm_small {op n : Int} {x : ByteArray} (h : itmOk op n x = true) : x.size ≤ 200 := by
  have he : ∀ y : ByteArray, (y.toList == ([] : List UInt8)) = true → y.size ≤ 200 := fun y hy => by rw [empty_size (beq_iff_eq.mp hy)]; omega
  unfold itmOk at h
  by_cases c1 : op = 1
  · rw [if_pos c1, Bool.and_eq_true] at h; exact he x h.2
  · rw [if_neg c1] at h
    by_cases c2 : op = 2
    · rw [if_pos c2, Bool.and_eq_true] at h
      have := h.2
      unfold textOk at this
      rw [Bool.and_eq_true, decide_eq_true_eq] at this
      exact this.1
    · rw [if_neg c2] at h
      by_cases c3 : op = 3
      · rw [if_pos c3, Bool.and_eq_true] at h
        have := name_small h.2
        omega
      · rw [if_neg c3, Bool.and_eq_true, Bool.and_eq_true] at h; exact he x h.2.2
theorem exp_small {l : List Itm} (h : expOk l = true) : l.length ≤ 100 ∧ ∀ z ∈ l, z.f2.size ≤ 200 := by
  unfold expOk at h
  rw [Bool.and_eq_true, decide_eq_true_eq] at h
  refine ⟨h.1.2, ?_⟩
  have key : ∀ (l : List Itm) (d : Int), expRun l d = true → ∀ z ∈ l, z.f2.size ≤ 200 := by
    intro l
    induction l with
    | nil => intro d _ z hz; cases hz
    | cons t r ih =>
      intro d hd z hz
      rw [expRun, Bool.and_eq_true] at hd
      rcases List.mem_cons.1 hz with rfl | hz
      · exact itm_small hd.1
      · by_cases c : d < arity t.f0
        · rw [if_pos c] at hd; cases hd.2
        · rw [if_neg c] at hd; exact ih _ hd.2 z hz
  exact key l 0 h.2
theorem wh_small {l : List Itm} (h : whOk l = true) : l.length ≤ 100 ∧ ∀ z ∈ l, z.f2.size ≤ 200 := by
  unfold whOk at h
  rw [Bool.or_eq_true, decide_eq_true_eq] at h
  rcases h with h | h
  · have : l = [] := List.eq_nil_of_length_eq_zero h
    subst this
    exact ⟨by simp, fun z hz => by cases hz⟩
  · exact exp_small h
theorem stmOk_small {kind : Int} {table : ByteArray} {cols : List Col} {vals : List Val} {col : ByteArray} {exp wh : List Itm} {outs : List (List Itm)} (h : stmOk kind table cols vals col exp wh outs = true) :
    table.size ≤ 30 ∧ (kind = 1 → cols.length ≤ 20 ∧ ∀ y ∈ cols, y.f0.size ≤ 200) ∧ (kind = 2 → vals.length ≤ 20 ∧ ∀ y ∈ vals, y.f2.size ≤ 200) ∧ (kind = 3 → col.size ≤ 30 ∧ (exp.length ≤ 100 ∧ ∀ z ∈ exp, z.f2.size ≤ 200) ∧ (wh.length ≤ 100 ∧ ∀ z ∈ wh, z.f2.size ≤ 200)) ∧
      (kind = 4 → wh.length ≤ 100 ∧ ∀ z ∈ wh, z.f2.size ≤ 200) ∧ (kind = 5 → outs.length ≤ 20 ∧ (∀ y ∈ outs, y.length ≤ 100 ∧ ∀ z ∈ y, z.f2.size ≤ 200) ∧ (wh.length ≤ 100 ∧ ∀ z ∈ wh, z.f2.size ≤ 200)) := by
  unfold stmOk at h
  rw [Bool.and_eq_true] at h
  obtain ⟨hn, h⟩ := h
  refine ⟨name_small hn, fun k => ?_, fun k => ?_, fun k => ?_, fun k => ?_, fun k => ?_⟩
  · subst k
    simp only [if_true, Bool.and_eq_true, decide_eq_true_eq, List.all_eq_true] at h
    refine ⟨h.2.2.2.2.2.1.2, fun y hy => ?_⟩
    have := h.2.2.2.2.2.2 y hy
    unfold colOk at this
    rw [Bool.and_eq_true] at this
    have := name_small this.1
    omega
  · subst k
    simp only [show ¬ (2 : Int) = 1 by decide, if_false, if_true, Bool.and_eq_true, decide_eq_true_eq, List.all_eq_true] at h
    refine ⟨h.2.2.2.2.2.1.2, fun y hy => ?_⟩
    have := h.2.2.2.2.2.2 y hy
    unfold valOk at this
    by_cases c1 : y.f0 = 1
    · rw [if_pos c1, Bool.and_eq_true] at this
      rw [empty_size (beq_iff_eq.mp this.2)]; omega
    · rw [if_neg c1] at this
      by_cases c2 : y.f0 = 2
      · rw [if_pos c2, Bool.and_eq_true] at this
        have := this.2
        unfold textOk at this
        rw [Bool.and_eq_true, decide_eq_true_eq] at this
        exact this.1
      · rw [if_neg c2] at this; cases this
  · subst k
    simp only [show ¬ (3 : Int) = 1 by decide, show ¬ (3 : Int) = 2 by decide, if_false, if_true, Bool.and_eq_true, decide_eq_true_eq] at h
    exact ⟨name_small h.2.2.2.1, exp_small h.2.2.2.2.1, wh_small h.2.2.2.2.2⟩
  · subst k
    simp only [show ¬ (4 : Int) = 1 by decide, show ¬ (4 : Int) = 2 by decide, show ¬ (4 : Int) = 3 by decide, if_false, if_true, Bool.and_eq_true, decide_eq_true_eq] at h
    exact wh_small h.2.2.2.2.2
  · subst k
    simp only [show ¬ (5 : Int) = 1 by decide, show ¬ (5 : Int) = 2 by decide, show ¬ (5 : Int) = 3 by decide, show ¬ (5 : Int) = 4 by decide, if_false, if_true, Bool.and_eq_true, decide_eq_true_eq, List.all_eq_true] at h
    exact ⟨h.2.2.2.2.1.2, fun y hy => exp_small (h.2.2.2.2.2.1 y hy), wh_small h.2.2.2.2.2.2⟩
theorem spec_n1 (v : Int) : Ev (fun k => spec_l1Num.f k 1 v) (encN 1 v) := spec_num 1 v (by decide)
theorem spec_n2 (v : Int) : Ev (fun k => spec_l1Num.f k 2 v) (encN 2 v) := spec_num 2 v (by decide)
theorem spec_n8 (v : Int) : Ev (fun k => spec_l1Num.f k 8 v) (encN 8 v) := spec_num 8 v (by decide)
theorem spec_s8 (s : ByteArray) (hs : s.size ≤ 1000000) : Ev (fun k => spec_l1S8.f k s) (enc8 s) := by
  unfold spec_l1S8.f
  refine (spec_n1 _).bind ?_
  refine Ev.pos (by rw [encN_size]; omega) ?_
  exact Ev.now _
theorem spec_s16 (s : ByteArray) (hs : s.size ≤ 1000000) : Ev (fun k => spec_l1S16.f k s) (enc16 s) := by
  unfold spec_l1S16.f
  refine (spec_n2 _).bind ?_
  refine Ev.pos (by rw [encN_size]; omega) ?_
  exact Ev.now _
theorem spec_expGo (l : List Itm) (hs : ∀ y ∈ l, y.f2.size ≤ 1000) : ∀ s : ByteArray, s.size + l.length * 1100 ≤ 1000000 → Ev (fun k => expGo (spec_l1Num.f k) (spec_l1S16.f k) (spec_l1S8.f k) l s) (l.foldl stepI s) := by
  induction l with
  | nil => intro s _; exact Ev.now _
  | cons y l ih =>
    intro s hz
    have hy := hs y List.mem_cons_self
    have ih2 := ih (fun z hz => hs z (List.mem_cons_of_mem _ hz))
    simp only [List.length_cons, Nat.add_mul] at hz
    rw [List.foldl_cons]
    have hst := stepI_size s y hy
    refine Ev.congr (fun k => by rw [expGo]) ?_
    refine (spec_n1 y.f0).bind ?_
    unfold expAdd
    refine Ev.pos (by rw [encN_size]; omega) ?_
    by_cases c1 : y.f0 = 1
    · have e : stepI s y = (s ++ encN 1 y.f0) ++ encN 8 y.f1 := by unfold stepI; rw [if_pos c1]
      rw [e] at hst ⊢
      simp only [if_pos c1]
      refine (spec_n8 y.f1).bind ?_
      refine Ev.pos (by rw [ByteArray.size_append, encN_size, encN_size]; omega) ?_
      exact ih2 _ (by omega)
    · by_cases c2 : y.f0 = 2
      · have e : stepI s y = (s ++ encN 1 y.f0) ++ enc16 y.f2 := by unfold stepI; rw [if_neg c1, if_pos c2]
        rw [e] at hst ⊢
        simp only [if_neg c1, if_pos c2]
        refine (spec_s16 y.f2 (by omega)).bind ?_
        refine Ev.pos (by rw [ByteArray.size_append, encN_size, enc16_size]; omega) ?_
        exact ih2 _ (by omega)
      · by_cases c3 : y.f0 = 3
        · have e : stepI s y = (s ++ encN 1 y.f0) ++ enc8 y.f2 := by unfold stepI; rw [if_neg c1, if_neg c2, if_pos c3]
          rw [e] at hst ⊢
          simp only [if_neg c1, if_neg c2, if_pos c3]
          refine (spec_s8 y.f2 (by omega)).bind ?_
          refine Ev.pos (by rw [ByteArray.size_append, encN_size, enc8_size]; omega) ?_
          exact ih2 _ (by omega)
        · have e : stepI s y = s ++ encN 1 y.f0 := by unfold stepI; rw [if_neg c1, if_neg c2, if_neg c3]
          rw [e] at hst ⊢
          simp only [if_neg c1, if_neg c2, if_neg c3]
          exact ih2 _ (by omega)
theorem spec_eb (l : List Itm) (hl : l.length ≤ 200) (hs : ∀ y ∈ l, y.f2.size ≤ 1000) : Ev (fun k => spec_l4ExpBytes.f k l) (expEnc l) := by
  unfold spec_l4ExpBytes.f expEnc
  refine (spec_n2 _).bind ?_
  refine Ev.pos ⟨by rw [encN_size]; omega, by omega⟩ ?_
  exact spec_expGo l hs _ (by rw [encN_size]; omega)
theorem spec_fin (F : Nat → Option ByteArray) (s : ByteArray) (h : ∀ k, F (k + 1) = if (s.size : Int) > 60000 then some (⟨#[]⟩ : ByteArray) else some s) : Ev F (capB s) := by
  refine Ev.step (f := fun _ => some (capB s)) (fun k => ?_) (Ev.now _)
  rw [h k]
  unfold capB
  split <;> rfl
theorem spec_ecols (l : List Col) (hl : l.length ≤ 20) (hs : ∀ y ∈ l, y.f0.size ≤ 1000) (s : ByteArray) (hz : s.size ≤ 100000) : Ev (fun k => spec_EncodeStm.l0 k s l (l.length : Int) 0) (capB (l.foldl stepC s)) := by
  have := foldE (fun k s i => spec_EncodeStm.l0 k s l (l.length : Int) (i : Int)) (fun k s y => (spec_l1S8.f k y.f0).bind fun t => (spec_l1Num.f k 1 y.f1).bind fun u => if t.size + u.size ≤ 9223372036854775807 then (if s.size + (t ++ u).size ≤ 9223372036854775807 then some (s ++ (t ++ u)) else none) else none) stepC capB l 1100 1000000
    (fun k s i h => by
      rw [spec_EncodeStm.l0, if_pos (by omega), if_pos (by omega), if_pos (by omega), rdCol l i h, wsucc i (by omega)]
      simp only [Option.bind_assoc, bind_if, Option.bind_some, Option.bind_none, bind_ite])
    (fun s hs => spec_fin _ s fun k => by rw [spec_EncodeStm.l0, if_neg (by omega)])
    (fun s y hy hz => by
      refine (spec_s8 y.f0 (by have := hs y hy; omega)).bind ?_
      refine (spec_n1 y.f1).bind ?_
      refine Ev.pos (by rw [enc8_size, encN_size]; have := hs y hy; omega) ?_
      refine Ev.pos (by rw [ByteArray.size_append, enc8_size, encN_size]; have := hs y hy; omega) ?_
      exact Ev.now _) (fun s y hy => by unfold stepC; rw [ByteArray.size_append, ByteArray.size_append, enc8_size, encN_size]; have := hs y hy; omega) l.length 0 s (by omega) (by omega)
  simpa using this
theorem spec_evals (l : List Val) (hl : l.length ≤ 20) (hs : ∀ y ∈ l, y.f2.size ≤ 1000) (s : ByteArray) (hz : s.size ≤ 100000) : Ev (fun k => spec_EncodeStm.l1 k s l (l.length : Int) 0) (capB (l.foldl stepV s)) := by
  have := foldE (fun k s i => spec_EncodeStm.l1 k s l (l.length : Int) (i : Int)) (fun k s y => (spec_l1Num.f k 1 y.f0).bind fun t => if s.size + t.size ≤ 9223372036854775807 then (if y.f0 = 1 then (spec_l1Num.f k 8 y.f1).bind fun u => if (s ++ t).size + u.size ≤ 9223372036854775807 then some ((s ++ t) ++ u) else none else (spec_l1S16.f k y.f2).bind fun u => if (s ++ t).size + u.size ≤ 9223372036854775807 then some ((s ++ t) ++ u) else none) else none) stepV capB l 1100 1000000
    (fun k s i h => by
      rw [spec_EncodeStm.l1, if_pos (by omega), if_pos (by omega), if_pos (by omega), rdVal l i h, wsucc i (by omega)]
      simp only [Option.bind_assoc, bind_if, Option.bind_some, Option.bind_none, bind_ite])
    (fun s hs => spec_fin _ s fun k => by rw [spec_EncodeStm.l1, if_neg (by omega)])
    (fun s y hy hz => by
      unfold stepV
      refine (spec_n1 y.f0).bind ?_
      refine Ev.pos (by rw [encN_size]; omega) ?_
      by_cases c1 : y.f0 = 1
      · simp only [if_pos c1]
        refine (spec_n8 y.f1).bind ?_
        refine Ev.pos (by rw [ByteArray.size_append, encN_size, encN_size]; omega) ?_
        exact Ev.now _
      · simp only [if_neg c1]
        refine (spec_s16 y.f2 (by have := hs y hy; omega)).bind ?_
        refine Ev.pos (by rw [ByteArray.size_append, encN_size, enc16_size]; have := hs y hy; omega) ?_
        exact Ev.now _) (fun s y hy => stepV_size s y (hs y hy)) l.length 0 s (by omega) (by omega)
  simpa using this
theorem spec_eouts (l : List (List Itm)) (hl : l.length ≤ 20) (hs : ∀ y ∈ l, y.length ≤ 100 ∧ ∀ z ∈ y, z.f2.size ≤ 200) (a0 : Int) (a1 : ByteArray) (a2 : List Col) (a3 : List Val) (a4 : ByteArray) (a5 wh : List Itm) (a7 : List (List Itm)) (hw : wh.length ≤ 100 ∧ ∀ z ∈ wh, z.f2.size ≤ 200) (s : ByteArray) (hz : s.size ≤ 100000) :
    Ev (fun k => spec_EncodeStm.l2 k s l (l.length : Int) 0 a0 a1 a2 a3 a4 a5 wh a7) (capB (l.foldl (fun s e => s ++ expEnc e) s ++ expEnc wh)) := by
  have := foldE (fun k s i => spec_EncodeStm.l2 k s l (l.length : Int) (i : Int) a0 a1 a2 a3 a4 a5 wh a7) (fun k s y => (spec_l4ExpBytes.f k y).bind fun t => if s.size + t.size ≤ 9223372036854775807 then some (s ++ t) else none) (fun s e => s ++ expEnc e) (fun s => capB (s ++ expEnc wh)) l 30000 1000000
    (fun k s i h => by
      rw [spec_EncodeStm.l2, if_pos (by omega), if_pos (by omega), if_pos (by omega), rdII l i h, wsucc i (by omega)]
      simp only [Option.bind_assoc, bind_if, Option.bind_some, Option.bind_none, bind_ite])
    (fun s hs => by
      refine Ev.step (f := fun k => (spec_l4ExpBytes.f k wh).bind fun t => if s.size + t.size ≤ 9223372036854775807 then (if ((s ++ t).size : Int) > 60000 then some (⟨#[]⟩ : ByteArray) else some (s ++ t)) else none) (fun k => by rw [spec_EncodeStm.l2, if_neg (by omega)]) ?_
      refine (spec_eb wh (by omega) (fun z hz => by have := hw.2 z hz; omega)).bind ?_
      have := expEnc_size wh hw.1 hw.2
      refine Ev.pos (by omega) ?_
      unfold capB
      split <;> exact Ev.now _)
    (fun s y hy hz => by
      refine (spec_eb y (by have := (hs y hy).1; omega) (fun z hz => by have := (hs y hy).2 z hz; omega)).bind ?_
      have := expEnc_size y (hs y hy).1 (hs y hy).2
      refine Ev.pos (by omega) ?_
      exact Ev.now _) (fun s y hy => by rw [ByteArray.size_append]; have := expEnc_size y (hs y hy).1 (hs y hy).2; omega) l.length 0 s (by omega) (by omega)
  simpa using this
theorem spec_enc (kind : Int) (table : ByteArray) (cols : List Col) (vals : List Val) (col : ByteArray) (exp wh : List Itm) (outs : List (List Itm))
    (hok : Ev (fun k => spec_StmOK.f k kind table cols vals col exp wh outs) (stmOk kind table cols vals col exp wh outs)) :
    Ev (fun k => spec_EncodeStm.f k kind table cols vals col exp wh outs) (encStm kind table cols vals col exp wh outs) := by
  unfold spec_EncodeStm.f encStm
  refine hok.bind ?_
  cases hb : stmOk kind table cols vals col exp wh outs with
  | false => simp only [if_neg ff]; exact Ev.now _
  | true =>
    obtain ⟨ht, h1, h2, h3, h4, h5⟩ := stmOk_small hb
    simp only [if_true]
    refine (spec_n1 kind).bind ?_
    refine (spec_s8 table (by omega)).bind ?_
    have e0 : (encN 1 kind ++ enc8 table).size ≤ 100 := by rw [ByteArray.size_append, encN_size, enc8_size]; omega
    refine Ev.pos (by rw [encN_size, enc8_size]; omega) ?_
    by_cases k1 : kind = 1
    · simp only [if_pos k1]
      refine (spec_n1 _).bind ?_
      refine Ev.pos (by rw [encN_size]; omega) ?_
      obtain ⟨g1, g2⟩ := h1 k1
      exact spec_ecols cols g1 (fun y hy => by have := g2 y hy; omega) _ (by rw [ByteArray.size_append, encN_size]; omega)
    · simp only [if_neg k1]
      by_cases k2 : kind = 2
      · simp only [if_pos k2]
        refine (spec_n1 _).bind ?_
        refine Ev.pos (by rw [encN_size]; omega) ?_
        obtain ⟨g1, g2⟩ := h2 k2
        exact spec_evals vals g1 (fun y hy => by have := g2 y hy; omega) _ (by rw [ByteArray.size_append, encN_size]; omega)
      · simp only [if_neg k2]
        by_cases k3 : kind = 3
        · simp only [if_pos k3]
          obtain ⟨g1, g2, g3⟩ := h3 k3
          have z1 := expEnc_size exp g2.1 g2.2
          have z2 := expEnc_size wh g3.1 g3.2
          refine (spec_s8 col (by omega)).bind ?_
          refine (spec_eb exp (by omega) (fun z hz => by have := g2.2 z hz; omega)).bind ?_
          refine Ev.pos (by rw [enc8_size]; omega) ?_
          refine (spec_eb wh (by omega) (fun z hz => by have := g3.2 z hz; omega)).bind ?_
          refine Ev.pos (by rw [ByteArray.size_append, enc8_size]; omega) ?_
          refine Ev.pos (by rw [ByteArray.size_append (a := enc8 col ++ expEnc exp), ByteArray.size_append (a := enc8 col), enc8_size]; omega) ?_
          unfold capB
          split <;> exact Ev.now _
        · simp only [if_neg k3]
          by_cases k4 : kind = 4
          · simp only [if_pos k4]
            have g3 := h4 k4
            have z2 := expEnc_size wh g3.1 g3.2
            refine (spec_eb wh (by omega) (fun z hz => by have := g3.2 z hz; omega)).bind ?_
            refine Ev.pos (by omega) ?_
            unfold capB
            split <;> exact Ev.now _
          · simp only [if_neg k4]
            by_cases k5 : kind = 5
            · simp only [if_pos k5]
              obtain ⟨g1, g2, g3⟩ := h5 k5
              refine (spec_n1 _).bind ?_
              refine Ev.pos (by rw [encN_size]; omega) ?_
              exact spec_eouts outs g1 g2 kind table cols vals col exp wh outs g3 _ (by rw [ByteArray.size_append, encN_size]; omega)
            · simp only [if_neg k5]
              unfold capB
              split <;> exact Ev.now _
end Go.Proofs.Ytoebfjfhdodakaa.Pure
end
section
set_option linter.unusedVariables false
set_option linter.unusedSimpArgs false
namespace Go.Proofs.Ytoebfjfhdodakaa.Pure
open Go Go.RowKit Go.Proofs.Ytoebfjfhdodakaa Go.Proofs.Ytoebfjfhdodakaa.L Go.Proofs.YtoebfjfhdodakaaW.PrintWords Go.Proofs.YtoebfjfhdodakaaW.PrintMore Go.Proofs.YtoebfjfhdodakaaW.PrintLast
/-- From some number of rounds on the answer stands, and it is so. -/
def EvP {α : Type} (F : Nat → Option α) (P : α → Prop) : Prop := ∃ r, Ev F r ∧ P r
theorem EvP.now {α : Type} {P : α → Prop} (r : α) (h : P r) : EvP (fun _ => some r) P := ⟨r, Ev.now r, h⟩
theorem EvP.bind {α β : Type} {F : Nat → Option α} {G : Nat → α → Option β} {P : α → Prop} {Q : β → Prop} (h : EvP F P) (k : ∀ r, P r → EvP (fun n => G n r) Q) : EvP (fun n => (F n).bind (G n)) Q := by
  obtain ⟨r, hr, hp⟩ := h
  obtain ⟨s, hs, hq⟩ := k r hp
  exact ⟨s, hr.bind hs, hq⟩
theorem EvP.step {α : Type} {F G : Nat → Option α} {P : α → Prop} (h : ∀ k, F (k + 1) = G k) (k : EvP G P) : EvP F P := by
  obtain ⟨r, hr, hp⟩ := k
  exact ⟨r, Ev.step h hr, hp⟩
theorem EvP.congr {α : Type} {F G : Nat → Option α} {P : α → Prop} (h : ∀ k, F k = G k) (k : EvP G P) : EvP F P := by
  obtain ⟨r, hr, hp⟩ := k
  exact ⟨r, Ev.congr h hr, hp⟩
theorem EvP.pos {α : Type} {c : Prop} [Decidable c] {f g : Nat → Option α} {P : α → Prop} (h : c) (hf : EvP f P) : EvP (fun k => if c then f k else g k) P := by
  simpa only [if_pos h] using hf
theorem EvP.neg {α : Type} {c : Prop} [Decidable c] {f g : Nat → Option α} {P : α → Prop} (h : ¬ c) (hf : EvP g P) : EvP (fun k => if c then f k else g k) P := by
  simpa only [if_neg h] using hf
theorem EvP.mono {α : Type} {F : Nat → Option α} {P Q : α → Prop} (h : EvP F P) (k : ∀ r, P r → Q r) : EvP F Q := by
  obtain ⟨r, hr, hp⟩ := h
  exact ⟨r, hr, k r hp⟩
theorem rdOf_mem {α : Type} (d : α) (y : List α) (r : Int) (h0 : 0 ≤ r) (h1 : r < (y.length : Int)) : rdOf d y r ∈ y := by
  have h : r.toNat < y.length := by omega
  unfold rdOf
  rw [List.getD_eq_getElem?_getD, List.getElem?_eq_getElem h]
  exact List.getElem_mem h
theorem rd_mem (y : List Int) (r : Int) (h0 : 0 ≤ r) (h1 : r < (y.length : Int)) : rd y r ∈ y := by
  have h : r.toNat < y.length := by omega
  unfold rd
  rw [List.getD_eq_getElem?_getD, List.getElem?_eq_getElem h]
  exact List.getElem_mem h
theorem rdCol_mem (y : List Col) (r : Int) (h0 : 0 ≤ r) (h1 : r < (y.length : Int)) : rd_T114 y r ∈ y := by
  have h : r.toNat < y.length := by omega
  unfold rd_T114
  rw [List.getD_eq_getElem?_getD, List.getElem?_eq_getElem h]
  exact List.getElem_mem h
/-- The reader of code: how far it may be; its seed. -/
def Cu (b a s : Int) : Prop := 0 ≤ a ∧ a ≤ b ∧ 0 ≤ s ∧ s < 2147483648
theorem Cu.mono {b b' a s : Int} (h : Cu b a s) (hb : b ≤ b') : Cu b' a s := ⟨h.1, by have := h.2.1; omega, h.2.2⟩
/-- A code: bytes, not too many. -/
def CodeOk (code : List Int) : Prop := (∀ x ∈ code, 0 ≤ x ∧ x ≤ 255) ∧ code.length ≤ 1048576
theorem byte_ok {code : List Int} (hC : CodeOk code) {b a s : Int} (hc : Cu b a s) (hb : b ≤ 1000000000000) :
    ∃ r a' s', spec_l1Cur_byte.f code a s = some (r, a', s') ∧ 0 ≤ r ∧ r ≤ 255 ∧ Cu (b + 1) a' s' := by
  obtain ⟨h0, h1, h2, h3⟩ := hc
  have hl := hC.2
  unfold spec_l1Cur_byte.f
  have e1 : wrap64 (a + 1) = a + 1 := w64 _ (by omega)
  have e2 : wrap64 (40 * (code.length : Int)) = 40 * (code.length : Int) := w64 _ (by omega)
  have e3 : wrap64 (200 + 40 * (code.length : Int)) = 200 + 40 * (code.length : Int) := w64 _ (by omega)
  have e4 : wrap64 (s * 1103515245) = s * 1103515245 := w64 _ (by omega)
  have e5 : wrap64 (s * 1103515245 + 12345) = s * 1103515245 + 12345 := w64 _ (by omega)
  have e6 : wrap64 (a + 1 - 1) = a := by rw [w64 _ (by omega)]; omega
  rw [e1, e2, e3, e4, e5, e6]
  by_cases c1 : a + 1 > 200 + 40 * (code.length : Int)
  · rw [if_pos c1]
    exact ⟨_, _, _, rfl, by omega, by omega, by omega, by omega, h2, h3⟩
  · rw [if_neg c1]
    by_cases c2 : a + 1 > (code.length : Int)
    · rw [if_pos c2]
      have t1 := Int.tmod_nonneg (a := s * 1103515245 + 12345) 2147483648 (by omega)
      have t2 := Int.tmod_lt_of_pos (s * 1103515245 + 12345) (b := 2147483648) (by omega)
      have t3 := Int.tdiv_eq_ediv_of_nonneg (a := Int.tmod (s * 1103515245 + 12345) 2147483648) (b := 65536) t1
      have t4 : 0 ≤ Int.tdiv (Int.tmod (s * 1103515245 + 12345) 2147483648) 65536 ∧ Int.tdiv (Int.tmod (s * 1103515245 + 12345) 2147483648) 65536 ≤ 2147483648 := by rw [t3]; omega
      have t5 : wrap64 (Int.tdiv (Int.tmod (s * 1103515245 + 12345) 2147483648) 65536) = Int.tdiv (Int.tmod (s * 1103515245 + 12345) 2147483648) 65536 := w64 _ (by omega)
      rw [t5]
      have t6 := Int.tmod_nonneg (a := Int.tdiv (Int.tmod (s * 1103515245 + 12345) 2147483648) 65536) 256 t4.1
      have t7 := Int.tmod_lt_of_pos (Int.tdiv (Int.tmod (s * 1103515245 + 12345) 2147483648) 65536) (b := 256) (by omega)
      exact ⟨_, _, _, rfl, t6, by omega, by omega, by omega, t1, t2⟩
    · rw [if_neg c2, if_pos h0, if_pos (by omega)]
      have hr := hC.1 _ (rd_mem code a h0 (by omega))
      have w1 : wrap64 (rd code a) = rd code a := w64 _ (by omega)
      have w2 : wrap64 (s * 31) = s * 31 := w64 _ (by omega)
      have w3 : wrap64 (s * 31 + rd code a) = s * 31 + rd code a := w64 _ (by omega)
      have w4 : wrap64 (s * 31 + rd code a + 7) = s * 31 + rd code a + 7 := w64 _ (by omega)
      rw [w1, w2, w3, w4]
      have t1 := Int.tmod_nonneg (a := s * 31 + rd code a + 7) 2147483648 (by omega)
      have t2 := Int.tmod_lt_of_pos (s * 31 + rd code a + 7) (b := 2147483648) (by omega)
      exact ⟨_, _, _, rfl, hr.1, hr.2, by omega, by omega, t1, t2⟩
theorem pick_ok {code : List Int} (hC : CodeOk code) {b a s : Int} (n : Int) (hn : 1 ≤ n) (hn2 : n ≤ 65536) (hc : Cu b a s) (hb : b ≤ 900000000000) :
    ∃ r a' s', spec_l1Cur_pick.f code a s n = some (r, a', s') ∧ 0 ≤ r ∧ r < n ∧ Cu (b + 2) a' s' := by
  unfold spec_l1Cur_pick.f
  by_cases c1 : n ≤ 1
  · rw [if_pos c1]
    exact ⟨_, _, _, rfl, by omega, by omega, hc.mono (by omega)⟩
  · rw [if_neg c1]
    obtain ⟨r, a', s', e, r0, r1, hc'⟩ := byte_ok hC hc (by omega)
    by_cases c2 : n ≤ 256
    · rw [if_pos c2, e, Option.bind_some, if_neg (by omega)]
      exact ⟨_, _, _, rfl, Int.tmod_nonneg _ r0, Int.tmod_lt_of_pos _ (by omega), hc'.mono (by omega)⟩
    · rw [if_neg c2, e, Option.bind_some]
      obtain ⟨r2, a2, s2, e2, r20, r21, hc2⟩ := byte_ok hC hc' (by omega)
      have w1 : wrap64 (r * 256) = r * 256 := w64 _ (by omega)
      have w2 : wrap64 (r * 256 + r2) = r * 256 + r2 := w64 _ (by omega)
      dsimp only
      rw [e2, Option.bind_some, if_neg (by omega)]
      dsimp only
      rw [w1, w2]
      exact ⟨_, _, _, rfl, Int.tmod_nonneg _ (by omega), Int.tmod_lt_of_pos _ (by omega), hc2.mono (by omega)⟩
theorem name_ok {code : List Int} (hC : CodeOk code) {b a s : Int} (hc : Cu b a s) (hb : b ≤ 900000000000) :
    ∃ t a' s', spec_l5DrawName.f code a s = some (t, a', s') ∧ nameKw t = true ∧ Cu (b + 2) a' s' := by
  unfold spec_l5DrawName.f
  rw [Option.bind_some]
  obtain ⟨r, a', s', e, r0, r1, hc'⟩ := pick_ok hC 4 (by decide) (by decide) hc hb
  rw [e, Option.bind_some, if_pos r0, if_pos (by exact r1)]
  refine ⟨_, _, _, rfl, ?_, hc'⟩
  have hm := rdOf_mem ByteArray.empty [(⟨#[116]⟩ : ByteArray), (⟨#[117]⟩ : ByteArray), (⟨#[116]⟩ : ByteArray), (⟨#[118, 50]⟩ : ByteArray)] r r0 r1
  revert hm
  generalize rdOf ByteArray.empty _ _ = t
  intro hm
  simp only [List.mem_cons, List.not_mem_nil, or_false] at hm
  rcases hm with rfl | rfl | rfl | rfl <;> decide
theorem int_ok {code : List Int} (hC : CodeOk code) {b a s : Int} (hc : Cu b a s) (hb : b ≤ 900000000000) :
    ∃ t a' s', spec_l5DrawInt.f code a s = some (t, a', s') ∧ numOk t = true ∧ Cu (b + 2) a' s' := by
  unfold spec_l5DrawInt.f
  rw [Option.bind_some]
  obtain ⟨r, a', s', e, r0, r1, hc'⟩ := pick_ok hC 12 (by decide) (by decide) hc hb
  rw [e, Option.bind_some, if_pos r0, if_pos (by exact r1)]
  refine ⟨_, _, _, rfl, ?_, hc'⟩
  have hm := rd_mem [0, 1, 2, 3, 4, 5, (-1), 7, 9223372036854775807, (-9223372036854775807), 10, 2] r r0 r1
  revert hm
  generalize rd _ _ = t
  intro hm
  simp only [List.mem_cons, List.not_mem_nil, or_false] at hm
  unfold numOk
  rcases hm with rfl | rfl | rfl | rfl | rfl | rfl | rfl | rfl | rfl | rfl | rfl | rfl <;> decide
theorem textd_ok {code : List Int} (hC : CodeOk code) {b a s : Int} (hc : Cu b a s) (hb : b ≤ 900000000000) :
    ∃ t a' s', spec_l5DrawText.f code a s = some (t, a', s') ∧ textOk t = true ∧ Cu (b + 2) a' s' := by
  unfold spec_l5DrawText.f
  rw [Option.bind_some]
  obtain ⟨r, a', s', e, r0, r1, hc'⟩ := pick_ok hC 8 (by decide) (by decide) hc hb
  rw [e, Option.bind_some, if_pos r0, if_pos (by exact r1)]
  refine ⟨_, _, _, rfl, ?_, hc'⟩
  have hm := rdOf_mem ByteArray.empty [(⟨#[]⟩ : ByteArray), (⟨#[97]⟩ : ByteArray), (⟨#[98]⟩ : ByteArray), (⟨#[105, 116, 39, 115]⟩ : ByteArray), (⟨#[120, 32, 121]⟩ : ByteArray), (⟨#[97, 97]⟩ : ByteArray), (⟨#[122, 122, 126]⟩ : ByteArray), (⟨#[98]⟩ : ByteArray)] r r0 r1
  revert hm
  generalize rdOf ByteArray.empty _ _ = t
  intro hm
  simp only [List.mem_cons, List.not_mem_nil, or_false] at hm
  rcases hm with rfl | rfl | rfl | rfl | rfl | rfl | rfl | rfl <;> decide
theorem nil_list : ((⟨#[]⟩ : ByteArray).toList == ([] : List UInt8)) = true := by rw [ByteArray.toList_eq]; rfl
theorem value_ok {code : List Int} (hC : CodeOk code) {b a s : Int} (kind : Int) (hc : Cu b a s) (hb : b ≤ 900000000000) :
    ∃ y n t a' s', spec_l5DrawValue.f code a s kind = some (y, n, t, a', s') ∧ valOk y n t = true ∧ Cu (b + 2) a' s' := by
  unfold spec_l5DrawValue.f valOk
  by_cases c : kind = 1
  · rw [if_pos c]
    obtain ⟨t, a', s', e, ht, hc'⟩ := int_ok hC hc hb
    rw [e, Option.bind_some]
    refine ⟨_, _, _, _, _, rfl, ?_, hc'⟩
    rw [if_pos rfl, ht, nil_list]
    rfl
  · rw [if_neg c]
    obtain ⟨t, a', s', e, ht, hc'⟩ := textd_ok hC hc hb
    rw [e, Option.bind_some]
    refine ⟨_, _, _, _, _, rfl, ?_, hc'⟩
    rw [if_neg (by decide), if_pos rfl, ht]
    rfl
/-- An expression of at most so many items: it leaves one operand more. -/
def ExpQ (n : Nat) (e : List Itm) : Prop := 1 ≤ e.length ∧ e.length ≤ n ∧ ∀ (rest : List Itm) (d : Int), 0 ≤ d → expRun (e ++ rest) d = expRun rest (d + 1)
theorem ExpQ.mono {n m : Nat} {e : List Itm} (h : ExpQ n e) (hm : n ≤ m) : ExpQ m e := ⟨h.1, by have := h.2.1; omega, h.2.2⟩
theorem ExpQ.leaf (t : Itm) (h : itmOk t.f0 t.f1 t.f2 = true) (ha : arity t.f0 = 0) : ExpQ 1 [t] := by
  refine ⟨by simp, by simp, fun rest d hd => ?_⟩
  rw [List.singleton_append, expRun, h, ha, if_neg (by omega), Bool.true_and]
  rfl
theorem ExpQ.one {n : Nat} {e : List Itm} (h : ExpQ n e) (t : Itm) (ht : itmOk t.f0 t.f1 t.f2 = true) (ha : arity t.f0 = 1) : ExpQ (n + 1) (e ++ [t]) := by
  refine ⟨by simp, by have := h.2.1; simp; omega, fun rest d hd => ?_⟩
  rw [List.append_assoc, h.2.2 _ d hd, List.singleton_append, expRun, ht, ha, if_neg (by omega), Bool.true_and]
  congr 1
  omega
theorem ExpQ.two {n m : Nat} {e f : List Itm} (h : ExpQ n e) (h2 : ExpQ m f) (t : Itm) (ht : itmOk t.f0 t.f1 t.f2 = true) (ha : arity t.f0 = 2) : ExpQ (n + m + 1) (e ++ f ++ [t]) := by
  refine ⟨by simp; omega, by have := h.2.1; have := h2.2.1; simp; omega, fun rest d hd => ?_⟩
  rw [List.append_assoc, List.append_assoc, h.2.2 _ d hd, h2.2.2 _ (d + 1) (by omega), List.singleton_append, expRun, ht, ha, if_neg (by omega), Bool.true_and]
  congr 1
  omega
theorem ExpQ.ok {n : Nat} {e : List Itm} (h : ExpQ n e) (hn : n ≤ 100) : expOk e = true := by
  unfold expOk
  have h2 := h.2.2 [] 0 (by decide)
  rw [List.append_nil] at h2
  rw [h2, decide_eq_true ⟨h.1, by have := h.2.1; omega⟩]
  rfl
theorem op_ok (op : Int) (h : 4 ≤ op ∧ op ≤ 13) : itmOk op 0 (⟨#[]⟩ : ByteArray) = true := by
  unfold itmOk
  rw [if_neg (by omega), if_neg (by omega), if_neg (by omega), decide_eq_true h, nil_list]
  rfl
/-- The columns of the usual tables. -/
def ColsOk (cols : List Col) : Prop := 1 ≤ cols.length ∧ cols.length ≤ 3 ∧ ∀ c ∈ cols, colOk c = true
theorem colOk_name {c : Col} (h : colOk c = true) : nameKw c.f0 = true := by
  unfold colOk at h
  rw [Bool.and_eq_true] at h
  exact h.1
theorem usual_ok (t : ByteArray) : ∃ cols, spec_l5Usual.f t = some cols ∧ ColsOk cols := by
  unfold spec_l5Usual.f
  split
  · refine ⟨_, rfl, by simp, by simp, ?_⟩
    intro c hc
    simp only [List.mem_cons, List.not_mem_nil, or_false] at hc
    rcases hc with rfl | rfl | rfl <;> decide
  · split
    · refine ⟨_, rfl, by simp, by simp, ?_⟩
      intro c hc
      simp only [List.mem_cons, List.not_mem_nil, or_false] at hc
      rcases hc with rfl | rfl <;> decide
    · refine ⟨_, rfl, by simp, by simp, ?_⟩
      intro c hc
      simp only [List.mem_cons, List.not_mem_nil, or_false] at hc
      rcases hc with rfl
      decide
theorem leaf_ok {code : List Int} (hC : CodeOk code) {cols : List Col} (hcols : ColsOk cols) (kind : Int) (d : Nat) : ∀ (t : Nat) (a s b : Int), t + d = 3 → Cu b a s → b + 2 * (d : Int) ≤ 810000000000 →
    EvP (fun k => spec_l5DrawExp.l0 k cols kind (t : Int) code a s) (fun r => ExpQ 1 r.1 ∧ Cu (b + 2 * (d : Int) + 2) r.2.1 r.2.2) := by
  induction d with
  | zero =>
    intro t a s b ht hc hb
    refine EvP.step (fun k => by rw [spec_l5DrawExp.l0, if_neg (by omega)]) ?_
    by_cases c : kind = 1
    · obtain ⟨v, a', s', e, hv, hc'⟩ := int_ok hC hc (by omega)
      simp only [if_pos c, e, Option.bind_some]
      refine EvP.now _ ⟨ExpQ.leaf _ ?_ rfl, hc'.mono (by omega)⟩
      unfold itmOk
      rw [if_pos rfl, hv, nil_list]
      rfl
    · obtain ⟨v, a', s', e, hv, hc'⟩ := textd_ok hC hc (by omega)
      simp only [if_neg c, e, Option.bind_some]
      refine EvP.now _ ⟨ExpQ.leaf _ ?_ rfl, hc'.mono (by omega)⟩
      unfold itmOk
      rw [if_neg (show ¬ (2 : Int) = 1 by decide), if_pos rfl, hv]
      rfl
  | succ d ih =>
    intro t a s b ht hc hb
    have hl := hcols.1
    have hl2 := hcols.2.1
    obtain ⟨r, a', s', e, r0, r1, hc'⟩ := pick_ok hC (cols.length : Int) (by omega) (by omega) hc (by omega)
    refine EvP.step (G := fun k => if (rd_T114 cols r).f1 = kind then some ([(⟨3, 0, (rd_T114 cols r).f0⟩ : Itm)], a', s') else spec_l5DrawExp.l0 k cols kind ((t + 1 : Nat) : Int) code a' s') (fun k => by
      rw [spec_l5DrawExp.l0, if_pos (by omega), e, Option.bind_some, if_pos r0, if_pos r1, wsucc t (by omega)]) ?_
    have hm := hcols.2.2 _ (rdCol_mem cols r r0 r1)
    by_cases c : (rd_T114 cols r).f1 = kind
    · simp only [if_pos c]
      refine EvP.now _ ⟨ExpQ.leaf _ ?_ rfl, hc'.mono (by omega)⟩
      unfold itmOk
      rw [if_neg (show ¬ (3 : Int) = 1 by decide), if_neg (show ¬ (3 : Int) = 2 by decide), if_pos rfl, colOk_name hm]
      rfl
    · simp only [if_neg c]
      exact (ih (t + 1) a' s' (b + 2) (by omega) hc' (by omega)).mono fun r h => ⟨h.1, h.2.mono (by omega)⟩
theorem j0_leaf {code : List Int} (hC : CodeOk code) {cols : List Col} (hcols : ColsOk cols) (kind depth : Int) {a s b : Int} (hc : Cu b a s) (hb : b ≤ 800000000000) :
    EvP (fun k => spec_l5DrawExp.j0 k cols kind depth true code a s) (fun r => ExpQ 1 r.1 ∧ Cu (b + 8) r.2.1 r.2.2) :=
  EvP.step (fun k => by rw [spec_l5DrawExp.j0, if_pos rfl]; rfl) ((leaf_ok hC hcols kind 3 0 a s b rfl hc (by omega)).mono fun r h => ⟨h.1, h.2.mono (by omega)⟩)
/-- What is known of the expressions drawn at this depth. -/
def ExpH (code : List Int) (cols : List Col) (depth : Int) (n : Nat) (B L : Int) : Prop :=
  ∀ kind a s b, Cu b a s → b ≤ L → EvP (fun k => spec_l5DrawExp.f k code a s cols kind depth) (fun r => ExpQ n r.1 ∧ Cu (b + B) r.2.1 r.2.2)
theorem exp_j2 {code : List Int} (hC : CodeOk code) {cols : List Col} {depth : Int} {n : Nat} {B L : Int} (H : ExpH code cols (depth + 1) n B L) (hd : 0 ≤ depth ∧ depth ≤ 2) (hn : n ≤ 100) (hB : 0 ≤ B)
    (op : Int) (hop : 4 ≤ op ∧ op ≤ 13) (inner : Int) {a s b : Int} (hc : Cu b a s) (hb : b + B ≤ L) :
    EvP (fun k => spec_l5DrawExp.j2 k cols depth op inner code a s) (fun r => ExpQ (n + n + 1) r.1 ∧ Cu (b + B + B) r.2.1 r.2.2) := by
  refine EvP.step (fun k => by rw [spec_l5DrawExp.j2, w64 (depth + 1) (by omega)]) ?_
  refine (H inner a s b hc (by omega)).bind fun r hr => ?_
  simp only [spec_ar, Option.bind_some]
  have hz := hr.1.2.1
  by_cases c : arity op = 2
  · simp only [if_pos c]
    refine (H inner _ _ (b + B) hr.2 hb).bind fun r2 hr2 => ?_
    have hz2 := hr2.1.2.1
    refine EvP.pos (by omega) ?_
    refine EvP.pos (by rw [List.length_append]; omega) ?_
    exact EvP.now _ ⟨ExpQ.two hr.1 hr2.1 _ (op_ok op hop) c, hr2.2⟩
  · simp only [if_neg c]
    refine EvP.pos (by omega) ?_
    refine EvP.now _ ⟨(ExpQ.one hr.1 _ (op_ok op hop) ?_).mono (by omega), hr.2.mono (by omega)⟩
    show arity op = 1
    unfold arity at c ⊢
    rw [if_neg (by omega)] at c ⊢
    by_cases o1 : op = 11
    · rw [if_pos o1]
    · rw [if_neg o1] at c ⊢
      by_cases o2 : op = 13
      · rw [if_pos o2]
      · rw [if_neg o2] at c
        omega
theorem exp_step {code : List Int} (hC : CodeOk code) {cols : List Col} (hcols : ColsOk cols) {depth : Int} {n : Nat} {B L : Int} (H : ExpH code cols (depth + 1) n B L) (hd : 0 ≤ depth ∧ depth ≤ 2) (hn : n ≤ 100) (hB : 0 ≤ B ∧ B ≤ 900) (hL : L ≤ 800000000000) :
    ExpH code cols depth (n + n + 1) (B + B + 10) (L - 1000) := by
  intro kind a s b hc hb
  obtain ⟨r, a', s', e, r0, r1, hc'⟩ := pick_ok hC 5 (by decide) (by decide) hc (by omega)
  refine EvP.step (G := fun k => spec_l5DrawExp.j0 k cols kind depth (decide (r ≤ 1)) code a' s') (fun k => by rw [spec_l5DrawExp.f, if_neg (by omega), e, Option.bind_some]) ?_
  by_cases c : r ≤ 1
  · rw [decide_eq_true c]
    exact (j0_leaf hC hcols kind depth hc' (by omega)).mono fun r h => ⟨h.1.mono (by omega), h.2.mono (by omega)⟩
  · rw [decide_eq_false c]
    refine EvP.step (fun k => by rw [spec_l5DrawExp.j0, if_neg ff]) ?_
    by_cases c1 : kind = 1
    · simp only [if_pos c1, Option.bind_some]
      obtain ⟨q, a2, s2, e2, q0, q1, hc2⟩ := pick_ok hC 11 (by decide) (by decide) hc' (by omega)
      simp only [e2, Option.bind_some, if_pos q0]
      refine EvP.pos (show q < (([4, 5, 6, 7, 8, 9, 10, 11, 13, 7, 8] : List Int).length : Int) from q1) ?_
      have hm := rd_mem [4, 5, 6, 7, 8, 9, 10, 11, 13, 7, 8] q q0 q1
      revert hm
      generalize rd [4, 5, 6, 7, 8, 9, 10, 11, 13, 7, 8] q = op
      intro hm
      have hop : 4 ≤ op ∧ op ≤ 13 := by
        simp only [List.mem_cons, List.not_mem_nil, or_false] at hm
        omega
      by_cases o1 : op = 13
      · simp only [if_pos o1]
        exact (exp_j2 hC H hd hn hB.1 op hop 2 hc2 (by omega)).mono fun r h => ⟨h.1, h.2.mono (by omega)⟩
      · simp only [if_neg o1]
        obtain ⟨p, a3, s3, e3, p0, p1, hc3⟩ := pick_ok hC 2 (by decide) (by decide) hc2 (by omega)
        have hj : ∀ inner, EvP (fun k => spec_l5DrawExp.j2 k cols depth op inner code a3 s3) (fun r => ExpQ (n + n + 1) r.1 ∧ Cu (b + (B + B + 10)) r.2.1 r.2.2) := fun inner =>
          (exp_j2 hC H hd hn hB.1 op hop inner hc3 (by omega)).mono fun r h => ⟨h.1, h.2.mono (by omega)⟩
        by_cases o2 : op = 7
        · simp only [if_pos o2, e3, Option.bind_some]
          split
          · exact hj 2
          · exact hj 1
        · simp only [if_neg o2]
          by_cases o3 : op = 8
          · simp only [if_pos o3, e3, Option.bind_some]
            split
            · exact hj 2
            · exact hj 1
          · simp only [if_neg o3]
            exact (exp_j2 hC H hd hn hB.1 op hop 1 hc2 (by omega)).mono fun r h => ⟨h.1, h.2.mono (by omega)⟩
    · simp only [if_neg c1]
      exact (exp_j2 hC H hd hn hB.1 12 (by decide) 2 hc' (by omega)).mono fun r h => ⟨h.1, h.2.mono (by omega)⟩
theorem exp_ok {code : List Int} (hC : CodeOk code) {cols : List Col} (hcols : ColsOk cols) : ExpH code cols 0 15 134 700000000000 := by
  have h3 : ExpH code cols (2 + 1) 1 8 800000000000 := fun kind a s b hc hb =>
    EvP.step (fun k => by rw [spec_l5DrawExp.f, if_pos (by decide)]) (j0_leaf hC hcols kind (2 + 1) hc hb)
  have h2 : ExpH code cols (1 + 1) _ _ _ := exp_step hC hcols h3 (by decide) (by decide) (by decide) (by decide)
  have h1 : ExpH code cols (0 + 1) _ _ _ := exp_step hC hcols h2 (by decide) (by decide) (by decide) (by decide)
  have h0 := exp_step hC hcols h1 (by decide) (by decide) (by decide) (by decide)
  exact fun kind a s b hc hb => h0 kind a s b hc (by omega)
/-- A condition drawn. -/
def WhG (wh : List Itm) : Prop := wh = [] ∨ ExpQ 15 wh
/-- A statement drawn: of one of the five kinds. -/
def StmG (m : Nat) (kind : Int) (table : ByteArray) (cols : List Col) (vals : List Val) (col : ByteArray) (exp wh : List Itm) (outs : List (List Itm)) : Prop :=
  nameKw table = true ∧
  ((kind = 1 ∧ vals = [] ∧ col = (⟨#[]⟩ : ByteArray) ∧ exp = [] ∧ outs = [] ∧ wh = [] ∧ 1 ≤ cols.length ∧ cols.length ≤ m ∧ ∀ c ∈ cols, colOk c = true) ∨
   (kind = 2 ∧ cols = [] ∧ col = (⟨#[]⟩ : ByteArray) ∧ exp = [] ∧ outs = [] ∧ wh = [] ∧ 1 ≤ vals.length ∧ vals.length ≤ 3 ∧ ∀ v ∈ vals, valOk v.f0 v.f1 v.f2 = true) ∨
   (kind = 3 ∧ cols = [] ∧ vals = [] ∧ outs = [] ∧ nameKw col = true ∧ ExpQ 15 exp ∧ WhG wh) ∨
   (kind = 4 ∧ cols = [] ∧ vals = [] ∧ col = (⟨#[]⟩ : ByteArray) ∧ exp = [] ∧ outs = [] ∧ WhG wh) ∨
   (kind = 5 ∧ cols = [] ∧ vals = [] ∧ col = (⟨#[]⟩ : ByteArray) ∧ exp = [] ∧ WhG wh ∧ 1 ≤ outs.length ∧ outs.length ≤ 3 ∧ ∀ e ∈ outs, ExpQ 15 e))
abbrev St := Int × ByteArray × List Col × List Val × ByteArray × List Itm × List Itm × List (List Itm) × Int × Int
def StG (m : Nat) (b : Int) (r : St) : Prop :=
  StmG m r.1 r.2.1 r.2.2.1 r.2.2.2.1 r.2.2.2.2.1 r.2.2.2.2.2.1 r.2.2.2.2.2.2.1 r.2.2.2.2.2.2.2.1 ∧ Cu b r.2.2.2.2.2.2.2.2.1 r.2.2.2.2.2.2.2.2.2
theorem StG.mono {m : Nat} {b b' : Int} {r : St} (h : StG m b r) (hb : b ≤ b') : StG m b' r := ⟨h.1, h.2.mono hb⟩
theorem name_item (t : ByteArray) (h : nameKw t = true) : ExpQ 1 [(⟨3, 0, t⟩ : Itm)] := by
  refine ExpQ.leaf _ ?_ rfl
  unfold itmOk
  rw [if_neg (show ¬ (3 : Int) = 1 by decide), if_neg (show ¬ (3 : Int) = 2 by decide), if_pos rfl, h]
  rfl
theorem j5_where {code : List Int} (hC : CodeOk code) (m : Nat) (kind : Int) (table : ByteArray) (cols : List Col) (vals : List Val) (col : ByteArray) (exp : List Itm) (outs : List (List Itm))
    (h : ∀ t, nameKw t = true → StmG m kind table cols vals col exp [(⟨3, 0, t⟩ : Itm)] outs) {b a s : Int} (hc : Cu b a s) (hb : b ≤ 700000000100) :
    EvP (fun _ => (spec_l1Cur_pick.f code a s 4).bind fun bt393 => (if 0 ≤ bt393.1 then (if bt393.1 < (([(⟨#[110, 97, 109, 101]⟩ : ByteArray), (⟨#[105, 100]⟩ : ByteArray), (⟨#[122, 122]⟩ : ByteArray), (⟨#[107, 101, 121]⟩ : ByteArray)] : List ByteArray).length : Int) then (some ((kind, table, cols, vals, col, exp, (([(⟨3, 0, rdOf ByteArray.empty [(⟨#[110, 97, 109, 101]⟩ : ByteArray), (⟨#[105, 100]⟩ : ByteArray), (⟨#[122, 122]⟩ : ByteArray), (⟨#[107, 101, 121]⟩ : ByteArray)] bt393.1⟩ : Itm)] : List Itm)), outs, bt393.2.1, bt393.2.2) : St)) else (none)) else (none))) (StG m (b + 2)) := by
  obtain ⟨q, a2, s2, e2, q0, q1, hc2⟩ := pick_ok hC 4 (by decide) (by decide) hc (by omega)
  simp only [e2, Option.bind_some, if_pos q0]
  refine EvP.pos q1 ?_
  refine EvP.now _ ⟨h _ ?_, hc2⟩
  have hm := rdOf_mem ByteArray.empty [(⟨#[110, 97, 109, 101]⟩ : ByteArray), (⟨#[105, 100]⟩ : ByteArray), (⟨#[122, 122]⟩ : ByteArray), (⟨#[107, 101, 121]⟩ : ByteArray)] q q0 q1
  revert hm
  generalize rdOf ByteArray.empty _ _ = t
  intro hm
  simp only [List.mem_cons, List.not_mem_nil, or_false] at hm
  rcases hm with rfl | rfl | rfl | rfl <;> decide
theorem j5_ok {code : List Int} (hC : CodeOk code) {kind : Int} {table : ByteArray} {cols : List Col} {vals : List Val} {col : ByteArray} {exp wh : List Itm} {outs : List (List Itm)}
    (h : StmG 3 kind table cols vals col exp wh outs) {b a s : Int} (hc : Cu b a s) (hb : b ≤ 700000000000) :
    EvP (fun k => spec_l5DrawStm.j5 k code a s kind table cols vals col exp wh outs) (StG 4 (b + 20)) := by
  obtain ⟨r, a', s', e, r0, r1, hc'⟩ := pick_ok hC 6 (by decide) (by decide) hc (by omega)
  refine EvP.step (fun k => by rw [spec_l5DrawStm.j5, e, Option.bind_some]) ?_
  obtain ⟨ht, h⟩ := h
  by_cases c : r = 5
  · simp only [if_pos c, Option.bind_some]
    rcases h with ⟨rfl, rfl, rfl, rfl, rfl, rfl, h1, h2, h3⟩ | ⟨rfl, rfl, rfl, rfl, rfl, rfl, h1, h2, h3⟩ | ⟨rfl, rfl, rfl, rfl, h1, h2, h3⟩ | ⟨rfl, rfl, rfl, rfl, rfl, rfl, h1⟩ | ⟨rfl, rfl, rfl, rfl, rfl, h0, h1, h2, h3⟩
    · simp only [if_true]
      refine EvP.pos (by simp; omega) ?_
      refine EvP.pos (by omega) ?_
      refine EvP.pos (by simp; omega) ?_
      refine EvP.now _ ⟨⟨ht, .inl ⟨rfl, rfl, rfl, rfl, rfl, rfl, by simp, by simp; omega, fun c hm => ?_⟩⟩, hc'.mono (by omega)⟩
      simp only [List.nil_append, List.mem_append, List.mem_singleton] at hm
      rcases hm with hm | rfl
      · exact h3 c hm
      · exact h3 _ (rdCol_mem cols 0 (by omega) (by omega))
    · simp only [show ¬ (2 : Int) = 1 by decide, if_false, if_true]
      obtain ⟨q, a2, s2, e2, q0, q1, hc2⟩ := pick_ok hC 2 (by decide) (by decide) hc' (by omega)
      simp only [e2, Option.bind_some]
      obtain ⟨y, n, t, a3, s3, e3, hv, hc3⟩ := value_ok hC (wrap64 (1 + q)) hc2 (by omega)
      simp only [e3, Option.bind_some]
      refine EvP.pos (by omega) ?_
      obtain ⟨p, a4, s4, e4, p0, p1, hc4⟩ := pick_ok hC (vals.length : Int) (by omega) (by omega) hc3 (by omega)
      simp only [e4, Option.bind_some, w64 (1 + p) (by omega)]
      refine EvP.pos (by omega) ?_
      refine EvP.pos (by omega) ?_
      refine EvP.now _ ⟨⟨ht, .inr (.inl ⟨rfl, rfl, rfl, rfl, rfl, rfl, ?_, ?_, fun v hm => ?_⟩)⟩, hc4.mono (by omega)⟩
      · rw [List.length_take, List.length_set]; omega
      · rw [List.length_take, List.length_set]; omega
      · rcases List.mem_or_eq_of_mem_set (List.mem_of_mem_take hm) with hm | rfl
        · exact h3 v hm
        · exact hv
    · simp only [show ¬ (3 : Int) = 1 by decide, show ¬ (3 : Int) = 2 by decide, if_false, if_true]
      obtain ⟨q, a2, s2, e2, q0, q1, hc2⟩ := pick_ok hC 3 (by decide) (by decide) hc' (by omega)
      simp only [e2, Option.bind_some, if_pos q0]
      refine EvP.pos q1 ?_
      refine EvP.now _ ⟨⟨ht, .inr (.inr (.inl ⟨rfl, rfl, rfl, rfl, ?_, h2, h3⟩))⟩, hc2.mono (by omega)⟩
      have hm := rdOf_mem ByteArray.empty [(⟨#[105, 100]⟩ : ByteArray), (⟨#[110, 97, 109, 101]⟩ : ByteArray), (⟨#[122, 122]⟩ : ByteArray)] q q0 q1
      revert hm
      show rdOf ByteArray.empty _ _ ∈ _ → nameKw (rdOf ByteArray.empty _ _) = true
      generalize rdOf ByteArray.empty _ _ = t
      intro hm
      simp only [List.mem_cons, List.not_mem_nil, or_false] at hm
      rcases hm with rfl | rfl | rfl <;> decide
    · simp only [show ¬ (4 : Int) = 1 by decide, show ¬ (4 : Int) = 2 by decide, show ¬ (4 : Int) = 3 by decide, if_false]
      exact (j5_where hC 4 4 table [] [] (⟨#[]⟩ : ByteArray) [] [] (fun t hn => ⟨ht, .inr (.inr (.inr (.inl ⟨rfl, rfl, rfl, rfl, rfl, rfl, .inr ((name_item t hn).mono (by omega))⟩)))⟩) hc' (by omega)).mono fun r h => h.mono (by omega)
    · simp only [show ¬ (5 : Int) = 1 by decide, show ¬ (5 : Int) = 2 by decide, show ¬ (5 : Int) = 3 by decide, if_false]
      exact (j5_where hC 4 5 table [] [] (⟨#[]⟩ : ByteArray) [] outs (fun t hn => ⟨ht, .inr (.inr (.inr (.inr ⟨rfl, rfl, rfl, rfl, rfl, .inr ((name_item t hn).mono (by omega)), h1, h2, h3⟩)))⟩) hc' (by omega)).mono fun r h => h.mono (by omega)
  · simp only [if_neg c]
    refine EvP.now _ ⟨⟨ht, ?_⟩, hc'.mono (by omega)⟩
    rcases h with ⟨h0, h1, h2, h3, h4, h5, h6, h7, h8⟩ | h | h | h | h
    · exact .inl ⟨h0, h1, h2, h3, h4, h5, h6, Nat.le_succ_of_le h7, h8⟩
    · exact .inr (.inl h)
    · exact .inr (.inr (.inl h))
    · exact .inr (.inr (.inr (.inl h)))
    · exact .inr (.inr (.inr (.inr h)))
theorem dvals_ok {code : List Int} (hC : CodeOk code) {cols : List Col} (hcols : ColsOk cols) {table : ByteArray} (ht : nameKw table = true) (d : Nat) : ∀ (i : Nat) (vals : List Val) (a s b : Int), i + d = cols.length → vals.length = i → (∀ v ∈ vals, valOk v.f0 v.f1 v.f2 = true) → Cu b a s → b + 2 * (d : Int) ≤ 600000000000 →
    EvP (fun k => spec_l5DrawStm.l0 k cols (cols.length : Int) (i : Int) code a s 2 table vals (⟨#[]⟩ : ByteArray)) (StG 4 (b + 2 * (d : Int) + 20)) := by
  have hl := hcols.1
  have hl2 := hcols.2.1
  induction d with
  | zero =>
    intro i vals a s b hi hv hk hc hb
    refine EvP.step (fun k => by rw [spec_l5DrawStm.l0, if_neg (by omega)]) ?_
    exact (j5_ok hC ⟨ht, .inr (.inl ⟨rfl, rfl, rfl, rfl, rfl, rfl, by omega, by omega, hk⟩)⟩ hc (by omega)).mono fun r h => h.mono (by omega)
  | succ d ih =>
    intro i vals a s b hi hv hk hc hb
    obtain ⟨y, n, t, a', s', e, hval, hc'⟩ := value_ok hC ((rd_T114 cols (i : Int)).f1) hc (by omega)
    refine EvP.step (G := fun k => spec_l5DrawStm.l0 k cols (cols.length : Int) ((i + 1 : Nat) : Int) code a' s' 2 table (vals ++ [(⟨y, n, t⟩ : Val)]) (⟨#[]⟩ : ByteArray)) (fun k => by
      rw [spec_l5DrawStm.l0, if_pos (by omega), if_pos (by omega), if_pos (by omega), e, Option.bind_some, Option.bind_some, if_pos (by simp; omega), wsucc i (by omega)]) ?_
    refine (ih (i + 1) _ a' s' (b + 2) (by omega) (by simp; omega) (fun v hm => ?_) hc' (by omega)).mono fun r h => h.mono (by omega)
    rcases List.mem_append.1 hm with hm | hm
    · exact hk v hm
    · obtain rfl := List.mem_singleton.1 hm
      exact hval
theorem outs_ok {code : List Int} (hC : CodeOk code) {cols : List Col} (hcols : ColsOk cols) {table : ByteArray} (ht : nameKw table = true) {wh : List Itm} (hw : WhG wh) (n : Nat) (hn : 1 ≤ n ∧ n ≤ 3) (d : Nat) :
    ∀ (i : Nat) (outs : List (List Itm)) (a s b : Int), i + d = n → outs.length = i → (∀ v ∈ outs, ExpQ 15 v) → Cu b a s → b + 136 * (d : Int) ≤ 600000000000 →
    EvP (fun k => spec_l5DrawStm.l1 k cols wh (n : Int) (i : Int) code a s 5 table (⟨#[]⟩ : ByteArray) outs) (StG 4 (b + 136 * (d : Int) + 20)) := by
  induction d with
  | zero =>
    intro i outs a s b hi hv hk hc hb
    refine EvP.step (fun k => by rw [spec_l5DrawStm.l1, if_neg (by omega)]) ?_
    exact (j5_ok hC ⟨ht, .inr (.inr (.inr (.inr ⟨rfl, rfl, rfl, rfl, rfl, hw, by omega, by omega, hk⟩)))⟩ hc (by omega)).mono fun r h => h.mono (by omega)
  | succ d ih =>
    intro i outs a s b hi hv hk hc hb
    obtain ⟨q, a', s', e, q0, q1, hc'⟩ := pick_ok hC 2 (by decide) (by decide) hc (by omega)
    refine EvP.step (fun k => by rw [spec_l5DrawStm.l1, if_pos (by omega), e, Option.bind_some]) ?_
    refine (exp_ok hC hcols (wrap64 (1 + q)) a' s' (b + 2) hc' (by omega)).bind fun r hr => ?_
    simp only [Option.bind_some]
    refine EvP.pos (by simp; omega) ?_
    refine EvP.congr (fun k => by rw [wsucc i (by omega)]) ?_
    refine (ih (i + 1) _ _ _ (b + 136) (by omega) (by simp; omega) (fun v hm => ?_) (hr.2.mono (by omega)) (by omega)).mono fun r h => h.mono (by omega)
    rcases List.mem_append.1 hm with hm | hm
    · exact hk v hm
    · obtain rfl := List.mem_singleton.1 hm
      exact hr.1
theorem j2_ok {code : List Int} (hC : CodeOk code) {cols : List Col} (hcols : ColsOk cols) {table : ByteArray} (ht : nameKw table = true) {wh : List Itm} (hw : WhG wh) (how : Int) (flag : Bool) {a s b : Int} (hc : Cu b a s) (hb : b ≤ 500000000000) :
    EvP (fun k => spec_l5DrawStm.j2 k cols how wh flag code a s 0 table (⟨#[]⟩ : ByteArray)) (StG 4 (b + 500)) := by
  have hl := hcols.1
  have hl2 := hcols.2.1
  cases flag with
  | true =>
    refine EvP.step (fun k => by rw [spec_l5DrawStm.j2, if_pos rfl]) ?_
    exact (j5_ok hC ⟨ht, .inl ⟨rfl, rfl, rfl, rfl, rfl, rfl, hl, hl2, hcols.2.2⟩⟩ hc (by omega)).mono fun r h => h.mono (by omega)
  | false =>
    refine EvP.step (fun k => by rw [spec_l5DrawStm.j2, if_neg ff]) ?_
    by_cases c1 : how ≤ 6
    · simp only [if_pos c1]
      exact (dvals_ok hC hcols ht cols.length 0 [] a s b (by omega) rfl (fun v hm => by cases hm) hc (by omega)).mono fun r h => h.mono (by omega)
    · simp only [if_neg c1]
      by_cases c2 : how ≤ 8
      · simp only [if_pos c2]
        obtain ⟨q, a', s', e, q0, q1, hc'⟩ := pick_ok hC (cols.length : Int) (by omega) (by omega) hc (by omega)
        simp only [e, Option.bind_some, if_pos q0, if_pos q1]
        have hm := hcols.2.2 _ (rdCol_mem cols q q0 q1)
        refine (exp_ok hC hcols _ a' s' (b + 2) hc' (by omega)).bind fun r hr => ?_
        exact (j5_ok hC ⟨ht, .inr (.inr (.inl ⟨rfl, rfl, rfl, rfl, colOk_name hm, hr.1, hw⟩))⟩ hr.2 (by omega)).mono fun r h => h.mono (by omega)
      · simp only [if_neg c2]
        by_cases c3 : how = 9
        · simp only [if_pos c3]
          exact (j5_ok hC ⟨ht, .inr (.inr (.inr (.inl ⟨rfl, rfl, rfl, rfl, rfl, rfl, hw⟩)))⟩ hc (by omega)).mono fun r h => h.mono (by omega)
        · simp only [if_neg c3]
          obtain ⟨q, a', s', e, q0, q1, hc'⟩ := pick_ok hC 3 (by decide) (by decide) hc (by omega)
          simp only [e, Option.bind_some]
          have hw1 : wrap64 (1 + q) = ((1 + q.toNat : Nat) : Int) := by rw [w64 _ (by omega)]; omega
          rw [hw1]
          exact (outs_ok hC hcols ht hw (1 + q.toNat) (by omega) (1 + q.toNat) 0 [] a' s' (b + 2) (by omega) rfl (fun v hm => by cases hm) hc' (by omega)).mono fun r h => h.mono (by omega)
theorem j1_ok {code : List Int} (hC : CodeOk code) {cols : List Col} (hcols : ColsOk cols) {table : ByteArray} (ht : nameKw table = true) {wh : List Itm} (hw : WhG wh) (how : Int) {a s b : Int} (hc : Cu b a s) (hb : b ≤ 400000000000) :
    EvP (fun k => spec_l5DrawStm.j1 k cols how wh code a s 0 table (⟨#[]⟩ : ByteArray)) (StG 4 (b + 510)) := by
  obtain ⟨q, a', s', e, q0, q1, hc'⟩ := pick_ok hC 3 (by decide) (by decide) hc (by omega)
  by_cases c : how = 0
  · refine EvP.step (fun k => by rw [spec_l5DrawStm.j1, if_pos c, e, Option.bind_some]) ?_
    exact (j2_ok hC hcols ht hw how _ hc' (by omega)).mono fun r h => h.mono (by omega)
  · refine EvP.step (fun k => by rw [spec_l5DrawStm.j1, if_neg c]) ?_
    exact (j2_ok hC hcols ht hw how _ hc (by omega)).mono fun r h => h.mono (by omega)
theorem j0_ok {code : List Int} (hC : CodeOk code) {cols : List Col} (hcols : ColsOk cols) {table : ByteArray} (ht : nameKw table = true) (how : Int) (flag : Bool) {a s b : Int} (hc : Cu b a s) (hb : b ≤ 300000000000) :
    EvP (fun k => spec_l5DrawStm.j0 k cols how [] flag code a s 0 table (⟨#[]⟩ : ByteArray)) (StG 4 (b + 700)) := by
  cases flag with
  | true =>
    refine EvP.step (fun k => by rw [spec_l5DrawStm.j0, if_pos rfl]) ?_
    refine (exp_ok hC hcols 1 a s b hc (by omega)).bind fun r hr => ?_
    exact (j1_ok hC hcols ht (.inr hr.1) how hr.2 (by omega)).mono fun r h => h.mono (by omega)
  | false =>
    refine EvP.step (fun k => by rw [spec_l5DrawStm.j0, if_neg ff]) ?_
    exact (j1_ok hC hcols ht (.inl rfl) how hc (by omega)).mono fun r h => h.mono (by omega)
/-- A statement drawn. -/
theorem stm_ok {code : List Int} (hC : CodeOk code) {a s b : Int} (hc : Cu b a s) (hb : b ≤ 200000000000) : EvP (fun k => spec_l5DrawStm.f k code a s) (StG 4 (b + 1000)) := by
  unfold spec_l5DrawStm.f
  obtain ⟨t, a1, s1, e1, ht, hc1⟩ := name_ok hC hc (by omega)
  obtain ⟨cols, e2, hcols⟩ := usual_ok t
  obtain ⟨q, a3, s3, e3, q0, q1, hc3⟩ := pick_ok hC 12 (by decide) (by decide) hc1 (by omega)
  obtain ⟨p, a4, s4, e4, p0, p1, hc4⟩ := pick_ok hC 4 (by decide) (by decide) hc3 (by omega)
  simp only [e1, e2, e3, Option.bind_some]
  by_cases c : q > 6
  · simp only [if_pos c, e4, Option.bind_some]
    exact (j0_ok hC hcols ht q _ hc4 (by omega)).mono fun r h => h.mono (by omega)
  · simp only [if_neg c]
    exact (j0_ok hC hcols ht q _ hc3 (by omega)).mono fun r h => h.mono (by omega)
end Go.Proofs.Ytoebfjfhdodakaa.Pure
end
