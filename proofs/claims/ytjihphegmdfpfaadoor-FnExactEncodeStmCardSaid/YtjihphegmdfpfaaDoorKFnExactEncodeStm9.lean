/- The texts that the proof of the law FnExactEncodeStm rests on, part 9: printed functions with their contracts, words, plain laws; the last part ends in the statement itself. No condition but those that each theorem states. -/
import Derived.Test.YtjihphegmdfpfaaDoorKFnExactEncodeStm8
set_option linter.unusedVariables false
set_option linter.unusedSimpArgs false
section
namespace Go.Proofs.YtjihphegmdfpfaaDoor.L
open Go.RowKit Go.Proofs.YtjihphegmdfpfaaDoorW.PrintWords Go.Proofs.YtjihphegmdfpfaaDoorW.PrintLast Go.Proofs.YtjihphegmdfpfaaDoorW.PrintMore
attribute [local go_sem] max2_int min2_int max_two min_two max_three min_three max_four min_four
set_option linter.unusedVariables false
set_option linter.unusedSimpArgs false
def laws_eqStm.f (k : Nat) (a0_0 : Int) (a0_1 : ByteArray) (l0_2 : List (S51)) (l0_3 : List (S53)) (a0_4 : ByteArray) (l0_5 : List (S88)) (l0_6 : List (S88)) (l0_7 : List (List (S88))) (a1_0 : Int) (a1_1 : ByteArray) (l1_2 : List (S51)) (l1_3 : List (S53)) (a1_4 : ByteArray) (l1_5 : List (S88)) (l1_6 : List (S88)) (l1_7 : List (List (S88))) : Option (Bool) := if a0_0 = a1_0 then (if a0_1.toList = a1_1.toList then ((laws_eqColumnS.f k l0_2 l1_2).bind fun t337 => (if t337 = true then ((laws_eqValueS.f k l0_3 l1_3).bind fun t338 => (if t338 = true then (if a0_4.toList = a1_4.toList then ((laws_eqItemS.f k l0_5 l1_5).bind fun t339 => (if t339 = true then ((laws_eqItemS.f k l0_6 l1_6).bind fun t340 => (if t340 = true then ((laws_eqItemSS.f k l0_7 l1_7).bind fun t341 => (if t341 = true then (some true) else (some false))) else (some false))) else (some false))) else (some false)) else (some false))) else (some false))) else (some false)) else (some false)
theorem laws_eqStm.mono : ∀ a0 a1 a2 a3 a4 a5 a6 a7 a8 a9 a10 a11 a12 a13 a14 a15 k, LeO (laws_eqStm.f k a0 a1 a2 a3 a4 a5 a6 a7 a8 a9 a10 a11 a12 a13 a14 a15) (laws_eqStm.f (k + 1) a0 a1 a2 a3 a4 a5 a6 a7 a8 a9 a10 a11 a12 a13 a14 a15) := by
  intro a0 a1 a2 a3 a4 a5 a6 a7 a8 a9 a10 a11 a12 a13 a14 a15 k
  unfold laws_eqStm.f
  repeat' first
      | (with_reducible exact laws_eqColumnS.mono _ _ _)
      | (with_reducible exact laws_eqItemS.mono _ _ _)
      | (with_reducible exact laws_eqItemSS.mono _ _ _)
      | (with_reducible exact laws_eqValueS.mono _ _ _)
      | (with_reducible exact LeO.refl _)
      | (with_reducible exact LeO.none _)
      | (with_reducible refine LeO.ite ?_ ?_)
      | (with_reducible refine LeO.bind ?_ (fun _ => ?_))
      | exact laws_eqColumnS.mono _ _ _
      | exact laws_eqItemS.mono _ _ _
      | exact laws_eqItemSS.mono _ _ _
      | exact laws_eqValueS.mono _ _ _
      | exact LeO.none _
      | refine LeO.ite ?_ ?_
      | refine LeO.bind ?_ (fun _ => ?_)
set_option maxHeartbeats 8000000 in
set_option maxRecDepth 100000 in
theorem laws_eqStm.calls (k : Nat) (a0_0 : Int) (a0_1 : ByteArray) (A0_2 : Option Addr) (c0_2 : Nat) (l0_2 : List (S51)) (A0_3 : Option Addr) (c0_3 : Nat) (l0_3 : List (S53)) (a0_4 : ByteArray) (A0_5 : Option Addr) (c0_5 : Nat) (l0_5 : List (S88)) (A0_6 : Option Addr) (c0_6 : Nat) (l0_6 : List (S88)) (A0_7 : Option Addr) (c0_7 : Nat) (l0_7 : List (List (S88))) (a1_0 : Int) (a1_1 : ByteArray) (A1_2 : Option Addr) (c1_2 : Nat) (l1_2 : List (S51)) (A1_3 : Option Addr) (c1_3 : Nat) (l1_3 : List (S53)) (a1_4 : ByteArray) (A1_5 : Option Addr) (c1_5 : Nat) (l1_5 : List (S88)) (A1_6 : Option Addr) (c1_6 : Nat) (l1_6 : List (S88)) (A1_7 : Option Addr) (c1_7 : Nat) (l1_7 : List (List (S88))) (r : Bool) (w : World) (hr0_2 : Kd.C k51 w A0_2 l0_2.length l0_2) (hc0_2 : l0_2.length ≤ c0_2) (hr0_3 : Kd.C k53 w A0_3 l0_3.length l0_3) (hc0_3 : l0_3.length ≤ c0_3) (hr0_5 : Kd.C k88 w A0_5 l0_5.length l0_5) (hc0_5 : l0_5.length ≤ c0_5) (hr0_6 : Kd.C k88 w A0_6 l0_6.length l0_6) (hc0_6 : l0_6.length ≤ c0_6) (hr0_7 : Kd.C (Kd.slice 88 k88) w A0_7 l0_7.length l0_7) (hc0_7 : l0_7.length ≤ c0_7) (hr1_2 : Kd.C k51 w A1_2 l1_2.length l1_2) (hc1_2 : l1_2.length ≤ c1_2) (hr1_3 : Kd.C k53 w A1_3 l1_3.length l1_3) (hc1_3 : l1_3.length ≤ c1_3) (hr1_5 : Kd.C k88 w A1_5 l1_5.length l1_5) (hc1_5 : l1_5.length ≤ c1_5) (hr1_6 : Kd.C k88 w A1_6 l1_6.length l1_6) (hc1_6 : l1_6.length ≤ c1_6) (hr1_7 : Kd.C (Kd.slice 88 k88) w A1_7 l1_7.length l1_7) (hc1_7 : l1_7.length ≤ c1_7) (h : laws_eqStm.f k a0_0 a0_1 l0_2 l0_3 a0_4 l0_5 l0_6 l0_7 a1_0 a1_1 l1_2 l1_3 a1_4 l1_5 l1_6 l1_7 = some r) :
    Calls Tryd.prog 9 #[.agg #[.int .i64 a0_0, .string a0_1, .slice A0_2 l0_2.length c0_2, .slice A0_3 l0_3.length c0_3, .string a0_4, .slice A0_5 l0_5.length c0_5, .slice A0_6 l0_6.length c0_6, .slice A0_7 l0_7.length c0_7], .agg #[.int .i64 a1_0, .string a1_1, .slice A1_2 l1_2.length c1_2, .slice A1_3 l1_3.length c1_3, .string a1_4, .slice A1_5 l1_5.length c1_5, .slice A1_6 l1_6.length c1_6, .slice A1_7 l1_7.length c1_7]] w fun e w' => e = .returned (.bool r) ∧ Below w.heap.size w w' := by
  have hu35 := Tryd.underlying35; have HR0_2 := Aside0.mk hr0_2; have HC0_2 := Aside0.mk hc0_2; clear hr0_2 hc0_2; have HR0_3 := Aside0.mk hr0_3; have HC0_3 := Aside0.mk hc0_3; clear hr0_3 hc0_3; have HR0_5 := Aside0.mk hr0_5; have HC0_5 := Aside0.mk hc0_5; clear hr0_5 hc0_5; have HR0_6 := Aside0.mk hr0_6; have HC0_6 := Aside0.mk hc0_6; clear hr0_6 hc0_6; have HR0_7 := Aside0.mk hr0_7; have HC0_7 := Aside0.mk hc0_7; clear hr0_7 hc0_7; have HR1_2 := Aside0.mk hr1_2; have HC1_2 := Aside0.mk hc1_2; clear hr1_2 hc1_2; have HR1_3 := Aside0.mk hr1_3; have HC1_3 := Aside0.mk hc1_3; clear hr1_3 hc1_3; have HR1_5 := Aside0.mk hr1_5; have HC1_5 := Aside0.mk hc1_5; clear hr1_5 hc1_5; have HR1_6 := Aside0.mk hr1_6; have HC1_6 := Aside0.mk hc1_6; clear hr1_6 hc1_6; have HR1_7 := Aside0.mk hr1_7; have HC1_7 := Aside0.mk hc1_7; clear hr1_7 hc1_7; have HB := Aside0.mk (Below.refl w.heap.size w); have H : (if a0_0 = a1_0 then (if a0_1.toList = a1_1.toList then ((laws_eqColumnS.f k l0_2 l1_2).bind fun t337 => (if t337 = true then ((laws_eqValueS.f k l0_3 l1_3).bind fun t338 => (if t338 = true then (if a0_4.toList = a1_4.toList then ((laws_eqItemS.f k l0_5 l1_5).bind fun t339 => (if t339 = true then ((laws_eqItemS.f k l0_6 l1_6).bind fun t340 => (if t340 = true then ((laws_eqItemSS.f k l0_7 l1_7).bind fun t341 => (if t341 = true then (some true) else (some false))) else (some false))) else (some false))) else (some false)) else (some false))) else (some false))) else (some false)) else (some false)) = some r := h; clear h; by_cases c3 : a0_0 = a1_0
  · rw [if_pos c3] at H; have c3b0 : (a0_0 == a1_0) = true := beq_iff_eq.mpr c3; have c3b1 : (a0_0 != a1_0) = false := bne_eq_false_iff_eq.mpr c3; clear c3; by_cases c4 : a0_1.toList = a1_1.toList
    · rw [if_pos c4] at H; have c4b0 : (a0_1.toList == a1_1.toList) = true := beq_iff_eq.mpr c4; have c4b1 : (a0_1.toList != a1_1.toList) = false := bne_eq_false_iff_eq.mpr c4; clear c4; replace H := Option.bind_eq_some_iff.mp H; obtain ⟨t337, A50, H⟩ := H; replace H : (if t337 = true then ((laws_eqValueS.f k l0_3 l1_3).bind fun t338 => (if t338 = true then (if a0_4.toList = a1_4.toList then ((laws_eqItemS.f k l0_5 l1_5).bind fun t339 => (if t339 = true then ((laws_eqItemS.f k l0_6 l1_6).bind fun t340 => (if t340 = true then ((laws_eqItemSS.f k l0_7 l1_7).bind fun t341 => (if t341 = true then (some true) else (some false))) else (some false))) else (some false))) else (some false)) else (some false))) else (some false)) = some r := H; have A5 := Aside0.mk A50; clear A50; by_cases c6 : t337 = true
      · subst c6; (have H1 : ((laws_eqValueS.f k l0_3 l1_3).bind fun t338 => (if t338 = true then (if a0_4.toList = a1_4.toList then ((laws_eqItemS.f k l0_5 l1_5).bind fun t339 => (if t339 = true then ((laws_eqItemS.f k l0_6 l1_6).bind fun t340 => (if t340 = true then ((laws_eqItemSS.f k l0_7 l1_7).bind fun t341 => (if t341 = true then (some true) else (some false))) else (some false))) else (some false))) else (some false)) else (some false))) = some r := by rw [if_pos rfl] at H; exact H); clear H; have H := H1; clear H1; replace H := Option.bind_eq_some_iff.mp H; obtain ⟨t338, A70, H⟩ := H; replace H : (if t338 = true then (if a0_4.toList = a1_4.toList then ((laws_eqItemS.f k l0_5 l1_5).bind fun t339 => (if t339 = true then ((laws_eqItemS.f k l0_6 l1_6).bind fun t340 => (if t340 = true then ((laws_eqItemSS.f k l0_7 l1_7).bind fun t341 => (if t341 = true then (some true) else (some false))) else (some false))) else (some false))) else (some false)) else (some false)) = some r := H; have A7 := Aside0.mk A70; clear A70; by_cases c8 : t338 = true
        · subst c8; (have H1 : (if a0_4.toList = a1_4.toList then ((laws_eqItemS.f k l0_5 l1_5).bind fun t339 => (if t339 = true then ((laws_eqItemS.f k l0_6 l1_6).bind fun t340 => (if t340 = true then ((laws_eqItemSS.f k l0_7 l1_7).bind fun t341 => (if t341 = true then (some true) else (some false))) else (some false))) else (some false))) else (some false)) = some r := by rw [if_pos rfl] at H; exact H); clear H; have H := H1; clear H1; by_cases c9 : a0_4.toList = a1_4.toList
          · rw [if_pos c9] at H; have c9b0 : (a0_4.toList == a1_4.toList) = true := beq_iff_eq.mpr c9; have c9b1 : (a0_4.toList != a1_4.toList) = false := bne_eq_false_iff_eq.mpr c9; clear c9; replace H := Option.bind_eq_some_iff.mp H; obtain ⟨t339, A100, H⟩ := H; replace H : (if t339 = true then ((laws_eqItemS.f k l0_6 l1_6).bind fun t340 => (if t340 = true then ((laws_eqItemSS.f k l0_7 l1_7).bind fun t341 => (if t341 = true then (some true) else (some false))) else (some false))) else (some false)) = some r := H; have A10 := Aside0.mk A100; clear A100; by_cases c11 : t339 = true
            · subst c11; (have H1 : ((laws_eqItemS.f k l0_6 l1_6).bind fun t340 => (if t340 = true then ((laws_eqItemSS.f k l0_7 l1_7).bind fun t341 => (if t341 = true then (some true) else (some false))) else (some false))) = some r := by rw [if_pos rfl] at H; exact H); clear H; have H := H1; clear H1; replace H := Option.bind_eq_some_iff.mp H; obtain ⟨t340, A120, H⟩ := H; replace H : (if t340 = true then ((laws_eqItemSS.f k l0_7 l1_7).bind fun t341 => (if t341 = true then (some true) else (some false))) else (some false)) = some r := H; have A12 := Aside0.mk A120; clear A120; by_cases c13 : t340 = true
              · subst c13; (have H1 : ((laws_eqItemSS.f k l0_7 l1_7).bind fun t341 => (if t341 = true then (some true) else (some false))) = some r := by rw [if_pos rfl] at H; exact H); clear H; have H := H1; clear H1; replace H := Option.bind_eq_some_iff.mp H; obtain ⟨t341, A140, H⟩ := H; replace H : (if t341 = true then (some true) else (some false)) = some r := H; have A14 := Aside0.mk A140; clear A140; by_cases c15 : t341 = true
                · subst c15; (have H1 : (some true) = some r := by rw [if_pos rfl] at H; exact H); clear H; have H := H1; clear H1; obtain rfl := Option.some.inj H; go_enter Tryd.func9, Tryd.ntmps9; go_wp2_with (first | ((with_reducible refine gds (N := 2) rfl ?_); refine bxe ?hg (N := 2) ?hd (cs := #[.int .i64 a0_0, .string a0_1, .slice A0_2 l0_2.length c0_2, .slice A0_3 l0_3.length c0_3, .string a0_4, .slice A0_5 l0_5.length c0_5, .slice A0_6 l0_6.length c0_6, .slice A0_7 l0_7.length c0_7]) (t := 35) ?hr ?_; (case hd => rfl); (case hg => rfl); (case hr => first | (go_simp; done) | (go_simp; rfl)); intro gb335 hg w16 hbox hb; have n0_ := Aside0.mk (bst (by repeat (first | (with_reducible first | exact HB.out | apply bal | apply pbd | apply bd1) | exact HB.out)) hb); have n1_ := Aside0.mk (hbox); have n2_ := Aside0.mk ((by rw [hg]; exact (bsz (by repeat (first | (with_reducible first | exact HB.out | apply bal | apply pbd | apply bd1) | exact HB.out))) : w.heap.size ≤ gb335)); have n3_ := Aside0.mk ((by rw [hg]; exact (bsz (by repeat (first | (with_reducible first | exact HB.out | apply bal | apply pbd | apply bd1) | exact HB.out))) : w.heap.size ≤ gb335)); replace HB := n0_; have BK335 := n1_; have GW335 := n2_; have GE335 := n3_; clear n0_ n1_ n2_ n3_; clear hb hbox hg) | ((with_reducible refine gds (N := 3) rfl ?_); refine bxe ?hg (N := 3) ?hd (cs := #[.int .i64 a1_0, .string a1_1, .slice A1_2 l1_2.length c1_2, .slice A1_3 l1_3.length c1_3, .string a1_4, .slice A1_5 l1_5.length c1_5, .slice A1_6 l1_6.length c1_6, .slice A1_7 l1_7.length c1_7]) (t := 35) ?hr ?_; (case hd => rfl); (case hg => rfl); (case hr => first | (go_simp; done) | (go_simp; rfl)); intro gb336 hg w17 hbox hb; have n0_ := Aside0.mk (bbe (g := gb335) (o := .cells #[.int .i64 a0_0, .string a0_1, .slice A0_2 l0_2.length c0_2, .slice A0_3 l0_3.length c0_3, .string a0_4, .slice A0_5 l0_5.length c0_5, .slice A0_6 l0_6.length c0_6, .slice A0_7 l0_7.length c0_7] 35 (0, 0)) (by (with_reducible repeat (first | refine bdN ?_ _ | refine bkD ?_ | refine bkA ?_ _)); exact BK335.out) hb); have n1_ := Aside0.mk (bst (by repeat (first | (with_reducible first | exact HB.out | apply bal | apply pbd | apply bd1 | refine bse ?_ GE335.out) | exact HB.out)) hb); have n2_ := Aside0.mk (hbox); have n3_ := Aside0.mk ((by rw [hg]; exact (bsz (by repeat (first | (with_reducible first | exact HB.out | apply bal | apply pbd | apply bd1 | refine bse ?_ GE335.out) | exact HB.out))) : w.heap.size ≤ gb336)); have n4_ := Aside0.mk ((by rw [hg]; exact (bsz (by repeat (first | (with_reducible first | exact HB.out | apply bal | apply pbd | apply bd1 | refine bse ?_ GE335.out) | exact HB.out))) : w.heap.size ≤ gb336)); have n5_ := Aside0.mk ((by rw [hg]; exact Nat.ne_of_lt (blt (g := gb335) (o := .cells #[.int .i64 a0_0, .string a0_1, .slice A0_2 l0_2.length c0_2, .slice A0_3 l0_3.length c0_3, .string a0_4, .slice A0_5 l0_5.length c0_5, .slice A0_6 l0_6.length c0_6, .slice A0_7 l0_7.length c0_7] 35 (0, 0)) (by (with_reducible repeat (first | refine bdN ?_ _ | refine bkD ?_ | refine bkA ?_ _)); exact BK335.out)) : gb335 ≠ gb336)); have n6_ := Aside0.mk ((by rw [hg]; exact Nat.ne_of_gt (blt (g := gb335) (o := .cells #[.int .i64 a0_0, .string a0_1, .slice A0_2 l0_2.length c0_2, .slice A0_3 l0_3.length c0_3, .string a0_4, .slice A0_5 l0_5.length c0_5, .slice A0_6 l0_6.length c0_6, .slice A0_7 l0_7.length c0_7] 35 (0, 0)) (by (with_reducible repeat (first | refine bdN ?_ _ | refine bkD ?_ | refine bkA ?_ _)); exact BK335.out)) : gb336 ≠ gb335)); replace BK335 := n0_; replace HB := n1_; have BK336 := n2_; have GW336 := n3_; have GE336 := n4_; have NB335_336 := n5_; have NB336_335 := n6_; clear n0_ n1_ n2_ n3_ n4_ n5_ n6_; clear hb hbox hg; have hnb18 := NB335_336.out; have hnc18 := NB336_335.out; obtain ⟨hcz19_0, hcz19_1, hcz19_2, hcz19_3, hcz19_4, hcz19_5, hcz19_6, hcz19_7⟩ := zC8 BK335.out; obtain ⟨hfz19_0, hfz19_1, hfz19_2, hfz19_3, hfz19_4, hfz19_5, hfz19_6, hfz19_7⟩ := zF8 BK335.out; obtain ⟨hcz20_0, hcz20_1, hcz20_2, hcz20_3, hcz20_4, hcz20_5, hcz20_6, hcz20_7⟩ := zC8 BK336.out; obtain ⟨hfz20_0, hfz20_1, hfz20_2, hfz20_3, hfz20_4, hfz20_5, hfz20_6⟩ := zF7 BK336.out; have hfz20_7 := bfz BK336.out 7) | ((with_reducible refine gcl (f := 33) rfl ?_); refine goesL_ (some 19) rfl rfl Tryd.func33 (by kernel_rfl) rfl #[.slice A0_2 l0_2.length c0_2, .slice A1_2 l1_2.length c1_2] rfl (by (try simp only [List.map_toArray, List.map_cons, List.map_nil]); first | done | rfl | (simp only [List.length_drop, List.length_take]; rfl)) ?_; (with_reducible refine (laws_eqColumnS.calls k _ _ l0_2 _ _ l1_2 true _ ?side1 ?side2 ?side3 ?side4 A5.out).mono ?_); (case side1 => repeat (first | exact (Kd.Cbe HR0_2.out HB.out) | (with_reducible refine Kd.Cal ?_ _) | (with_reducible refine Kd.CdN ?_ _) | (with_reducible refine Kd.Cdr ?_))); (case side2 => exact HC0_2.out); (case side3 => repeat (first | exact (Kd.Cbe HR1_2.out HB.out) | (with_reducible refine Kd.Cal ?_ _) | (with_reducible refine Kd.CdN ?_ _) | (with_reducible refine Kd.Cdr ?_))); (case side4 => exact HC1_2.out); rintro e w21 ⟨rfl, hb⟩; refine ⟨_, rfl, ?_⟩; have n0_ := Aside0.mk (bbe (g := gb335) (o := .cells #[.int .i64 a0_0, .string a0_1, .slice A0_2 l0_2.length c0_2, .slice A0_3 l0_3.length c0_3, .string a0_4, .slice A0_5 l0_5.length c0_5, .slice A0_6 l0_6.length c0_6, .slice A0_7 l0_7.length c0_7] 35 (0, 0)) (by (with_reducible repeat (first | refine bdN ?_ _ | refine bkD ?_ | refine bkA ?_ _)); exact BK335.out) hb); have n1_ := Aside0.mk (bbe (g := gb336) (o := .cells #[.int .i64 a1_0, .string a1_1, .slice A1_2 l1_2.length c1_2, .slice A1_3 l1_3.length c1_3, .string a1_4, .slice A1_5 l1_5.length c1_5, .slice A1_6 l1_6.length c1_6, .slice A1_7 l1_7.length c1_7] 35 (0, 0)) (by (with_reducible repeat (first | refine bdN ?_ _ | refine bkD ?_ | refine bkA ?_ _)); exact BK336.out) hb); have n2_ := Aside0.mk (bst (by repeat (first | (with_reducible first | exact HB.out | apply bal | apply pbd | apply bd1 | refine bse ?_ GE335.out | refine bse ?_ GE336.out) | exact HB.out)) hb); replace BK335 := n0_; replace BK336 := n1_; replace HB := n2_; clear n0_ n1_ n2_; (try clear hb); (try clear hb2); (try clear hk); (try clear hi); obtain ⟨hcz22_0, hcz22_1, hcz22_2, hcz22_3, hcz22_4, hcz22_5, hcz22_6, hcz22_7⟩ := zC8 BK335.out; obtain ⟨hfz22_0, hfz22_1, hfz22_2, hfz22_3, hfz22_4, hfz22_5, hfz22_6, hfz22_7⟩ := zF8 BK335.out; obtain ⟨hcz23_0, hcz23_1, hcz23_2, hcz23_3, hcz23_4, hcz23_5, hcz23_6, hcz23_7⟩ := zC8 BK336.out; obtain ⟨hfz23_0, hfz23_1, hfz23_2, hfz23_3, hfz23_4, hfz23_5, hfz23_6⟩ := zF7 BK336.out; have hfz23_7 := bfz BK336.out 7) | ((with_reducible refine gcl (f := 34) rfl ?_); refine goesL_ (some 25) rfl rfl Tryd.func34 (by kernel_rfl) rfl #[.slice A0_3 l0_3.length c0_3, .slice A1_3 l1_3.length c1_3] rfl (by (try simp only [List.map_toArray, List.map_cons, List.map_nil]); first | done | rfl | (simp only [List.length_drop, List.length_take]; rfl)) ?_; (with_reducible refine (laws_eqValueS.calls k _ _ l0_3 _ _ l1_3 true _ ?side1 ?side2 ?side3 ?side4 A7.out).mono ?_); (case side1 => repeat (first | exact (Kd.Cbe HR0_3.out HB.out) | (with_reducible refine Kd.Cal ?_ _) | (with_reducible refine Kd.CdN ?_ _) | (with_reducible refine Kd.Cdr ?_))); (case side2 => exact HC0_3.out); (case side3 => repeat (first | exact (Kd.Cbe HR1_3.out HB.out) | (with_reducible refine Kd.Cal ?_ _) | (with_reducible refine Kd.CdN ?_ _) | (with_reducible refine Kd.Cdr ?_))); (case side4 => exact HC1_3.out); rintro e w24 ⟨rfl, hb⟩; refine ⟨_, rfl, ?_⟩; have n0_ := Aside0.mk (bbe (g := gb335) (o := .cells #[.int .i64 a0_0, .string a0_1, .slice A0_2 l0_2.length c0_2, .slice A0_3 l0_3.length c0_3, .string a0_4, .slice A0_5 l0_5.length c0_5, .slice A0_6 l0_6.length c0_6, .slice A0_7 l0_7.length c0_7] 35 (0, 0)) (by (with_reducible repeat (first | refine bdN ?_ _ | refine bkD ?_ | refine bkA ?_ _)); exact BK335.out) hb); have n1_ := Aside0.mk (bbe (g := gb336) (o := .cells #[.int .i64 a1_0, .string a1_1, .slice A1_2 l1_2.length c1_2, .slice A1_3 l1_3.length c1_3, .string a1_4, .slice A1_5 l1_5.length c1_5, .slice A1_6 l1_6.length c1_6, .slice A1_7 l1_7.length c1_7] 35 (0, 0)) (by (with_reducible repeat (first | refine bdN ?_ _ | refine bkD ?_ | refine bkA ?_ _)); exact BK336.out) hb); have n2_ := Aside0.mk (bst (by repeat (first | (with_reducible first | exact HB.out | apply bal | apply pbd | apply bd1 | refine bse ?_ GE335.out | refine bse ?_ GE336.out) | exact HB.out)) hb); replace BK335 := n0_; replace BK336 := n1_; replace HB := n2_; clear n0_ n1_ n2_; (try clear hb); (try clear hb2); (try clear hk); (try clear hi); obtain ⟨hcz25_0, hcz25_1, hcz25_2, hcz25_3, hcz25_4, hcz25_5, hcz25_6, hcz25_7⟩ := zC8 BK335.out; obtain ⟨hfz25_0, hfz25_1, hfz25_2, hfz25_3, hfz25_4, hfz25_5, hfz25_6, hfz25_7⟩ := zF8 BK335.out; obtain ⟨hcz26_0, hcz26_1, hcz26_2, hcz26_3, hcz26_4, hcz26_5, hcz26_6, hcz26_7⟩ := zC8 BK336.out; obtain ⟨hfz26_0, hfz26_1, hfz26_2, hfz26_3, hfz26_4, hfz26_5, hfz26_6⟩ := zF7 BK336.out; have hfz26_7 := bfz BK336.out 7) | ((with_reducible refine gcl (f := 35) rfl ?_); refine goesL_ (some 36) rfl rfl Tryd.func35 (by kernel_rfl) rfl #[.slice A0_5 l0_5.length c0_5, .slice A1_5 l1_5.length c1_5] rfl (by (try simp only [List.map_toArray, List.map_cons, List.map_nil]); first | done | rfl | (simp only [List.length_drop, List.length_take]; rfl)) ?_; (with_reducible refine (laws_eqItemS.calls k _ _ l0_5 _ _ l1_5 true _ ?side1 ?side2 ?side3 ?side4 A10.out).mono ?_); (case side1 => repeat (first | exact (Kd.Cbe HR0_5.out HB.out) | (with_reducible refine Kd.Cal ?_ _) | (with_reducible refine Kd.CdN ?_ _) | (with_reducible refine Kd.Cdr ?_))); (case side2 => exact HC0_5.out); (case side3 => repeat (first | exact (Kd.Cbe HR1_5.out HB.out) | (with_reducible refine Kd.Cal ?_ _) | (with_reducible refine Kd.CdN ?_ _) | (with_reducible refine Kd.Cdr ?_))); (case side4 => exact HC1_5.out); rintro e w27 ⟨rfl, hb⟩; refine ⟨_, rfl, ?_⟩; have n0_ := Aside0.mk (bbe (g := gb335) (o := .cells #[.int .i64 a0_0, .string a0_1, .slice A0_2 l0_2.length c0_2, .slice A0_3 l0_3.length c0_3, .string a0_4, .slice A0_5 l0_5.length c0_5, .slice A0_6 l0_6.length c0_6, .slice A0_7 l0_7.length c0_7] 35 (0, 0)) (by (with_reducible repeat (first | refine bdN ?_ _ | refine bkD ?_ | refine bkA ?_ _)); exact BK335.out) hb); have n1_ := Aside0.mk (bbe (g := gb336) (o := .cells #[.int .i64 a1_0, .string a1_1, .slice A1_2 l1_2.length c1_2, .slice A1_3 l1_3.length c1_3, .string a1_4, .slice A1_5 l1_5.length c1_5, .slice A1_6 l1_6.length c1_6, .slice A1_7 l1_7.length c1_7] 35 (0, 0)) (by (with_reducible repeat (first | refine bdN ?_ _ | refine bkD ?_ | refine bkA ?_ _)); exact BK336.out) hb); have n2_ := Aside0.mk (bst (by repeat (first | (with_reducible first | exact HB.out | apply bal | apply pbd | apply bd1 | refine bse ?_ GE335.out | refine bse ?_ GE336.out) | exact HB.out)) hb); replace BK335 := n0_; replace BK336 := n1_; replace HB := n2_; clear n0_ n1_ n2_; (try clear hb); (try clear hb2); (try clear hk); (try clear hi); obtain ⟨hcz28_0, hcz28_1, hcz28_2, hcz28_3, hcz28_4, hcz28_5, hcz28_6, hcz28_7⟩ := zC8 BK335.out; obtain ⟨hfz28_0, hfz28_1, hfz28_2, hfz28_3, hfz28_4, hfz28_5, hfz28_6, hfz28_7⟩ := zF8 BK335.out; obtain ⟨hcz29_0, hcz29_1, hcz29_2, hcz29_3, hcz29_4, hcz29_5, hcz29_6, hcz29_7⟩ := zC8 BK336.out; obtain ⟨hfz29_0, hfz29_1, hfz29_2, hfz29_3, hfz29_4, hfz29_5, hfz29_6⟩ := zF7 BK336.out; have hfz29_7 := bfz BK336.out 7) | ((with_reducible refine gcl (f := 35) rfl ?_); refine goesL_ (some 42) rfl rfl Tryd.func35 (by kernel_rfl) rfl #[.slice A0_6 l0_6.length c0_6, .slice A1_6 l1_6.length c1_6] rfl (by (try simp only [List.map_toArray, List.map_cons, List.map_nil]); first | done | rfl | (simp only [List.length_drop, List.length_take]; rfl)) ?_; (with_reducible refine (laws_eqItemS.calls k _ _ l0_6 _ _ l1_6 true _ ?side1 ?side2 ?side3 ?side4 A12.out).mono ?_); (case side1 => repeat (first | exact (Kd.Cbe HR0_6.out HB.out) | (with_reducible refine Kd.Cal ?_ _) | (with_reducible refine Kd.CdN ?_ _) | (with_reducible refine Kd.Cdr ?_))); (case side2 => exact HC0_6.out); (case side3 => repeat (first | exact (Kd.Cbe HR1_6.out HB.out) | (with_reducible refine Kd.Cal ?_ _) | (with_reducible refine Kd.CdN ?_ _) | (with_reducible refine Kd.Cdr ?_))); (case side4 => exact HC1_6.out); rintro e w30 ⟨rfl, hb⟩; refine ⟨_, rfl, ?_⟩; have n0_ := Aside0.mk (bbe (g := gb335) (o := .cells #[.int .i64 a0_0, .string a0_1, .slice A0_2 l0_2.length c0_2, .slice A0_3 l0_3.length c0_3, .string a0_4, .slice A0_5 l0_5.length c0_5, .slice A0_6 l0_6.length c0_6, .slice A0_7 l0_7.length c0_7] 35 (0, 0)) (by (with_reducible repeat (first | refine bdN ?_ _ | refine bkD ?_ | refine bkA ?_ _)); exact BK335.out) hb); have n1_ := Aside0.mk (bbe (g := gb336) (o := .cells #[.int .i64 a1_0, .string a1_1, .slice A1_2 l1_2.length c1_2, .slice A1_3 l1_3.length c1_3, .string a1_4, .slice A1_5 l1_5.length c1_5, .slice A1_6 l1_6.length c1_6, .slice A1_7 l1_7.length c1_7] 35 (0, 0)) (by (with_reducible repeat (first | refine bdN ?_ _ | refine bkD ?_ | refine bkA ?_ _)); exact BK336.out) hb); have n2_ := Aside0.mk (bst (by repeat (first | (with_reducible first | exact HB.out | apply bal | apply pbd | apply bd1 | refine bse ?_ GE335.out | refine bse ?_ GE336.out) | exact HB.out)) hb); replace BK335 := n0_; replace BK336 := n1_; replace HB := n2_; clear n0_ n1_ n2_; (try clear hb); (try clear hb2); (try clear hk); (try clear hi); obtain ⟨hcz31_0, hcz31_1, hcz31_2, hcz31_3, hcz31_4, hcz31_5, hcz31_6, hcz31_7⟩ := zC8 BK335.out; obtain ⟨hfz31_0, hfz31_1, hfz31_2, hfz31_3, hfz31_4, hfz31_5, hfz31_6, hfz31_7⟩ := zF8 BK335.out; obtain ⟨hcz32_0, hcz32_1, hcz32_2, hcz32_3, hcz32_4, hcz32_5, hcz32_6, hcz32_7⟩ := zC8 BK336.out; obtain ⟨hfz32_0, hfz32_1, hfz32_2, hfz32_3, hfz32_4, hfz32_5, hfz32_6⟩ := zF7 BK336.out; have hfz32_7 := bfz BK336.out 7) | ((with_reducible refine gcl (f := 36) rfl ?_); refine goesL_ (some 48) rfl rfl Tryd.func36 (by kernel_rfl) rfl #[.slice A0_7 l0_7.length c0_7, .slice A1_7 l1_7.length c1_7] rfl (by (try simp only [List.map_toArray, List.map_cons, List.map_nil]); first | done | rfl | (simp only [List.length_drop, List.length_take]; rfl)) ?_; (with_reducible refine (laws_eqItemSS.calls k _ _ l0_7 _ _ l1_7 true _ ?side1 ?side2 ?side3 ?side4 A14.out).mono ?_); (case side1 => repeat (first | exact (Kd.Cbe HR0_7.out HB.out) | (with_reducible refine Kd.Cal ?_ _) | (with_reducible refine Kd.CdN ?_ _) | (with_reducible refine Kd.Cdr ?_))); (case side2 => exact HC0_7.out); (case side3 => repeat (first | exact (Kd.Cbe HR1_7.out HB.out) | (with_reducible refine Kd.Cal ?_ _) | (with_reducible refine Kd.CdN ?_ _) | (with_reducible refine Kd.Cdr ?_))); (case side4 => exact HC1_7.out); rintro e w33 ⟨rfl, hb⟩; refine ⟨_, rfl, ?_⟩; have n0_ := Aside0.mk (bbe (g := gb335) (o := .cells #[.int .i64 a0_0, .string a0_1, .slice A0_2 l0_2.length c0_2, .slice A0_3 l0_3.length c0_3, .string a0_4, .slice A0_5 l0_5.length c0_5, .slice A0_6 l0_6.length c0_6, .slice A0_7 l0_7.length c0_7] 35 (0, 0)) (by (with_reducible repeat (first | refine bdN ?_ _ | refine bkD ?_ | refine bkA ?_ _)); exact BK335.out) hb); have n1_ := Aside0.mk (bbe (g := gb336) (o := .cells #[.int .i64 a1_0, .string a1_1, .slice A1_2 l1_2.length c1_2, .slice A1_3 l1_3.length c1_3, .string a1_4, .slice A1_5 l1_5.length c1_5, .slice A1_6 l1_6.length c1_6, .slice A1_7 l1_7.length c1_7] 35 (0, 0)) (by (with_reducible repeat (first | refine bdN ?_ _ | refine bkD ?_ | refine bkA ?_ _)); exact BK336.out) hb); have n2_ := Aside0.mk (bst (by repeat (first | (with_reducible first | exact HB.out | apply bal | apply pbd | apply bd1 | refine bse ?_ GE335.out | refine bse ?_ GE336.out) | exact HB.out)) hb); replace BK335 := n0_; replace BK336 := n1_; replace HB := n2_; clear n0_ n1_ n2_; (try clear hb); (try clear hb2); (try clear hk); (try clear hi))); go_ret; exact ⟨by first | rfl | (simp [eWn, eWs] <;> rfl) | (simp [*, eWn, eWs] <;> rfl), by repeat (first | (with_reducible first | exact HB.out | apply bal | apply pbd | apply bd1 | refine bse ?_ GE335.out | refine bse ?_ GE336.out) | exact HB.out)⟩
                · replace c15 := Bool.eq_false_iff.mpr c15; subst c15; (have H1 : (some false) = some r := by rw [if_neg (show ¬ (false = true) by decide)] at H; exact H); clear H; have H := H1; clear H1; obtain rfl := Option.some.inj H; go_enter Tryd.func9, Tryd.ntmps9; go_wp2_with (first | ((with_reducible refine gds (N := 2) rfl ?_); refine bxe ?hg (N := 2) ?hd (cs := #[.int .i64 a0_0, .string a0_1, .slice A0_2 l0_2.length c0_2, .slice A0_3 l0_3.length c0_3, .string a0_4, .slice A0_5 l0_5.length c0_5, .slice A0_6 l0_6.length c0_6, .slice A0_7 l0_7.length c0_7]) (t := 35) ?hr ?_; (case hd => rfl); (case hg => rfl); (case hr => first | (go_simp; done) | (go_simp; rfl)); intro gb335 hg w34 hbox hb; have n0_ := Aside0.mk (bst (by repeat (first | (with_reducible first | exact HB.out | apply bal | apply pbd | apply bd1) | exact HB.out)) hb); have n1_ := Aside0.mk (hbox); have n2_ := Aside0.mk ((by rw [hg]; exact (bsz (by repeat (first | (with_reducible first | exact HB.out | apply bal | apply pbd | apply bd1) | exact HB.out))) : w.heap.size ≤ gb335)); have n3_ := Aside0.mk ((by rw [hg]; exact (bsz (by repeat (first | (with_reducible first | exact HB.out | apply bal | apply pbd | apply bd1) | exact HB.out))) : w.heap.size ≤ gb335)); replace HB := n0_; have BK335 := n1_; have GW335 := n2_; have GE335 := n3_; clear n0_ n1_ n2_ n3_; clear hb hbox hg) | ((with_reducible refine gds (N := 3) rfl ?_); refine bxe ?hg (N := 3) ?hd (cs := #[.int .i64 a1_0, .string a1_1, .slice A1_2 l1_2.length c1_2, .slice A1_3 l1_3.length c1_3, .string a1_4, .slice A1_5 l1_5.length c1_5, .slice A1_6 l1_6.length c1_6, .slice A1_7 l1_7.length c1_7]) (t := 35) ?hr ?_; (case hd => rfl); (case hg => rfl); (case hr => first | (go_simp; done) | (go_simp; rfl)); intro gb336 hg w35 hbox hb; have n0_ := Aside0.mk (bbe (g := gb335) (o := .cells #[.int .i64 a0_0, .string a0_1, .slice A0_2 l0_2.length c0_2, .slice A0_3 l0_3.length c0_3, .string a0_4, .slice A0_5 l0_5.length c0_5, .slice A0_6 l0_6.length c0_6, .slice A0_7 l0_7.length c0_7] 35 (0, 0)) (by (with_reducible repeat (first | refine bdN ?_ _ | refine bkD ?_ | refine bkA ?_ _)); exact BK335.out) hb); have n1_ := Aside0.mk (bst (by repeat (first | (with_reducible first | exact HB.out | apply bal | apply pbd | apply bd1 | refine bse ?_ GE335.out) | exact HB.out)) hb); have n2_ := Aside0.mk (hbox); have n3_ := Aside0.mk ((by rw [hg]; exact (bsz (by repeat (first | (with_reducible first | exact HB.out | apply bal | apply pbd | apply bd1 | refine bse ?_ GE335.out) | exact HB.out))) : w.heap.size ≤ gb336)); have n4_ := Aside0.mk ((by rw [hg]; exact (bsz (by repeat (first | (with_reducible first | exact HB.out | apply bal | apply pbd | apply bd1 | refine bse ?_ GE335.out) | exact HB.out))) : w.heap.size ≤ gb336)); have n5_ := Aside0.mk ((by rw [hg]; exact Nat.ne_of_lt (blt (g := gb335) (o := .cells #[.int .i64 a0_0, .string a0_1, .slice A0_2 l0_2.length c0_2, .slice A0_3 l0_3.length c0_3, .string a0_4, .slice A0_5 l0_5.length c0_5, .slice A0_6 l0_6.length c0_6, .slice A0_7 l0_7.length c0_7] 35 (0, 0)) (by (with_reducible repeat (first | refine bdN ?_ _ | refine bkD ?_ | refine bkA ?_ _)); exact BK335.out)) : gb335 ≠ gb336)); have n6_ := Aside0.mk ((by rw [hg]; exact Nat.ne_of_gt (blt (g := gb335) (o := .cells #[.int .i64 a0_0, .string a0_1, .slice A0_2 l0_2.length c0_2, .slice A0_3 l0_3.length c0_3, .string a0_4, .slice A0_5 l0_5.length c0_5, .slice A0_6 l0_6.length c0_6, .slice A0_7 l0_7.length c0_7] 35 (0, 0)) (by (with_reducible repeat (first | refine bdN ?_ _ | refine bkD ?_ | refine bkA ?_ _)); exact BK335.out)) : gb336 ≠ gb335)); replace BK335 := n0_; replace HB := n1_; have BK336 := n2_; have GW336 := n3_; have GE336 := n4_; have NB335_336 := n5_; have NB336_335 := n6_; clear n0_ n1_ n2_ n3_ n4_ n5_ n6_; clear hb hbox hg; have hnb36 := NB335_336.out; have hnc36 := NB336_335.out; obtain ⟨hcz37_0, hcz37_1, hcz37_2, hcz37_3, hcz37_4, hcz37_5, hcz37_6, hcz37_7⟩ := zC8 BK335.out; obtain ⟨hfz37_0, hfz37_1, hfz37_2, hfz37_3, hfz37_4, hfz37_5, hfz37_6, hfz37_7⟩ := zF8 BK335.out; obtain ⟨hcz38_0, hcz38_1, hcz38_2, hcz38_3, hcz38_4, hcz38_5, hcz38_6, hcz38_7⟩ := zC8 BK336.out; obtain ⟨hfz38_0, hfz38_1, hfz38_2, hfz38_3, hfz38_4, hfz38_5, hfz38_6⟩ := zF7 BK336.out; have hfz38_7 := bfz BK336.out 7) | ((with_reducible refine gcl (f := 33) rfl ?_); refine goesL_ (some 19) rfl rfl Tryd.func33 (by kernel_rfl) rfl #[.slice A0_2 l0_2.length c0_2, .slice A1_2 l1_2.length c1_2] rfl (by (try simp only [List.map_toArray, List.map_cons, List.map_nil]); first | done | rfl | (simp only [List.length_drop, List.length_take]; rfl)) ?_; (with_reducible refine (laws_eqColumnS.calls k _ _ l0_2 _ _ l1_2 true _ ?side1 ?side2 ?side3 ?side4 A5.out).mono ?_); (case side1 => repeat (first | exact (Kd.Cbe HR0_2.out HB.out) | (with_reducible refine Kd.Cal ?_ _) | (with_reducible refine Kd.CdN ?_ _) | (with_reducible refine Kd.Cdr ?_))); (case side2 => exact HC0_2.out); (case side3 => repeat (first | exact (Kd.Cbe HR1_2.out HB.out) | (with_reducible refine Kd.Cal ?_ _) | (with_reducible refine Kd.CdN ?_ _) | (with_reducible refine Kd.Cdr ?_))); (case side4 => exact HC1_2.out); rintro e w39 ⟨rfl, hb⟩; refine ⟨_, rfl, ?_⟩; have n0_ := Aside0.mk (bbe (g := gb335) (o := .cells #[.int .i64 a0_0, .string a0_1, .slice A0_2 l0_2.length c0_2, .slice A0_3 l0_3.length c0_3, .string a0_4, .slice A0_5 l0_5.length c0_5, .slice A0_6 l0_6.length c0_6, .slice A0_7 l0_7.length c0_7] 35 (0, 0)) (by (with_reducible repeat (first | refine bdN ?_ _ | refine bkD ?_ | refine bkA ?_ _)); exact BK335.out) hb); have n1_ := Aside0.mk (bbe (g := gb336) (o := .cells #[.int .i64 a1_0, .string a1_1, .slice A1_2 l1_2.length c1_2, .slice A1_3 l1_3.length c1_3, .string a1_4, .slice A1_5 l1_5.length c1_5, .slice A1_6 l1_6.length c1_6, .slice A1_7 l1_7.length c1_7] 35 (0, 0)) (by (with_reducible repeat (first | refine bdN ?_ _ | refine bkD ?_ | refine bkA ?_ _)); exact BK336.out) hb); have n2_ := Aside0.mk (bst (by repeat (first | (with_reducible first | exact HB.out | apply bal | apply pbd | apply bd1 | refine bse ?_ GE335.out | refine bse ?_ GE336.out) | exact HB.out)) hb); replace BK335 := n0_; replace BK336 := n1_; replace HB := n2_; clear n0_ n1_ n2_; (try clear hb); (try clear hb2); (try clear hk); (try clear hi); obtain ⟨hcz40_0, hcz40_1, hcz40_2, hcz40_3, hcz40_4, hcz40_5, hcz40_6, hcz40_7⟩ := zC8 BK335.out; obtain ⟨hfz40_0, hfz40_1, hfz40_2, hfz40_3, hfz40_4, hfz40_5, hfz40_6, hfz40_7⟩ := zF8 BK335.out; obtain ⟨hcz41_0, hcz41_1, hcz41_2, hcz41_3, hcz41_4, hcz41_5, hcz41_6, hcz41_7⟩ := zC8 BK336.out; obtain ⟨hfz41_0, hfz41_1, hfz41_2, hfz41_3, hfz41_4, hfz41_5, hfz41_6⟩ := zF7 BK336.out; have hfz41_7 := bfz BK336.out 7) | ((with_reducible refine gcl (f := 34) rfl ?_); refine goesL_ (some 25) rfl rfl Tryd.func34 (by kernel_rfl) rfl #[.slice A0_3 l0_3.length c0_3, .slice A1_3 l1_3.length c1_3] rfl (by (try simp only [List.map_toArray, List.map_cons, List.map_nil]); first | done | rfl | (simp only [List.length_drop, List.length_take]; rfl)) ?_; (with_reducible refine (laws_eqValueS.calls k _ _ l0_3 _ _ l1_3 true _ ?side1 ?side2 ?side3 ?side4 A7.out).mono ?_); (case side1 => repeat (first | exact (Kd.Cbe HR0_3.out HB.out) | (with_reducible refine Kd.Cal ?_ _) | (with_reducible refine Kd.CdN ?_ _) | (with_reducible refine Kd.Cdr ?_))); (case side2 => exact HC0_3.out); (case side3 => repeat (first | exact (Kd.Cbe HR1_3.out HB.out) | (with_reducible refine Kd.Cal ?_ _) | (with_reducible refine Kd.CdN ?_ _) | (with_reducible refine Kd.Cdr ?_))); (case side4 => exact HC1_3.out); rintro e w42 ⟨rfl, hb⟩; refine ⟨_, rfl, ?_⟩; have n0_ := Aside0.mk (bbe (g := gb335) (o := .cells #[.int .i64 a0_0, .string a0_1, .slice A0_2 l0_2.length c0_2, .slice A0_3 l0_3.length c0_3, .string a0_4, .slice A0_5 l0_5.length c0_5, .slice A0_6 l0_6.length c0_6, .slice A0_7 l0_7.length c0_7] 35 (0, 0)) (by (with_reducible repeat (first | refine bdN ?_ _ | refine bkD ?_ | refine bkA ?_ _)); exact BK335.out) hb); have n1_ := Aside0.mk (bbe (g := gb336) (o := .cells #[.int .i64 a1_0, .string a1_1, .slice A1_2 l1_2.length c1_2, .slice A1_3 l1_3.length c1_3, .string a1_4, .slice A1_5 l1_5.length c1_5, .slice A1_6 l1_6.length c1_6, .slice A1_7 l1_7.length c1_7] 35 (0, 0)) (by (with_reducible repeat (first | refine bdN ?_ _ | refine bkD ?_ | refine bkA ?_ _)); exact BK336.out) hb); have n2_ := Aside0.mk (bst (by repeat (first | (with_reducible first | exact HB.out | apply bal | apply pbd | apply bd1 | refine bse ?_ GE335.out | refine bse ?_ GE336.out) | exact HB.out)) hb); replace BK335 := n0_; replace BK336 := n1_; replace HB := n2_; clear n0_ n1_ n2_; (try clear hb); (try clear hb2); (try clear hk); (try clear hi); obtain ⟨hcz43_0, hcz43_1, hcz43_2, hcz43_3, hcz43_4, hcz43_5, hcz43_6, hcz43_7⟩ := zC8 BK335.out; obtain ⟨hfz43_0, hfz43_1, hfz43_2, hfz43_3, hfz43_4, hfz43_5, hfz43_6, hfz43_7⟩ := zF8 BK335.out; obtain ⟨hcz44_0, hcz44_1, hcz44_2, hcz44_3, hcz44_4, hcz44_5, hcz44_6, hcz44_7⟩ := zC8 BK336.out; obtain ⟨hfz44_0, hfz44_1, hfz44_2, hfz44_3, hfz44_4, hfz44_5, hfz44_6⟩ := zF7 BK336.out; have hfz44_7 := bfz BK336.out 7) | ((with_reducible refine gcl (f := 35) rfl ?_); refine goesL_ (some 36) rfl rfl Tryd.func35 (by kernel_rfl) rfl #[.slice A0_5 l0_5.length c0_5, .slice A1_5 l1_5.length c1_5] rfl (by (try simp only [List.map_toArray, List.map_cons, List.map_nil]); first | done | rfl | (simp only [List.length_drop, List.length_take]; rfl)) ?_; (with_reducible refine (laws_eqItemS.calls k _ _ l0_5 _ _ l1_5 true _ ?side1 ?side2 ?side3 ?side4 A10.out).mono ?_); (case side1 => repeat (first | exact (Kd.Cbe HR0_5.out HB.out) | (with_reducible refine Kd.Cal ?_ _) | (with_reducible refine Kd.CdN ?_ _) | (with_reducible refine Kd.Cdr ?_))); (case side2 => exact HC0_5.out); (case side3 => repeat (first | exact (Kd.Cbe HR1_5.out HB.out) | (with_reducible refine Kd.Cal ?_ _) | (with_reducible refine Kd.CdN ?_ _) | (with_reducible refine Kd.Cdr ?_))); (case side4 => exact HC1_5.out); rintro e w45 ⟨rfl, hb⟩; refine ⟨_, rfl, ?_⟩; have n0_ := Aside0.mk (bbe (g := gb335) (o := .cells #[.int .i64 a0_0, .string a0_1, .slice A0_2 l0_2.length c0_2, .slice A0_3 l0_3.length c0_3, .string a0_4, .slice A0_5 l0_5.length c0_5, .slice A0_6 l0_6.length c0_6, .slice A0_7 l0_7.length c0_7] 35 (0, 0)) (by (with_reducible repeat (first | refine bdN ?_ _ | refine bkD ?_ | refine bkA ?_ _)); exact BK335.out) hb); have n1_ := Aside0.mk (bbe (g := gb336) (o := .cells #[.int .i64 a1_0, .string a1_1, .slice A1_2 l1_2.length c1_2, .slice A1_3 l1_3.length c1_3, .string a1_4, .slice A1_5 l1_5.length c1_5, .slice A1_6 l1_6.length c1_6, .slice A1_7 l1_7.length c1_7] 35 (0, 0)) (by (with_reducible repeat (first | refine bdN ?_ _ | refine bkD ?_ | refine bkA ?_ _)); exact BK336.out) hb); have n2_ := Aside0.mk (bst (by repeat (first | (with_reducible first | exact HB.out | apply bal | apply pbd | apply bd1 | refine bse ?_ GE335.out | refine bse ?_ GE336.out) | exact HB.out)) hb); replace BK335 := n0_; replace BK336 := n1_; replace HB := n2_; clear n0_ n1_ n2_; (try clear hb); (try clear hb2); (try clear hk); (try clear hi); obtain ⟨hcz46_0, hcz46_1, hcz46_2, hcz46_3, hcz46_4, hcz46_5, hcz46_6, hcz46_7⟩ := zC8 BK335.out; obtain ⟨hfz46_0, hfz46_1, hfz46_2, hfz46_3, hfz46_4, hfz46_5, hfz46_6, hfz46_7⟩ := zF8 BK335.out; obtain ⟨hcz47_0, hcz47_1, hcz47_2, hcz47_3, hcz47_4, hcz47_5, hcz47_6, hcz47_7⟩ := zC8 BK336.out; obtain ⟨hfz47_0, hfz47_1, hfz47_2, hfz47_3, hfz47_4, hfz47_5, hfz47_6⟩ := zF7 BK336.out; have hfz47_7 := bfz BK336.out 7) | ((with_reducible refine gcl (f := 35) rfl ?_); refine goesL_ (some 42) rfl rfl Tryd.func35 (by kernel_rfl) rfl #[.slice A0_6 l0_6.length c0_6, .slice A1_6 l1_6.length c1_6] rfl (by (try simp only [List.map_toArray, List.map_cons, List.map_nil]); first | done | rfl | (simp only [List.length_drop, List.length_take]; rfl)) ?_; (with_reducible refine (laws_eqItemS.calls k _ _ l0_6 _ _ l1_6 true _ ?side1 ?side2 ?side3 ?side4 A12.out).mono ?_); (case side1 => repeat (first | exact (Kd.Cbe HR0_6.out HB.out) | (with_reducible refine Kd.Cal ?_ _) | (with_reducible refine Kd.CdN ?_ _) | (with_reducible refine Kd.Cdr ?_))); (case side2 => exact HC0_6.out); (case side3 => repeat (first | exact (Kd.Cbe HR1_6.out HB.out) | (with_reducible refine Kd.Cal ?_ _) | (with_reducible refine Kd.CdN ?_ _) | (with_reducible refine Kd.Cdr ?_))); (case side4 => exact HC1_6.out); rintro e w48 ⟨rfl, hb⟩; refine ⟨_, rfl, ?_⟩; have n0_ := Aside0.mk (bbe (g := gb335) (o := .cells #[.int .i64 a0_0, .string a0_1, .slice A0_2 l0_2.length c0_2, .slice A0_3 l0_3.length c0_3, .string a0_4, .slice A0_5 l0_5.length c0_5, .slice A0_6 l0_6.length c0_6, .slice A0_7 l0_7.length c0_7] 35 (0, 0)) (by (with_reducible repeat (first | refine bdN ?_ _ | refine bkD ?_ | refine bkA ?_ _)); exact BK335.out) hb); have n1_ := Aside0.mk (bbe (g := gb336) (o := .cells #[.int .i64 a1_0, .string a1_1, .slice A1_2 l1_2.length c1_2, .slice A1_3 l1_3.length c1_3, .string a1_4, .slice A1_5 l1_5.length c1_5, .slice A1_6 l1_6.length c1_6, .slice A1_7 l1_7.length c1_7] 35 (0, 0)) (by (with_reducible repeat (first | refine bdN ?_ _ | refine bkD ?_ | refine bkA ?_ _)); exact BK336.out) hb); have n2_ := Aside0.mk (bst (by repeat (first | (with_reducible first | exact HB.out | apply bal | apply pbd | apply bd1 | refine bse ?_ GE335.out | refine bse ?_ GE336.out) | exact HB.out)) hb); replace BK335 := n0_; replace BK336 := n1_; replace HB := n2_; clear n0_ n1_ n2_; (try clear hb); (try clear hb2); (try clear hk); (try clear hi); obtain ⟨hcz49_0, hcz49_1, hcz49_2, hcz49_3, hcz49_4, hcz49_5, hcz49_6, hcz49_7⟩ := zC8 BK335.out; obtain ⟨hfz49_0, hfz49_1, hfz49_2, hfz49_3, hfz49_4, hfz49_5, hfz49_6, hfz49_7⟩ := zF8 BK335.out; obtain ⟨hcz50_0, hcz50_1, hcz50_2, hcz50_3, hcz50_4, hcz50_5, hcz50_6, hcz50_7⟩ := zC8 BK336.out; obtain ⟨hfz50_0, hfz50_1, hfz50_2, hfz50_3, hfz50_4, hfz50_5, hfz50_6⟩ := zF7 BK336.out; have hfz50_7 := bfz BK336.out 7) | ((with_reducible refine gcl (f := 36) rfl ?_); refine goesL_ (some 48) rfl rfl Tryd.func36 (by kernel_rfl) rfl #[.slice A0_7 l0_7.length c0_7, .slice A1_7 l1_7.length c1_7] rfl (by (try simp only [List.map_toArray, List.map_cons, List.map_nil]); first | done | rfl | (simp only [List.length_drop, List.length_take]; rfl)) ?_; (with_reducible refine (laws_eqItemSS.calls k _ _ l0_7 _ _ l1_7 false _ ?side1 ?side2 ?side3 ?side4 A14.out).mono ?_); (case side1 => repeat (first | exact (Kd.Cbe HR0_7.out HB.out) | (with_reducible refine Kd.Cal ?_ _) | (with_reducible refine Kd.CdN ?_ _) | (with_reducible refine Kd.Cdr ?_))); (case side2 => exact HC0_7.out); (case side3 => repeat (first | exact (Kd.Cbe HR1_7.out HB.out) | (with_reducible refine Kd.Cal ?_ _) | (with_reducible refine Kd.CdN ?_ _) | (with_reducible refine Kd.Cdr ?_))); (case side4 => exact HC1_7.out); rintro e w51 ⟨rfl, hb⟩; refine ⟨_, rfl, ?_⟩; have n0_ := Aside0.mk (bbe (g := gb335) (o := .cells #[.int .i64 a0_0, .string a0_1, .slice A0_2 l0_2.length c0_2, .slice A0_3 l0_3.length c0_3, .string a0_4, .slice A0_5 l0_5.length c0_5, .slice A0_6 l0_6.length c0_6, .slice A0_7 l0_7.length c0_7] 35 (0, 0)) (by (with_reducible repeat (first | refine bdN ?_ _ | refine bkD ?_ | refine bkA ?_ _)); exact BK335.out) hb); have n1_ := Aside0.mk (bbe (g := gb336) (o := .cells #[.int .i64 a1_0, .string a1_1, .slice A1_2 l1_2.length c1_2, .slice A1_3 l1_3.length c1_3, .string a1_4, .slice A1_5 l1_5.length c1_5, .slice A1_6 l1_6.length c1_6, .slice A1_7 l1_7.length c1_7] 35 (0, 0)) (by (with_reducible repeat (first | refine bdN ?_ _ | refine bkD ?_ | refine bkA ?_ _)); exact BK336.out) hb); have n2_ := Aside0.mk (bst (by repeat (first | (with_reducible first | exact HB.out | apply bal | apply pbd | apply bd1 | refine bse ?_ GE335.out | refine bse ?_ GE336.out) | exact HB.out)) hb); replace BK335 := n0_; replace BK336 := n1_; replace HB := n2_; clear n0_ n1_ n2_; (try clear hb); (try clear hb2); (try clear hk); (try clear hi))); go_ret; exact ⟨by first | rfl | (simp [eWn, eWs] <;> rfl) | (simp [*, eWn, eWs] <;> rfl), by repeat (first | (with_reducible first | exact HB.out | apply bal | apply pbd | apply bd1 | refine bse ?_ GE335.out | refine bse ?_ GE336.out) | exact HB.out)⟩
              · replace c13 := Bool.eq_false_iff.mpr c13; subst c13; (have H1 : (some false) = some r := by rw [if_neg (show ¬ (false = true) by decide)] at H; exact H); clear H; have H := H1; clear H1; obtain rfl := Option.some.inj H; go_enter Tryd.func9, Tryd.ntmps9; go_wp2_with (first | ((with_reducible refine gds (N := 2) rfl ?_); refine bxe ?hg (N := 2) ?hd (cs := #[.int .i64 a0_0, .string a0_1, .slice A0_2 l0_2.length c0_2, .slice A0_3 l0_3.length c0_3, .string a0_4, .slice A0_5 l0_5.length c0_5, .slice A0_6 l0_6.length c0_6, .slice A0_7 l0_7.length c0_7]) (t := 35) ?hr ?_; (case hd => rfl); (case hg => rfl); (case hr => first | (go_simp; done) | (go_simp; rfl)); intro gb335 hg w52 hbox hb; have n0_ := Aside0.mk (bst (by repeat (first | (with_reducible first | exact HB.out | apply bal | apply pbd | apply bd1) | exact HB.out)) hb); have n1_ := Aside0.mk (hbox); have n2_ := Aside0.mk ((by rw [hg]; exact (bsz (by repeat (first | (with_reducible first | exact HB.out | apply bal | apply pbd | apply bd1) | exact HB.out))) : w.heap.size ≤ gb335)); have n3_ := Aside0.mk ((by rw [hg]; exact (bsz (by repeat (first | (with_reducible first | exact HB.out | apply bal | apply pbd | apply bd1) | exact HB.out))) : w.heap.size ≤ gb335)); replace HB := n0_; have BK335 := n1_; have GW335 := n2_; have GE335 := n3_; clear n0_ n1_ n2_ n3_; clear hb hbox hg) | ((with_reducible refine gds (N := 3) rfl ?_); refine bxe ?hg (N := 3) ?hd (cs := #[.int .i64 a1_0, .string a1_1, .slice A1_2 l1_2.length c1_2, .slice A1_3 l1_3.length c1_3, .string a1_4, .slice A1_5 l1_5.length c1_5, .slice A1_6 l1_6.length c1_6, .slice A1_7 l1_7.length c1_7]) (t := 35) ?hr ?_; (case hd => rfl); (case hg => rfl); (case hr => first | (go_simp; done) | (go_simp; rfl)); intro gb336 hg w53 hbox hb; have n0_ := Aside0.mk (bbe (g := gb335) (o := .cells #[.int .i64 a0_0, .string a0_1, .slice A0_2 l0_2.length c0_2, .slice A0_3 l0_3.length c0_3, .string a0_4, .slice A0_5 l0_5.length c0_5, .slice A0_6 l0_6.length c0_6, .slice A0_7 l0_7.length c0_7] 35 (0, 0)) (by (with_reducible repeat (first | refine bdN ?_ _ | refine bkD ?_ | refine bkA ?_ _)); exact BK335.out) hb); have n1_ := Aside0.mk (bst (by repeat (first | (with_reducible first | exact HB.out | apply bal | apply pbd | apply bd1 | refine bse ?_ GE335.out) | exact HB.out)) hb); have n2_ := Aside0.mk (hbox); have n3_ := Aside0.mk ((by rw [hg]; exact (bsz (by repeat (first | (with_reducible first | exact HB.out | apply bal | apply pbd | apply bd1 | refine bse ?_ GE335.out) | exact HB.out))) : w.heap.size ≤ gb336)); have n4_ := Aside0.mk ((by rw [hg]; exact (bsz (by repeat (first | (with_reducible first | exact HB.out | apply bal | apply pbd | apply bd1 | refine bse ?_ GE335.out) | exact HB.out))) : w.heap.size ≤ gb336)); have n5_ := Aside0.mk ((by rw [hg]; exact Nat.ne_of_lt (blt (g := gb335) (o := .cells #[.int .i64 a0_0, .string a0_1, .slice A0_2 l0_2.length c0_2, .slice A0_3 l0_3.length c0_3, .string a0_4, .slice A0_5 l0_5.length c0_5, .slice A0_6 l0_6.length c0_6, .slice A0_7 l0_7.length c0_7] 35 (0, 0)) (by (with_reducible repeat (first | refine bdN ?_ _ | refine bkD ?_ | refine bkA ?_ _)); exact BK335.out)) : gb335 ≠ gb336)); have n6_ := Aside0.mk ((by rw [hg]; exact Nat.ne_of_gt (blt (g := gb335) (o := .cells #[.int .i64 a0_0, .string a0_1, .slice A0_2 l0_2.length c0_2, .slice A0_3 l0_3.length c0_3, .string a0_4, .slice A0_5 l0_5.length c0_5, .slice A0_6 l0_6.length c0_6, .slice A0_7 l0_7.length c0_7] 35 (0, 0)) (by (with_reducible repeat (first | refine bdN ?_ _ | refine bkD ?_ | refine bkA ?_ _)); exact BK335.out)) : gb336 ≠ gb335)); replace BK335 := n0_; replace HB := n1_; have BK336 := n2_; have GW336 := n3_; have GE336 := n4_; have NB335_336 := n5_; have NB336_335 := n6_; clear n0_ n1_ n2_ n3_ n4_ n5_ n6_; clear hb hbox hg; have hnb54 := NB335_336.out; have hnc54 := NB336_335.out; obtain ⟨hcz55_0, hcz55_1, hcz55_2, hcz55_3, hcz55_4, hcz55_5, hcz55_6, hcz55_7⟩ := zC8 BK335.out; obtain ⟨hfz55_0, hfz55_1, hfz55_2, hfz55_3, hfz55_4, hfz55_5, hfz55_6, hfz55_7⟩ := zF8 BK335.out; obtain ⟨hcz56_0, hcz56_1, hcz56_2, hcz56_3, hcz56_4, hcz56_5, hcz56_6, hcz56_7⟩ := zC8 BK336.out; obtain ⟨hfz56_0, hfz56_1, hfz56_2, hfz56_3, hfz56_4, hfz56_5, hfz56_6⟩ := zF7 BK336.out; have hfz56_7 := bfz BK336.out 7) | ((with_reducible refine gcl (f := 33) rfl ?_); refine goesL_ (some 19) rfl rfl Tryd.func33 (by kernel_rfl) rfl #[.slice A0_2 l0_2.length c0_2, .slice A1_2 l1_2.length c1_2] rfl (by (try simp only [List.map_toArray, List.map_cons, List.map_nil]); first | done | rfl | (simp only [List.length_drop, List.length_take]; rfl)) ?_; (with_reducible refine (laws_eqColumnS.calls k _ _ l0_2 _ _ l1_2 true _ ?side1 ?side2 ?side3 ?side4 A5.out).mono ?_); (case side1 => repeat (first | exact (Kd.Cbe HR0_2.out HB.out) | (with_reducible refine Kd.Cal ?_ _) | (with_reducible refine Kd.CdN ?_ _) | (with_reducible refine Kd.Cdr ?_))); (case side2 => exact HC0_2.out); (case side3 => repeat (first | exact (Kd.Cbe HR1_2.out HB.out) | (with_reducible refine Kd.Cal ?_ _) | (with_reducible refine Kd.CdN ?_ _) | (with_reducible refine Kd.Cdr ?_))); (case side4 => exact HC1_2.out); rintro e w57 ⟨rfl, hb⟩; refine ⟨_, rfl, ?_⟩; have n0_ := Aside0.mk (bbe (g := gb335) (o := .cells #[.int .i64 a0_0, .string a0_1, .slice A0_2 l0_2.length c0_2, .slice A0_3 l0_3.length c0_3, .string a0_4, .slice A0_5 l0_5.length c0_5, .slice A0_6 l0_6.length c0_6, .slice A0_7 l0_7.length c0_7] 35 (0, 0)) (by (with_reducible repeat (first | refine bdN ?_ _ | refine bkD ?_ | refine bkA ?_ _)); exact BK335.out) hb); have n1_ := Aside0.mk (bbe (g := gb336) (o := .cells #[.int .i64 a1_0, .string a1_1, .slice A1_2 l1_2.length c1_2, .slice A1_3 l1_3.length c1_3, .string a1_4, .slice A1_5 l1_5.length c1_5, .slice A1_6 l1_6.length c1_6, .slice A1_7 l1_7.length c1_7] 35 (0, 0)) (by (with_reducible repeat (first | refine bdN ?_ _ | refine bkD ?_ | refine bkA ?_ _)); exact BK336.out) hb); have n2_ := Aside0.mk (bst (by repeat (first | (with_reducible first | exact HB.out | apply bal | apply pbd | apply bd1 | refine bse ?_ GE335.out | refine bse ?_ GE336.out) | exact HB.out)) hb); replace BK335 := n0_; replace BK336 := n1_; replace HB := n2_; clear n0_ n1_ n2_; (try clear hb); (try clear hb2); (try clear hk); (try clear hi); obtain ⟨hcz58_0, hcz58_1, hcz58_2, hcz58_3, hcz58_4, hcz58_5, hcz58_6, hcz58_7⟩ := zC8 BK335.out; obtain ⟨hfz58_0, hfz58_1, hfz58_2, hfz58_3, hfz58_4, hfz58_5, hfz58_6, hfz58_7⟩ := zF8 BK335.out; obtain ⟨hcz59_0, hcz59_1, hcz59_2, hcz59_3, hcz59_4, hcz59_5, hcz59_6, hcz59_7⟩ := zC8 BK336.out; obtain ⟨hfz59_0, hfz59_1, hfz59_2, hfz59_3, hfz59_4, hfz59_5, hfz59_6⟩ := zF7 BK336.out; have hfz59_7 := bfz BK336.out 7) | ((with_reducible refine gcl (f := 34) rfl ?_); refine goesL_ (some 25) rfl rfl Tryd.func34 (by kernel_rfl) rfl #[.slice A0_3 l0_3.length c0_3, .slice A1_3 l1_3.length c1_3] rfl (by (try simp only [List.map_toArray, List.map_cons, List.map_nil]); first | done | rfl | (simp only [List.length_drop, List.length_take]; rfl)) ?_; (with_reducible refine (laws_eqValueS.calls k _ _ l0_3 _ _ l1_3 true _ ?side1 ?side2 ?side3 ?side4 A7.out).mono ?_); (case side1 => repeat (first | exact (Kd.Cbe HR0_3.out HB.out) | (with_reducible refine Kd.Cal ?_ _) | (with_reducible refine Kd.CdN ?_ _) | (with_reducible refine Kd.Cdr ?_))); (case side2 => exact HC0_3.out); (case side3 => repeat (first | exact (Kd.Cbe HR1_3.out HB.out) | (with_reducible refine Kd.Cal ?_ _) | (with_reducible refine Kd.CdN ?_ _) | (with_reducible refine Kd.Cdr ?_))); (case side4 => exact HC1_3.out); rintro e w60 ⟨rfl, hb⟩; refine ⟨_, rfl, ?_⟩; have n0_ := Aside0.mk (bbe (g := gb335) (o := .cells #[.int .i64 a0_0, .string a0_1, .slice A0_2 l0_2.length c0_2, .slice A0_3 l0_3.length c0_3, .string a0_4, .slice A0_5 l0_5.length c0_5, .slice A0_6 l0_6.length c0_6, .slice A0_7 l0_7.length c0_7] 35 (0, 0)) (by (with_reducible repeat (first | refine bdN ?_ _ | refine bkD ?_ | refine bkA ?_ _)); exact BK335.out) hb); have n1_ := Aside0.mk (bbe (g := gb336) (o := .cells #[.int .i64 a1_0, .string a1_1, .slice A1_2 l1_2.length c1_2, .slice A1_3 l1_3.length c1_3, .string a1_4, .slice A1_5 l1_5.length c1_5, .slice A1_6 l1_6.length c1_6, .slice A1_7 l1_7.length c1_7] 35 (0, 0)) (by (with_reducible repeat (first | refine bdN ?_ _ | refine bkD ?_ | refine bkA ?_ _)); exact BK336.out) hb); have n2_ := Aside0.mk (bst (by repeat (first | (with_reducible first | exact HB.out | apply bal | apply pbd | apply bd1 | refine bse ?_ GE335.out | refine bse ?_ GE336.out) | exact HB.out)) hb); replace BK335 := n0_; replace BK336 := n1_; replace HB := n2_; clear n0_ n1_ n2_; (try clear hb); (try clear hb2); (try clear hk); (try clear hi); obtain ⟨hcz61_0, hcz61_1, hcz61_2, hcz61_3, hcz61_4, hcz61_5, hcz61_6, hcz61_7⟩ := zC8 BK335.out; obtain ⟨hfz61_0, hfz61_1, hfz61_2, hfz61_3, hfz61_4, hfz61_5, hfz61_6, hfz61_7⟩ := zF8 BK335.out; obtain ⟨hcz62_0, hcz62_1, hcz62_2, hcz62_3, hcz62_4, hcz62_5, hcz62_6, hcz62_7⟩ := zC8 BK336.out; obtain ⟨hfz62_0, hfz62_1, hfz62_2, hfz62_3, hfz62_4, hfz62_5, hfz62_6⟩ := zF7 BK336.out; have hfz62_7 := bfz BK336.out 7) | ((with_reducible refine gcl (f := 35) rfl ?_); refine goesL_ (some 36) rfl rfl Tryd.func35 (by kernel_rfl) rfl #[.slice A0_5 l0_5.length c0_5, .slice A1_5 l1_5.length c1_5] rfl (by (try simp only [List.map_toArray, List.map_cons, List.map_nil]); first | done | rfl | (simp only [List.length_drop, List.length_take]; rfl)) ?_; (with_reducible refine (laws_eqItemS.calls k _ _ l0_5 _ _ l1_5 true _ ?side1 ?side2 ?side3 ?side4 A10.out).mono ?_); (case side1 => repeat (first | exact (Kd.Cbe HR0_5.out HB.out) | (with_reducible refine Kd.Cal ?_ _) | (with_reducible refine Kd.CdN ?_ _) | (with_reducible refine Kd.Cdr ?_))); (case side2 => exact HC0_5.out); (case side3 => repeat (first | exact (Kd.Cbe HR1_5.out HB.out) | (with_reducible refine Kd.Cal ?_ _) | (with_reducible refine Kd.CdN ?_ _) | (with_reducible refine Kd.Cdr ?_))); (case side4 => exact HC1_5.out); rintro e w63 ⟨rfl, hb⟩; refine ⟨_, rfl, ?_⟩; have n0_ := Aside0.mk (bbe (g := gb335) (o := .cells #[.int .i64 a0_0, .string a0_1, .slice A0_2 l0_2.length c0_2, .slice A0_3 l0_3.length c0_3, .string a0_4, .slice A0_5 l0_5.length c0_5, .slice A0_6 l0_6.length c0_6, .slice A0_7 l0_7.length c0_7] 35 (0, 0)) (by (with_reducible repeat (first | refine bdN ?_ _ | refine bkD ?_ | refine bkA ?_ _)); exact BK335.out) hb); have n1_ := Aside0.mk (bbe (g := gb336) (o := .cells #[.int .i64 a1_0, .string a1_1, .slice A1_2 l1_2.length c1_2, .slice A1_3 l1_3.length c1_3, .string a1_4, .slice A1_5 l1_5.length c1_5, .slice A1_6 l1_6.length c1_6, .slice A1_7 l1_7.length c1_7] 35 (0, 0)) (by (with_reducible repeat (first | refine bdN ?_ _ | refine bkD ?_ | refine bkA ?_ _)); exact BK336.out) hb); have n2_ := Aside0.mk (bst (by repeat (first | (with_reducible first | exact HB.out | apply bal | apply pbd | apply bd1 | refine bse ?_ GE335.out | refine bse ?_ GE336.out) | exact HB.out)) hb); replace BK335 := n0_; replace BK336 := n1_; replace HB := n2_; clear n0_ n1_ n2_; (try clear hb); (try clear hb2); (try clear hk); (try clear hi); obtain ⟨hcz64_0, hcz64_1, hcz64_2, hcz64_3, hcz64_4, hcz64_5, hcz64_6, hcz64_7⟩ := zC8 BK335.out; obtain ⟨hfz64_0, hfz64_1, hfz64_2, hfz64_3, hfz64_4, hfz64_5, hfz64_6, hfz64_7⟩ := zF8 BK335.out; obtain ⟨hcz65_0, hcz65_1, hcz65_2, hcz65_3, hcz65_4, hcz65_5, hcz65_6, hcz65_7⟩ := zC8 BK336.out; obtain ⟨hfz65_0, hfz65_1, hfz65_2, hfz65_3, hfz65_4, hfz65_5, hfz65_6⟩ := zF7 BK336.out; have hfz65_7 := bfz BK336.out 7) | ((with_reducible refine gcl (f := 35) rfl ?_); refine goesL_ (some 42) rfl rfl Tryd.func35 (by kernel_rfl) rfl #[.slice A0_6 l0_6.length c0_6, .slice A1_6 l1_6.length c1_6] rfl (by (try simp only [List.map_toArray, List.map_cons, List.map_nil]); first | done | rfl | (simp only [List.length_drop, List.length_take]; rfl)) ?_; (with_reducible refine (laws_eqItemS.calls k _ _ l0_6 _ _ l1_6 false _ ?side1 ?side2 ?side3 ?side4 A12.out).mono ?_); (case side1 => repeat (first | exact (Kd.Cbe HR0_6.out HB.out) | (with_reducible refine Kd.Cal ?_ _) | (with_reducible refine Kd.CdN ?_ _) | (with_reducible refine Kd.Cdr ?_))); (case side2 => exact HC0_6.out); (case side3 => repeat (first | exact (Kd.Cbe HR1_6.out HB.out) | (with_reducible refine Kd.Cal ?_ _) | (with_reducible refine Kd.CdN ?_ _) | (with_reducible refine Kd.Cdr ?_))); (case side4 => exact HC1_6.out); rintro e w66 ⟨rfl, hb⟩; refine ⟨_, rfl, ?_⟩; have n0_ := Aside0.mk (bbe (g := gb335) (o := .cells #[.int .i64 a0_0, .string a0_1, .slice A0_2 l0_2.length c0_2, .slice A0_3 l0_3.length c0_3, .string a0_4, .slice A0_5 l0_5.length c0_5, .slice A0_6 l0_6.length c0_6, .slice A0_7 l0_7.length c0_7] 35 (0, 0)) (by (with_reducible repeat (first | refine bdN ?_ _ | refine bkD ?_ | refine bkA ?_ _)); exact BK335.out) hb); have n1_ := Aside0.mk (bbe (g := gb336) (o := .cells #[.int .i64 a1_0, .string a1_1, .slice A1_2 l1_2.length c1_2, .slice A1_3 l1_3.length c1_3, .string a1_4, .slice A1_5 l1_5.length c1_5, .slice A1_6 l1_6.length c1_6, .slice A1_7 l1_7.length c1_7] 35 (0, 0)) (by (with_reducible repeat (first | refine bdN ?_ _ | refine bkD ?_ | refine bkA ?_ _)); exact BK336.out) hb); have n2_ := Aside0.mk (bst (by repeat (first | (with_reducible first | exact HB.out | apply bal | apply pbd | apply bd1 | refine bse ?_ GE335.out | refine bse ?_ GE336.out) | exact HB.out)) hb); replace BK335 := n0_; replace BK336 := n1_; replace HB := n2_; clear n0_ n1_ n2_; (try clear hb); (try clear hb2); (try clear hk); (try clear hi))); go_ret; exact ⟨by first | rfl | (simp [eWn, eWs] <;> rfl) | (simp [*, eWn, eWs] <;> rfl), by repeat (first | (with_reducible first | exact HB.out | apply bal | apply pbd | apply bd1 | refine bse ?_ GE335.out | refine bse ?_ GE336.out) | exact HB.out)⟩
            · replace c11 := Bool.eq_false_iff.mpr c11; subst c11; (have H1 : (some false) = some r := by rw [if_neg (show ¬ (false = true) by decide)] at H; exact H); clear H; have H := H1; clear H1; obtain rfl := Option.some.inj H; go_enter Tryd.func9, Tryd.ntmps9; go_wp2_with (first | ((with_reducible refine gds (N := 2) rfl ?_); refine bxe ?hg (N := 2) ?hd (cs := #[.int .i64 a0_0, .string a0_1, .slice A0_2 l0_2.length c0_2, .slice A0_3 l0_3.length c0_3, .string a0_4, .slice A0_5 l0_5.length c0_5, .slice A0_6 l0_6.length c0_6, .slice A0_7 l0_7.length c0_7]) (t := 35) ?hr ?_; (case hd => rfl); (case hg => rfl); (case hr => first | (go_simp; done) | (go_simp; rfl)); intro gb335 hg w67 hbox hb; have n0_ := Aside0.mk (bst (by repeat (first | (with_reducible first | exact HB.out | apply bal | apply pbd | apply bd1) | exact HB.out)) hb); have n1_ := Aside0.mk (hbox); have n2_ := Aside0.mk ((by rw [hg]; exact (bsz (by repeat (first | (with_reducible first | exact HB.out | apply bal | apply pbd | apply bd1) | exact HB.out))) : w.heap.size ≤ gb335)); have n3_ := Aside0.mk ((by rw [hg]; exact (bsz (by repeat (first | (with_reducible first | exact HB.out | apply bal | apply pbd | apply bd1) | exact HB.out))) : w.heap.size ≤ gb335)); replace HB := n0_; have BK335 := n1_; have GW335 := n2_; have GE335 := n3_; clear n0_ n1_ n2_ n3_; clear hb hbox hg) | ((with_reducible refine gds (N := 3) rfl ?_); refine bxe ?hg (N := 3) ?hd (cs := #[.int .i64 a1_0, .string a1_1, .slice A1_2 l1_2.length c1_2, .slice A1_3 l1_3.length c1_3, .string a1_4, .slice A1_5 l1_5.length c1_5, .slice A1_6 l1_6.length c1_6, .slice A1_7 l1_7.length c1_7]) (t := 35) ?hr ?_; (case hd => rfl); (case hg => rfl); (case hr => first | (go_simp; done) | (go_simp; rfl)); intro gb336 hg w68 hbox hb; have n0_ := Aside0.mk (bbe (g := gb335) (o := .cells #[.int .i64 a0_0, .string a0_1, .slice A0_2 l0_2.length c0_2, .slice A0_3 l0_3.length c0_3, .string a0_4, .slice A0_5 l0_5.length c0_5, .slice A0_6 l0_6.length c0_6, .slice A0_7 l0_7.length c0_7] 35 (0, 0)) (by (with_reducible repeat (first | refine bdN ?_ _ | refine bkD ?_ | refine bkA ?_ _)); exact BK335.out) hb); have n1_ := Aside0.mk (bst (by repeat (first | (with_reducible first | exact HB.out | apply bal | apply pbd | apply bd1 | refine bse ?_ GE335.out) | exact HB.out)) hb); have n2_ := Aside0.mk (hbox); have n3_ := Aside0.mk ((by rw [hg]; exact (bsz (by repeat (first | (with_reducible first | exact HB.out | apply bal | apply pbd | apply bd1 | refine bse ?_ GE335.out) | exact HB.out))) : w.heap.size ≤ gb336)); have n4_ := Aside0.mk ((by rw [hg]; exact (bsz (by repeat (first | (with_reducible first | exact HB.out | apply bal | apply pbd | apply bd1 | refine bse ?_ GE335.out) | exact HB.out))) : w.heap.size ≤ gb336)); have n5_ := Aside0.mk ((by rw [hg]; exact Nat.ne_of_lt (blt (g := gb335) (o := .cells #[.int .i64 a0_0, .string a0_1, .slice A0_2 l0_2.length c0_2, .slice A0_3 l0_3.length c0_3, .string a0_4, .slice A0_5 l0_5.length c0_5, .slice A0_6 l0_6.length c0_6, .slice A0_7 l0_7.length c0_7] 35 (0, 0)) (by (with_reducible repeat (first | refine bdN ?_ _ | refine bkD ?_ | refine bkA ?_ _)); exact BK335.out)) : gb335 ≠ gb336)); have n6_ := Aside0.mk ((by rw [hg]; exact Nat.ne_of_gt (blt (g := gb335) (o := .cells #[.int .i64 a0_0, .string a0_1, .slice A0_2 l0_2.length c0_2, .slice A0_3 l0_3.length c0_3, .string a0_4, .slice A0_5 l0_5.length c0_5, .slice A0_6 l0_6.length c0_6, .slice A0_7 l0_7.length c0_7] 35 (0, 0)) (by (with_reducible repeat (first | refine bdN ?_ _ | refine bkD ?_ | refine bkA ?_ _)); exact BK335.out)) : gb336 ≠ gb335)); replace BK335 := n0_; replace HB := n1_; have BK336 := n2_; have GW336 := n3_; have GE336 := n4_; have NB335_336 := n5_; have NB336_335 := n6_; clear n0_ n1_ n2_ n3_ n4_ n5_ n6_; clear hb hbox hg; have hnb69 := NB335_336.out; have hnc69 := NB336_335.out; obtain ⟨hcz70_0, hcz70_1, hcz70_2, hcz70_3, hcz70_4, hcz70_5, hcz70_6, hcz70_7⟩ := zC8 BK335.out; obtain ⟨hfz70_0, hfz70_1, hfz70_2, hfz70_3, hfz70_4, hfz70_5, hfz70_6, hfz70_7⟩ := zF8 BK335.out; obtain ⟨hcz71_0, hcz71_1, hcz71_2, hcz71_3, hcz71_4, hcz71_5, hcz71_6, hcz71_7⟩ := zC8 BK336.out; obtain ⟨hfz71_0, hfz71_1, hfz71_2, hfz71_3, hfz71_4, hfz71_5, hfz71_6⟩ := zF7 BK336.out; have hfz71_7 := bfz BK336.out 7) | ((with_reducible refine gcl (f := 33) rfl ?_); refine goesL_ (some 19) rfl rfl Tryd.func33 (by kernel_rfl) rfl #[.slice A0_2 l0_2.length c0_2, .slice A1_2 l1_2.length c1_2] rfl (by (try simp only [List.map_toArray, List.map_cons, List.map_nil]); first | done | rfl | (simp only [List.length_drop, List.length_take]; rfl)) ?_; (with_reducible refine (laws_eqColumnS.calls k _ _ l0_2 _ _ l1_2 true _ ?side1 ?side2 ?side3 ?side4 A5.out).mono ?_); (case side1 => repeat (first | exact (Kd.Cbe HR0_2.out HB.out) | (with_reducible refine Kd.Cal ?_ _) | (with_reducible refine Kd.CdN ?_ _) | (with_reducible refine Kd.Cdr ?_))); (case side2 => exact HC0_2.out); (case side3 => repeat (first | exact (Kd.Cbe HR1_2.out HB.out) | (with_reducible refine Kd.Cal ?_ _) | (with_reducible refine Kd.CdN ?_ _) | (with_reducible refine Kd.Cdr ?_))); (case side4 => exact HC1_2.out); rintro e w72 ⟨rfl, hb⟩; refine ⟨_, rfl, ?_⟩; have n0_ := Aside0.mk (bbe (g := gb335) (o := .cells #[.int .i64 a0_0, .string a0_1, .slice A0_2 l0_2.length c0_2, .slice A0_3 l0_3.length c0_3, .string a0_4, .slice A0_5 l0_5.length c0_5, .slice A0_6 l0_6.length c0_6, .slice A0_7 l0_7.length c0_7] 35 (0, 0)) (by (with_reducible repeat (first | refine bdN ?_ _ | refine bkD ?_ | refine bkA ?_ _)); exact BK335.out) hb); have n1_ := Aside0.mk (bbe (g := gb336) (o := .cells #[.int .i64 a1_0, .string a1_1, .slice A1_2 l1_2.length c1_2, .slice A1_3 l1_3.length c1_3, .string a1_4, .slice A1_5 l1_5.length c1_5, .slice A1_6 l1_6.length c1_6, .slice A1_7 l1_7.length c1_7] 35 (0, 0)) (by (with_reducible repeat (first | refine bdN ?_ _ | refine bkD ?_ | refine bkA ?_ _)); exact BK336.out) hb); have n2_ := Aside0.mk (bst (by repeat (first | (with_reducible first | exact HB.out | apply bal | apply pbd | apply bd1 | refine bse ?_ GE335.out | refine bse ?_ GE336.out) | exact HB.out)) hb); replace BK335 := n0_; replace BK336 := n1_; replace HB := n2_; clear n0_ n1_ n2_; (try clear hb); (try clear hb2); (try clear hk); (try clear hi); obtain ⟨hcz73_0, hcz73_1, hcz73_2, hcz73_3, hcz73_4, hcz73_5, hcz73_6, hcz73_7⟩ := zC8 BK335.out; obtain ⟨hfz73_0, hfz73_1, hfz73_2, hfz73_3, hfz73_4, hfz73_5, hfz73_6, hfz73_7⟩ := zF8 BK335.out; obtain ⟨hcz74_0, hcz74_1, hcz74_2, hcz74_3, hcz74_4, hcz74_5, hcz74_6, hcz74_7⟩ := zC8 BK336.out; obtain ⟨hfz74_0, hfz74_1, hfz74_2, hfz74_3, hfz74_4, hfz74_5, hfz74_6⟩ := zF7 BK336.out; have hfz74_7 := bfz BK336.out 7) | ((with_reducible refine gcl (f := 34) rfl ?_); refine goesL_ (some 25) rfl rfl Tryd.func34 (by kernel_rfl) rfl #[.slice A0_3 l0_3.length c0_3, .slice A1_3 l1_3.length c1_3] rfl (by (try simp only [List.map_toArray, List.map_cons, List.map_nil]); first | done | rfl | (simp only [List.length_drop, List.length_take]; rfl)) ?_; (with_reducible refine (laws_eqValueS.calls k _ _ l0_3 _ _ l1_3 true _ ?side1 ?side2 ?side3 ?side4 A7.out).mono ?_); (case side1 => repeat (first | exact (Kd.Cbe HR0_3.out HB.out) | (with_reducible refine Kd.Cal ?_ _) | (with_reducible refine Kd.CdN ?_ _) | (with_reducible refine Kd.Cdr ?_))); (case side2 => exact HC0_3.out); (case side3 => repeat (first | exact (Kd.Cbe HR1_3.out HB.out) | (with_reducible refine Kd.Cal ?_ _) | (with_reducible refine Kd.CdN ?_ _) | (with_reducible refine Kd.Cdr ?_))); (case side4 => exact HC1_3.out); rintro e w75 ⟨rfl, hb⟩; refine ⟨_, rfl, ?_⟩; have n0_ := Aside0.mk (bbe (g := gb335) (o := .cells #[.int .i64 a0_0, .string a0_1, .slice A0_2 l0_2.length c0_2, .slice A0_3 l0_3.length c0_3, .string a0_4, .slice A0_5 l0_5.length c0_5, .slice A0_6 l0_6.length c0_6, .slice A0_7 l0_7.length c0_7] 35 (0, 0)) (by (with_reducible repeat (first | refine bdN ?_ _ | refine bkD ?_ | refine bkA ?_ _)); exact BK335.out) hb); have n1_ := Aside0.mk (bbe (g := gb336) (o := .cells #[.int .i64 a1_0, .string a1_1, .slice A1_2 l1_2.length c1_2, .slice A1_3 l1_3.length c1_3, .string a1_4, .slice A1_5 l1_5.length c1_5, .slice A1_6 l1_6.length c1_6, .slice A1_7 l1_7.length c1_7] 35 (0, 0)) (by (with_reducible repeat (first | refine bdN ?_ _ | refine bkD ?_ | refine bkA ?_ _)); exact BK336.out) hb); have n2_ := Aside0.mk (bst (by repeat (first | (with_reducible first | exact HB.out | apply bal | apply pbd | apply bd1 | refine bse ?_ GE335.out | refine bse ?_ GE336.out) | exact HB.out)) hb); replace BK335 := n0_; replace BK336 := n1_; replace HB := n2_; clear n0_ n1_ n2_; (try clear hb); (try clear hb2); (try clear hk); (try clear hi); obtain ⟨hcz76_0, hcz76_1, hcz76_2, hcz76_3, hcz76_4, hcz76_5, hcz76_6, hcz76_7⟩ := zC8 BK335.out; obtain ⟨hfz76_0, hfz76_1, hfz76_2, hfz76_3, hfz76_4, hfz76_5, hfz76_6, hfz76_7⟩ := zF8 BK335.out; obtain ⟨hcz77_0, hcz77_1, hcz77_2, hcz77_3, hcz77_4, hcz77_5, hcz77_6, hcz77_7⟩ := zC8 BK336.out; obtain ⟨hfz77_0, hfz77_1, hfz77_2, hfz77_3, hfz77_4, hfz77_5, hfz77_6⟩ := zF7 BK336.out; have hfz77_7 := bfz BK336.out 7) | ((with_reducible refine gcl (f := 35) rfl ?_); refine goesL_ (some 36) rfl rfl Tryd.func35 (by kernel_rfl) rfl #[.slice A0_5 l0_5.length c0_5, .slice A1_5 l1_5.length c1_5] rfl (by (try simp only [List.map_toArray, List.map_cons, List.map_nil]); first | done | rfl | (simp only [List.length_drop, List.length_take]; rfl)) ?_; (with_reducible refine (laws_eqItemS.calls k _ _ l0_5 _ _ l1_5 false _ ?side1 ?side2 ?side3 ?side4 A10.out).mono ?_); (case side1 => repeat (first | exact (Kd.Cbe HR0_5.out HB.out) | (with_reducible refine Kd.Cal ?_ _) | (with_reducible refine Kd.CdN ?_ _) | (with_reducible refine Kd.Cdr ?_))); (case side2 => exact HC0_5.out); (case side3 => repeat (first | exact (Kd.Cbe HR1_5.out HB.out) | (with_reducible refine Kd.Cal ?_ _) | (with_reducible refine Kd.CdN ?_ _) | (with_reducible refine Kd.Cdr ?_))); (case side4 => exact HC1_5.out); rintro e w78 ⟨rfl, hb⟩; refine ⟨_, rfl, ?_⟩; have n0_ := Aside0.mk (bbe (g := gb335) (o := .cells #[.int .i64 a0_0, .string a0_1, .slice A0_2 l0_2.length c0_2, .slice A0_3 l0_3.length c0_3, .string a0_4, .slice A0_5 l0_5.length c0_5, .slice A0_6 l0_6.length c0_6, .slice A0_7 l0_7.length c0_7] 35 (0, 0)) (by (with_reducible repeat (first | refine bdN ?_ _ | refine bkD ?_ | refine bkA ?_ _)); exact BK335.out) hb); have n1_ := Aside0.mk (bbe (g := gb336) (o := .cells #[.int .i64 a1_0, .string a1_1, .slice A1_2 l1_2.length c1_2, .slice A1_3 l1_3.length c1_3, .string a1_4, .slice A1_5 l1_5.length c1_5, .slice A1_6 l1_6.length c1_6, .slice A1_7 l1_7.length c1_7] 35 (0, 0)) (by (with_reducible repeat (first | refine bdN ?_ _ | refine bkD ?_ | refine bkA ?_ _)); exact BK336.out) hb); have n2_ := Aside0.mk (bst (by repeat (first | (with_reducible first | exact HB.out | apply bal | apply pbd | apply bd1 | refine bse ?_ GE335.out | refine bse ?_ GE336.out) | exact HB.out)) hb); replace BK335 := n0_; replace BK336 := n1_; replace HB := n2_; clear n0_ n1_ n2_; (try clear hb); (try clear hb2); (try clear hk); (try clear hi))); go_ret; exact ⟨by first | rfl | (simp [eWn, eWs] <;> rfl) | (simp [*, eWn, eWs] <;> rfl), by repeat (first | (with_reducible first | exact HB.out | apply bal | apply pbd | apply bd1 | refine bse ?_ GE335.out | refine bse ?_ GE336.out) | exact HB.out)⟩
          · rw [if_neg c9] at H; have c9b0 : (a0_4.toList == a1_4.toList) = false := beq_eq_false_iff_ne.mpr c9; have c9b1 : (a0_4.toList != a1_4.toList) = true := bne_iff_ne.mpr c9; obtain rfl := Option.some.inj H; go_enter Tryd.func9, Tryd.ntmps9; go_wp2_with (first | ((with_reducible refine gds (N := 2) rfl ?_); refine bxe ?hg (N := 2) ?hd (cs := #[.int .i64 a0_0, .string a0_1, .slice A0_2 l0_2.length c0_2, .slice A0_3 l0_3.length c0_3, .string a0_4, .slice A0_5 l0_5.length c0_5, .slice A0_6 l0_6.length c0_6, .slice A0_7 l0_7.length c0_7]) (t := 35) ?hr ?_; (case hd => rfl); (case hg => rfl); (case hr => first | (go_simp; done) | (go_simp; rfl)); intro gb335 hg w79 hbox hb; have n0_ := Aside0.mk (bst (by repeat (first | (with_reducible first | exact HB.out | apply bal | apply pbd | apply bd1) | exact HB.out)) hb); have n1_ := Aside0.mk (hbox); have n2_ := Aside0.mk ((by rw [hg]; exact (bsz (by repeat (first | (with_reducible first | exact HB.out | apply bal | apply pbd | apply bd1) | exact HB.out))) : w.heap.size ≤ gb335)); have n3_ := Aside0.mk ((by rw [hg]; exact (bsz (by repeat (first | (with_reducible first | exact HB.out | apply bal | apply pbd | apply bd1) | exact HB.out))) : w.heap.size ≤ gb335)); replace HB := n0_; have BK335 := n1_; have GW335 := n2_; have GE335 := n3_; clear n0_ n1_ n2_ n3_; clear hb hbox hg) | ((with_reducible refine gds (N := 3) rfl ?_); refine bxe ?hg (N := 3) ?hd (cs := #[.int .i64 a1_0, .string a1_1, .slice A1_2 l1_2.length c1_2, .slice A1_3 l1_3.length c1_3, .string a1_4, .slice A1_5 l1_5.length c1_5, .slice A1_6 l1_6.length c1_6, .slice A1_7 l1_7.length c1_7]) (t := 35) ?hr ?_; (case hd => rfl); (case hg => rfl); (case hr => first | (go_simp; done) | (go_simp; rfl)); intro gb336 hg w80 hbox hb; have n0_ := Aside0.mk (bbe (g := gb335) (o := .cells #[.int .i64 a0_0, .string a0_1, .slice A0_2 l0_2.length c0_2, .slice A0_3 l0_3.length c0_3, .string a0_4, .slice A0_5 l0_5.length c0_5, .slice A0_6 l0_6.length c0_6, .slice A0_7 l0_7.length c0_7] 35 (0, 0)) (by (with_reducible repeat (first | refine bdN ?_ _ | refine bkD ?_ | refine bkA ?_ _)); exact BK335.out) hb); have n1_ := Aside0.mk (bst (by repeat (first | (with_reducible first | exact HB.out | apply bal | apply pbd | apply bd1 | refine bse ?_ GE335.out) | exact HB.out)) hb); have n2_ := Aside0.mk (hbox); have n3_ := Aside0.mk ((by rw [hg]; exact (bsz (by repeat (first | (with_reducible first | exact HB.out | apply bal | apply pbd | apply bd1 | refine bse ?_ GE335.out) | exact HB.out))) : w.heap.size ≤ gb336)); have n4_ := Aside0.mk ((by rw [hg]; exact (bsz (by repeat (first | (with_reducible first | exact HB.out | apply bal | apply pbd | apply bd1 | refine bse ?_ GE335.out) | exact HB.out))) : w.heap.size ≤ gb336)); have n5_ := Aside0.mk ((by rw [hg]; exact Nat.ne_of_lt (blt (g := gb335) (o := .cells #[.int .i64 a0_0, .string a0_1, .slice A0_2 l0_2.length c0_2, .slice A0_3 l0_3.length c0_3, .string a0_4, .slice A0_5 l0_5.length c0_5, .slice A0_6 l0_6.length c0_6, .slice A0_7 l0_7.length c0_7] 35 (0, 0)) (by (with_reducible repeat (first | refine bdN ?_ _ | refine bkD ?_ | refine bkA ?_ _)); exact BK335.out)) : gb335 ≠ gb336)); have n6_ := Aside0.mk ((by rw [hg]; exact Nat.ne_of_gt (blt (g := gb335) (o := .cells #[.int .i64 a0_0, .string a0_1, .slice A0_2 l0_2.length c0_2, .slice A0_3 l0_3.length c0_3, .string a0_4, .slice A0_5 l0_5.length c0_5, .slice A0_6 l0_6.length c0_6, .slice A0_7 l0_7.length c0_7] 35 (0, 0)) (by (with_reducible repeat (first | refine bdN ?_ _ | refine bkD ?_ | refine bkA ?_ _)); exact BK335.out)) : gb336 ≠ gb335)); replace BK335 := n0_; replace HB := n1_; have BK336 := n2_; have GW336 := n3_; have GE336 := n4_; have NB335_336 := n5_; have NB336_335 := n6_; clear n0_ n1_ n2_ n3_ n4_ n5_ n6_; clear hb hbox hg; have hnb81 := NB335_336.out; have hnc81 := NB336_335.out; obtain ⟨hcz82_0, hcz82_1, hcz82_2, hcz82_3, hcz82_4, hcz82_5, hcz82_6, hcz82_7⟩ := zC8 BK335.out; obtain ⟨hfz82_0, hfz82_1, hfz82_2, hfz82_3, hfz82_4, hfz82_5, hfz82_6, hfz82_7⟩ := zF8 BK335.out; obtain ⟨hcz83_0, hcz83_1, hcz83_2, hcz83_3, hcz83_4, hcz83_5, hcz83_6, hcz83_7⟩ := zC8 BK336.out; obtain ⟨hfz83_0, hfz83_1, hfz83_2, hfz83_3, hfz83_4, hfz83_5, hfz83_6⟩ := zF7 BK336.out; have hfz83_7 := bfz BK336.out 7) | ((with_reducible refine gcl (f := 33) rfl ?_); refine goesL_ (some 19) rfl rfl Tryd.func33 (by kernel_rfl) rfl #[.slice A0_2 l0_2.length c0_2, .slice A1_2 l1_2.length c1_2] rfl (by (try simp only [List.map_toArray, List.map_cons, List.map_nil]); first | done | rfl | (simp only [List.length_drop, List.length_take]; rfl)) ?_; (with_reducible refine (laws_eqColumnS.calls k _ _ l0_2 _ _ l1_2 true _ ?side1 ?side2 ?side3 ?side4 A5.out).mono ?_); (case side1 => repeat (first | exact (Kd.Cbe HR0_2.out HB.out) | (with_reducible refine Kd.Cal ?_ _) | (with_reducible refine Kd.CdN ?_ _) | (with_reducible refine Kd.Cdr ?_))); (case side2 => exact HC0_2.out); (case side3 => repeat (first | exact (Kd.Cbe HR1_2.out HB.out) | (with_reducible refine Kd.Cal ?_ _) | (with_reducible refine Kd.CdN ?_ _) | (with_reducible refine Kd.Cdr ?_))); (case side4 => exact HC1_2.out); rintro e w84 ⟨rfl, hb⟩; refine ⟨_, rfl, ?_⟩; have n0_ := Aside0.mk (bbe (g := gb335) (o := .cells #[.int .i64 a0_0, .string a0_1, .slice A0_2 l0_2.length c0_2, .slice A0_3 l0_3.length c0_3, .string a0_4, .slice A0_5 l0_5.length c0_5, .slice A0_6 l0_6.length c0_6, .slice A0_7 l0_7.length c0_7] 35 (0, 0)) (by (with_reducible repeat (first | refine bdN ?_ _ | refine bkD ?_ | refine bkA ?_ _)); exact BK335.out) hb); have n1_ := Aside0.mk (bbe (g := gb336) (o := .cells #[.int .i64 a1_0, .string a1_1, .slice A1_2 l1_2.length c1_2, .slice A1_3 l1_3.length c1_3, .string a1_4, .slice A1_5 l1_5.length c1_5, .slice A1_6 l1_6.length c1_6, .slice A1_7 l1_7.length c1_7] 35 (0, 0)) (by (with_reducible repeat (first | refine bdN ?_ _ | refine bkD ?_ | refine bkA ?_ _)); exact BK336.out) hb); have n2_ := Aside0.mk (bst (by repeat (first | (with_reducible first | exact HB.out | apply bal | apply pbd | apply bd1 | refine bse ?_ GE335.out | refine bse ?_ GE336.out) | exact HB.out)) hb); replace BK335 := n0_; replace BK336 := n1_; replace HB := n2_; clear n0_ n1_ n2_; (try clear hb); (try clear hb2); (try clear hk); (try clear hi); obtain ⟨hcz85_0, hcz85_1, hcz85_2, hcz85_3, hcz85_4, hcz85_5, hcz85_6, hcz85_7⟩ := zC8 BK335.out; obtain ⟨hfz85_0, hfz85_1, hfz85_2, hfz85_3, hfz85_4, hfz85_5, hfz85_6, hfz85_7⟩ := zF8 BK335.out; obtain ⟨hcz86_0, hcz86_1, hcz86_2, hcz86_3, hcz86_4, hcz86_5, hcz86_6, hcz86_7⟩ := zC8 BK336.out; obtain ⟨hfz86_0, hfz86_1, hfz86_2, hfz86_3, hfz86_4, hfz86_5, hfz86_6⟩ := zF7 BK336.out; have hfz86_7 := bfz BK336.out 7) | ((with_reducible refine gcl (f := 34) rfl ?_); refine goesL_ (some 25) rfl rfl Tryd.func34 (by kernel_rfl) rfl #[.slice A0_3 l0_3.length c0_3, .slice A1_3 l1_3.length c1_3] rfl (by (try simp only [List.map_toArray, List.map_cons, List.map_nil]); first | done | rfl | (simp only [List.length_drop, List.length_take]; rfl)) ?_; (with_reducible refine (laws_eqValueS.calls k _ _ l0_3 _ _ l1_3 true _ ?side1 ?side2 ?side3 ?side4 A7.out).mono ?_); (case side1 => repeat (first | exact (Kd.Cbe HR0_3.out HB.out) | (with_reducible refine Kd.Cal ?_ _) | (with_reducible refine Kd.CdN ?_ _) | (with_reducible refine Kd.Cdr ?_))); (case side2 => exact HC0_3.out); (case side3 => repeat (first | exact (Kd.Cbe HR1_3.out HB.out) | (with_reducible refine Kd.Cal ?_ _) | (with_reducible refine Kd.CdN ?_ _) | (with_reducible refine Kd.Cdr ?_))); (case side4 => exact HC1_3.out); rintro e w87 ⟨rfl, hb⟩; refine ⟨_, rfl, ?_⟩; have n0_ := Aside0.mk (bbe (g := gb335) (o := .cells #[.int .i64 a0_0, .string a0_1, .slice A0_2 l0_2.length c0_2, .slice A0_3 l0_3.length c0_3, .string a0_4, .slice A0_5 l0_5.length c0_5, .slice A0_6 l0_6.length c0_6, .slice A0_7 l0_7.length c0_7] 35 (0, 0)) (by (with_reducible repeat (first | refine bdN ?_ _ | refine bkD ?_ | refine bkA ?_ _)); exact BK335.out) hb); have n1_ := Aside0.mk (bbe (g := gb336) (o := .cells #[.int .i64 a1_0, .string a1_1, .slice A1_2 l1_2.length c1_2, .slice A1_3 l1_3.length c1_3, .string a1_4, .slice A1_5 l1_5.length c1_5, .slice A1_6 l1_6.length c1_6, .slice A1_7 l1_7.length c1_7] 35 (0, 0)) (by (with_reducible repeat (first | refine bdN ?_ _ | refine bkD ?_ | refine bkA ?_ _)); exact BK336.out) hb); have n2_ := Aside0.mk (bst (by repeat (first | (with_reducible first | exact HB.out | apply bal | apply pbd | apply bd1 | refine bse ?_ GE335.out | refine bse ?_ GE336.out) | exact HB.out)) hb); replace BK335 := n0_; replace BK336 := n1_; replace HB := n2_; clear n0_ n1_ n2_; (try clear hb); (try clear hb2); (try clear hk); (try clear hi); obtain ⟨hcz88_0, hcz88_1, hcz88_2, hcz88_3, hcz88_4, hcz88_5, hcz88_6, hcz88_7⟩ := zC8 BK335.out; obtain ⟨hfz88_0, hfz88_1, hfz88_2, hfz88_3, hfz88_4, hfz88_5, hfz88_6, hfz88_7⟩ := zF8 BK335.out; obtain ⟨hcz89_0, hcz89_1, hcz89_2, hcz89_3, hcz89_4, hcz89_5, hcz89_6, hcz89_7⟩ := zC8 BK336.out; obtain ⟨hfz89_0, hfz89_1, hfz89_2, hfz89_3, hfz89_4, hfz89_5, hfz89_6⟩ := zF7 BK336.out; have hfz89_7 := bfz BK336.out 7)); go_ret; exact ⟨by first | rfl | (simp [eWn, eWs] <;> rfl) | (simp [*, eWn, eWs] <;> rfl), by repeat (first | (with_reducible first | exact HB.out | apply bal | apply pbd | apply bd1 | refine bse ?_ GE335.out | refine bse ?_ GE336.out) | exact HB.out)⟩
        · replace c8 := Bool.eq_false_iff.mpr c8; subst c8; (have H1 : (some false) = some r := by rw [if_neg (show ¬ (false = true) by decide)] at H; exact H); clear H; have H := H1; clear H1; obtain rfl := Option.some.inj H; go_enter Tryd.func9, Tryd.ntmps9; go_wp2_with (first | ((with_reducible refine gds (N := 2) rfl ?_); refine bxe ?hg (N := 2) ?hd (cs := #[.int .i64 a0_0, .string a0_1, .slice A0_2 l0_2.length c0_2, .slice A0_3 l0_3.length c0_3, .string a0_4, .slice A0_5 l0_5.length c0_5, .slice A0_6 l0_6.length c0_6, .slice A0_7 l0_7.length c0_7]) (t := 35) ?hr ?_; (case hd => rfl); (case hg => rfl); (case hr => first | (go_simp; done) | (go_simp; rfl)); intro gb335 hg w90 hbox hb; have n0_ := Aside0.mk (bst (by repeat (first | (with_reducible first | exact HB.out | apply bal | apply pbd | apply bd1) | exact HB.out)) hb); have n1_ := Aside0.mk (hbox); have n2_ := Aside0.mk ((by rw [hg]; exact (bsz (by repeat (first | (with_reducible first | exact HB.out | apply bal | apply pbd | apply bd1) | exact HB.out))) : w.heap.size ≤ gb335)); have n3_ := Aside0.mk ((by rw [hg]; exact (bsz (by repeat (first | (with_reducible first | exact HB.out | apply bal | apply pbd | apply bd1) | exact HB.out))) : w.heap.size ≤ gb335)); replace HB := n0_; have BK335 := n1_; have GW335 := n2_; have GE335 := n3_; clear n0_ n1_ n2_ n3_; clear hb hbox hg) | ((with_reducible refine gds (N := 3) rfl ?_); refine bxe ?hg (N := 3) ?hd (cs := #[.int .i64 a1_0, .string a1_1, .slice A1_2 l1_2.length c1_2, .slice A1_3 l1_3.length c1_3, .string a1_4, .slice A1_5 l1_5.length c1_5, .slice A1_6 l1_6.length c1_6, .slice A1_7 l1_7.length c1_7]) (t := 35) ?hr ?_; (case hd => rfl); (case hg => rfl); (case hr => first | (go_simp; done) | (go_simp; rfl)); intro gb336 hg w91 hbox hb; have n0_ := Aside0.mk (bbe (g := gb335) (o := .cells #[.int .i64 a0_0, .string a0_1, .slice A0_2 l0_2.length c0_2, .slice A0_3 l0_3.length c0_3, .string a0_4, .slice A0_5 l0_5.length c0_5, .slice A0_6 l0_6.length c0_6, .slice A0_7 l0_7.length c0_7] 35 (0, 0)) (by (with_reducible repeat (first | refine bdN ?_ _ | refine bkD ?_ | refine bkA ?_ _)); exact BK335.out) hb); have n1_ := Aside0.mk (bst (by repeat (first | (with_reducible first | exact HB.out | apply bal | apply pbd | apply bd1 | refine bse ?_ GE335.out) | exact HB.out)) hb); have n2_ := Aside0.mk (hbox); have n3_ := Aside0.mk ((by rw [hg]; exact (bsz (by repeat (first | (with_reducible first | exact HB.out | apply bal | apply pbd | apply bd1 | refine bse ?_ GE335.out) | exact HB.out))) : w.heap.size ≤ gb336)); have n4_ := Aside0.mk ((by rw [hg]; exact (bsz (by repeat (first | (with_reducible first | exact HB.out | apply bal | apply pbd | apply bd1 | refine bse ?_ GE335.out) | exact HB.out))) : w.heap.size ≤ gb336)); have n5_ := Aside0.mk ((by rw [hg]; exact Nat.ne_of_lt (blt (g := gb335) (o := .cells #[.int .i64 a0_0, .string a0_1, .slice A0_2 l0_2.length c0_2, .slice A0_3 l0_3.length c0_3, .string a0_4, .slice A0_5 l0_5.length c0_5, .slice A0_6 l0_6.length c0_6, .slice A0_7 l0_7.length c0_7] 35 (0, 0)) (by (with_reducible repeat (first | refine bdN ?_ _ | refine bkD ?_ | refine bkA ?_ _)); exact BK335.out)) : gb335 ≠ gb336)); have n6_ := Aside0.mk ((by rw [hg]; exact Nat.ne_of_gt (blt (g := gb335) (o := .cells #[.int .i64 a0_0, .string a0_1, .slice A0_2 l0_2.length c0_2, .slice A0_3 l0_3.length c0_3, .string a0_4, .slice A0_5 l0_5.length c0_5, .slice A0_6 l0_6.length c0_6, .slice A0_7 l0_7.length c0_7] 35 (0, 0)) (by (with_reducible repeat (first | refine bdN ?_ _ | refine bkD ?_ | refine bkA ?_ _)); exact BK335.out)) : gb336 ≠ gb335)); replace BK335 := n0_; replace HB := n1_; have BK336 := n2_; have GW336 := n3_; have GE336 := n4_; have NB335_336 := n5_; have NB336_335 := n6_; clear n0_ n1_ n2_ n3_ n4_ n5_ n6_; clear hb hbox hg; have hnb92 := NB335_336.out; have hnc92 := NB336_335.out; obtain ⟨hcz93_0, hcz93_1, hcz93_2, hcz93_3, hcz93_4, hcz93_5, hcz93_6, hcz93_7⟩ := zC8 BK335.out; obtain ⟨hfz93_0, hfz93_1, hfz93_2, hfz93_3, hfz93_4, hfz93_5, hfz93_6, hfz93_7⟩ := zF8 BK335.out; obtain ⟨hcz94_0, hcz94_1, hcz94_2, hcz94_3, hcz94_4, hcz94_5, hcz94_6, hcz94_7⟩ := zC8 BK336.out; obtain ⟨hfz94_0, hfz94_1, hfz94_2, hfz94_3, hfz94_4, hfz94_5, hfz94_6⟩ := zF7 BK336.out; have hfz94_7 := bfz BK336.out 7) | ((with_reducible refine gcl (f := 33) rfl ?_); refine goesL_ (some 19) rfl rfl Tryd.func33 (by kernel_rfl) rfl #[.slice A0_2 l0_2.length c0_2, .slice A1_2 l1_2.length c1_2] rfl (by (try simp only [List.map_toArray, List.map_cons, List.map_nil]); first | done | rfl | (simp only [List.length_drop, List.length_take]; rfl)) ?_; (with_reducible refine (laws_eqColumnS.calls k _ _ l0_2 _ _ l1_2 true _ ?side1 ?side2 ?side3 ?side4 A5.out).mono ?_); (case side1 => repeat (first | exact (Kd.Cbe HR0_2.out HB.out) | (with_reducible refine Kd.Cal ?_ _) | (with_reducible refine Kd.CdN ?_ _) | (with_reducible refine Kd.Cdr ?_))); (case side2 => exact HC0_2.out); (case side3 => repeat (first | exact (Kd.Cbe HR1_2.out HB.out) | (with_reducible refine Kd.Cal ?_ _) | (with_reducible refine Kd.CdN ?_ _) | (with_reducible refine Kd.Cdr ?_))); (case side4 => exact HC1_2.out); rintro e w95 ⟨rfl, hb⟩; refine ⟨_, rfl, ?_⟩; have n0_ := Aside0.mk (bbe (g := gb335) (o := .cells #[.int .i64 a0_0, .string a0_1, .slice A0_2 l0_2.length c0_2, .slice A0_3 l0_3.length c0_3, .string a0_4, .slice A0_5 l0_5.length c0_5, .slice A0_6 l0_6.length c0_6, .slice A0_7 l0_7.length c0_7] 35 (0, 0)) (by (with_reducible repeat (first | refine bdN ?_ _ | refine bkD ?_ | refine bkA ?_ _)); exact BK335.out) hb); have n1_ := Aside0.mk (bbe (g := gb336) (o := .cells #[.int .i64 a1_0, .string a1_1, .slice A1_2 l1_2.length c1_2, .slice A1_3 l1_3.length c1_3, .string a1_4, .slice A1_5 l1_5.length c1_5, .slice A1_6 l1_6.length c1_6, .slice A1_7 l1_7.length c1_7] 35 (0, 0)) (by (with_reducible repeat (first | refine bdN ?_ _ | refine bkD ?_ | refine bkA ?_ _)); exact BK336.out) hb); have n2_ := Aside0.mk (bst (by repeat (first | (with_reducible first | exact HB.out | apply bal | apply pbd | apply bd1 | refine bse ?_ GE335.out | refine bse ?_ GE336.out) | exact HB.out)) hb); replace BK335 := n0_; replace BK336 := n1_; replace HB := n2_; clear n0_ n1_ n2_; (try clear hb); (try clear hb2); (try clear hk); (try clear hi); obtain ⟨hcz96_0, hcz96_1, hcz96_2, hcz96_3, hcz96_4, hcz96_5, hcz96_6, hcz96_7⟩ := zC8 BK335.out; obtain ⟨hfz96_0, hfz96_1, hfz96_2, hfz96_3, hfz96_4, hfz96_5, hfz96_6, hfz96_7⟩ := zF8 BK335.out; obtain ⟨hcz97_0, hcz97_1, hcz97_2, hcz97_3, hcz97_4, hcz97_5, hcz97_6, hcz97_7⟩ := zC8 BK336.out; obtain ⟨hfz97_0, hfz97_1, hfz97_2, hfz97_3, hfz97_4, hfz97_5, hfz97_6⟩ := zF7 BK336.out; have hfz97_7 := bfz BK336.out 7) | ((with_reducible refine gcl (f := 34) rfl ?_); refine goesL_ (some 25) rfl rfl Tryd.func34 (by kernel_rfl) rfl #[.slice A0_3 l0_3.length c0_3, .slice A1_3 l1_3.length c1_3] rfl (by (try simp only [List.map_toArray, List.map_cons, List.map_nil]); first | done | rfl | (simp only [List.length_drop, List.length_take]; rfl)) ?_; (with_reducible refine (laws_eqValueS.calls k _ _ l0_3 _ _ l1_3 false _ ?side1 ?side2 ?side3 ?side4 A7.out).mono ?_); (case side1 => repeat (first | exact (Kd.Cbe HR0_3.out HB.out) | (with_reducible refine Kd.Cal ?_ _) | (with_reducible refine Kd.CdN ?_ _) | (with_reducible refine Kd.Cdr ?_))); (case side2 => exact HC0_3.out); (case side3 => repeat (first | exact (Kd.Cbe HR1_3.out HB.out) | (with_reducible refine Kd.Cal ?_ _) | (with_reducible refine Kd.CdN ?_ _) | (with_reducible refine Kd.Cdr ?_))); (case side4 => exact HC1_3.out); rintro e w98 ⟨rfl, hb⟩; refine ⟨_, rfl, ?_⟩; have n0_ := Aside0.mk (bbe (g := gb335) (o := .cells #[.int .i64 a0_0, .string a0_1, .slice A0_2 l0_2.length c0_2, .slice A0_3 l0_3.length c0_3, .string a0_4, .slice A0_5 l0_5.length c0_5, .slice A0_6 l0_6.length c0_6, .slice A0_7 l0_7.length c0_7] 35 (0, 0)) (by (with_reducible repeat (first | refine bdN ?_ _ | refine bkD ?_ | refine bkA ?_ _)); exact BK335.out) hb); have n1_ := Aside0.mk (bbe (g := gb336) (o := .cells #[.int .i64 a1_0, .string a1_1, .slice A1_2 l1_2.length c1_2, .slice A1_3 l1_3.length c1_3, .string a1_4, .slice A1_5 l1_5.length c1_5, .slice A1_6 l1_6.length c1_6, .slice A1_7 l1_7.length c1_7] 35 (0, 0)) (by (with_reducible repeat (first | refine bdN ?_ _ | refine bkD ?_ | refine bkA ?_ _)); exact BK336.out) hb); have n2_ := Aside0.mk (bst (by repeat (first | (with_reducible first | exact HB.out | apply bal | apply pbd | apply bd1 | refine bse ?_ GE335.out | refine bse ?_ GE336.out) | exact HB.out)) hb); replace BK335 := n0_; replace BK336 := n1_; replace HB := n2_; clear n0_ n1_ n2_; (try clear hb); (try clear hb2); (try clear hk); (try clear hi))); go_ret; exact ⟨by first | rfl | (simp [eWn, eWs] <;> rfl) | (simp [*, eWn, eWs] <;> rfl), by repeat (first | (with_reducible first | exact HB.out | apply bal | apply pbd | apply bd1 | refine bse ?_ GE335.out | refine bse ?_ GE336.out) | exact HB.out)⟩
      · replace c6 := Bool.eq_false_iff.mpr c6; subst c6; (have H1 : (some false) = some r := by rw [if_neg (show ¬ (false = true) by decide)] at H; exact H); clear H; have H := H1; clear H1; obtain rfl := Option.some.inj H; go_enter Tryd.func9, Tryd.ntmps9; go_wp2_with (first | ((with_reducible refine gds (N := 2) rfl ?_); refine bxe ?hg (N := 2) ?hd (cs := #[.int .i64 a0_0, .string a0_1, .slice A0_2 l0_2.length c0_2, .slice A0_3 l0_3.length c0_3, .string a0_4, .slice A0_5 l0_5.length c0_5, .slice A0_6 l0_6.length c0_6, .slice A0_7 l0_7.length c0_7]) (t := 35) ?hr ?_; (case hd => rfl); (case hg => rfl); (case hr => first | (go_simp; done) | (go_simp; rfl)); intro gb335 hg w99 hbox hb; have n0_ := Aside0.mk (bst (by repeat (first | (with_reducible first | exact HB.out | apply bal | apply pbd | apply bd1) | exact HB.out)) hb); have n1_ := Aside0.mk (hbox); have n2_ := Aside0.mk ((by rw [hg]; exact (bsz (by repeat (first | (with_reducible first | exact HB.out | apply bal | apply pbd | apply bd1) | exact HB.out))) : w.heap.size ≤ gb335)); have n3_ := Aside0.mk ((by rw [hg]; exact (bsz (by repeat (first | (with_reducible first | exact HB.out | apply bal | apply pbd | apply bd1) | exact HB.out))) : w.heap.size ≤ gb335)); replace HB := n0_; have BK335 := n1_; have GW335 := n2_; have GE335 := n3_; clear n0_ n1_ n2_ n3_; clear hb hbox hg) | ((with_reducible refine gds (N := 3) rfl ?_); refine bxe ?hg (N := 3) ?hd (cs := #[.int .i64 a1_0, .string a1_1, .slice A1_2 l1_2.length c1_2, .slice A1_3 l1_3.length c1_3, .string a1_4, .slice A1_5 l1_5.length c1_5, .slice A1_6 l1_6.length c1_6, .slice A1_7 l1_7.length c1_7]) (t := 35) ?hr ?_; (case hd => rfl); (case hg => rfl); (case hr => first | (go_simp; done) | (go_simp; rfl)); intro gb336 hg w100 hbox hb; have n0_ := Aside0.mk (bbe (g := gb335) (o := .cells #[.int .i64 a0_0, .string a0_1, .slice A0_2 l0_2.length c0_2, .slice A0_3 l0_3.length c0_3, .string a0_4, .slice A0_5 l0_5.length c0_5, .slice A0_6 l0_6.length c0_6, .slice A0_7 l0_7.length c0_7] 35 (0, 0)) (by (with_reducible repeat (first | refine bdN ?_ _ | refine bkD ?_ | refine bkA ?_ _)); exact BK335.out) hb); have n1_ := Aside0.mk (bst (by repeat (first | (with_reducible first | exact HB.out | apply bal | apply pbd | apply bd1 | refine bse ?_ GE335.out) | exact HB.out)) hb); have n2_ := Aside0.mk (hbox); have n3_ := Aside0.mk ((by rw [hg]; exact (bsz (by repeat (first | (with_reducible first | exact HB.out | apply bal | apply pbd | apply bd1 | refine bse ?_ GE335.out) | exact HB.out))) : w.heap.size ≤ gb336)); have n4_ := Aside0.mk ((by rw [hg]; exact (bsz (by repeat (first | (with_reducible first | exact HB.out | apply bal | apply pbd | apply bd1 | refine bse ?_ GE335.out) | exact HB.out))) : w.heap.size ≤ gb336)); have n5_ := Aside0.mk ((by rw [hg]; exact Nat.ne_of_lt (blt (g := gb335) (o := .cells #[.int .i64 a0_0, .string a0_1, .slice A0_2 l0_2.length c0_2, .slice A0_3 l0_3.length c0_3, .string a0_4, .slice A0_5 l0_5.length c0_5, .slice A0_6 l0_6.length c0_6, .slice A0_7 l0_7.length c0_7] 35 (0, 0)) (by (with_reducible repeat (first | refine bdN ?_ _ | refine bkD ?_ | refine bkA ?_ _)); exact BK335.out)) : gb335 ≠ gb336)); have n6_ := Aside0.mk ((by rw [hg]; exact Nat.ne_of_gt (blt (g := gb335) (o := .cells #[.int .i64 a0_0, .string a0_1, .slice A0_2 l0_2.length c0_2, .slice A0_3 l0_3.length c0_3, .string a0_4, .slice A0_5 l0_5.length c0_5, .slice A0_6 l0_6.length c0_6, .slice A0_7 l0_7.length c0_7] 35 (0, 0)) (by (with_reducible repeat (first | refine bdN ?_ _ | refine bkD ?_ | refine bkA ?_ _)); exact BK335.out)) : gb336 ≠ gb335)); replace BK335 := n0_; replace HB := n1_; have BK336 := n2_; have GW336 := n3_; have GE336 := n4_; have NB335_336 := n5_; have NB336_335 := n6_; clear n0_ n1_ n2_ n3_ n4_ n5_ n6_; clear hb hbox hg; have hnb101 := NB335_336.out; have hnc101 := NB336_335.out; obtain ⟨hcz102_0, hcz102_1, hcz102_2, hcz102_3, hcz102_4, hcz102_5, hcz102_6, hcz102_7⟩ := zC8 BK335.out; obtain ⟨hfz102_0, hfz102_1, hfz102_2, hfz102_3, hfz102_4, hfz102_5, hfz102_6, hfz102_7⟩ := zF8 BK335.out; obtain ⟨hcz103_0, hcz103_1, hcz103_2, hcz103_3, hcz103_4, hcz103_5, hcz103_6, hcz103_7⟩ := zC8 BK336.out; obtain ⟨hfz103_0, hfz103_1, hfz103_2, hfz103_3, hfz103_4, hfz103_5, hfz103_6⟩ := zF7 BK336.out; have hfz103_7 := bfz BK336.out 7) | ((with_reducible refine gcl (f := 33) rfl ?_); refine goesL_ (some 19) rfl rfl Tryd.func33 (by kernel_rfl) rfl #[.slice A0_2 l0_2.length c0_2, .slice A1_2 l1_2.length c1_2] rfl (by (try simp only [List.map_toArray, List.map_cons, List.map_nil]); first | done | rfl | (simp only [List.length_drop, List.length_take]; rfl)) ?_; (with_reducible refine (laws_eqColumnS.calls k _ _ l0_2 _ _ l1_2 false _ ?side1 ?side2 ?side3 ?side4 A5.out).mono ?_); (case side1 => repeat (first | exact (Kd.Cbe HR0_2.out HB.out) | (with_reducible refine Kd.Cal ?_ _) | (with_reducible refine Kd.CdN ?_ _) | (with_reducible refine Kd.Cdr ?_))); (case side2 => exact HC0_2.out); (case side3 => repeat (first | exact (Kd.Cbe HR1_2.out HB.out) | (with_reducible refine Kd.Cal ?_ _) | (with_reducible refine Kd.CdN ?_ _) | (with_reducible refine Kd.Cdr ?_))); (case side4 => exact HC1_2.out); rintro e w104 ⟨rfl, hb⟩; refine ⟨_, rfl, ?_⟩; have n0_ := Aside0.mk (bbe (g := gb335) (o := .cells #[.int .i64 a0_0, .string a0_1, .slice A0_2 l0_2.length c0_2, .slice A0_3 l0_3.length c0_3, .string a0_4, .slice A0_5 l0_5.length c0_5, .slice A0_6 l0_6.length c0_6, .slice A0_7 l0_7.length c0_7] 35 (0, 0)) (by (with_reducible repeat (first | refine bdN ?_ _ | refine bkD ?_ | refine bkA ?_ _)); exact BK335.out) hb); have n1_ := Aside0.mk (bbe (g := gb336) (o := .cells #[.int .i64 a1_0, .string a1_1, .slice A1_2 l1_2.length c1_2, .slice A1_3 l1_3.length c1_3, .string a1_4, .slice A1_5 l1_5.length c1_5, .slice A1_6 l1_6.length c1_6, .slice A1_7 l1_7.length c1_7] 35 (0, 0)) (by (with_reducible repeat (first | refine bdN ?_ _ | refine bkD ?_ | refine bkA ?_ _)); exact BK336.out) hb); have n2_ := Aside0.mk (bst (by repeat (first | (with_reducible first | exact HB.out | apply bal | apply pbd | apply bd1 | refine bse ?_ GE335.out | refine bse ?_ GE336.out) | exact HB.out)) hb); replace BK335 := n0_; replace BK336 := n1_; replace HB := n2_; clear n0_ n1_ n2_; (try clear hb); (try clear hb2); (try clear hk); (try clear hi))); go_ret; exact ⟨by first | rfl | (simp [eWn, eWs] <;> rfl) | (simp [*, eWn, eWs] <;> rfl), by repeat (first | (with_reducible first | exact HB.out | apply bal | apply pbd | apply bd1 | refine bse ?_ GE335.out | refine bse ?_ GE336.out) | exact HB.out)⟩
    · rw [if_neg c4] at H; have c4b0 : (a0_1.toList == a1_1.toList) = false := beq_eq_false_iff_ne.mpr c4; have c4b1 : (a0_1.toList != a1_1.toList) = true := bne_iff_ne.mpr c4; obtain rfl := Option.some.inj H; go_enter Tryd.func9, Tryd.ntmps9; go_wp2_with (first | ((with_reducible refine gds (N := 2) rfl ?_); refine bxe ?hg (N := 2) ?hd (cs := #[.int .i64 a0_0, .string a0_1, .slice A0_2 l0_2.length c0_2, .slice A0_3 l0_3.length c0_3, .string a0_4, .slice A0_5 l0_5.length c0_5, .slice A0_6 l0_6.length c0_6, .slice A0_7 l0_7.length c0_7]) (t := 35) ?hr ?_; (case hd => rfl); (case hg => rfl); (case hr => first | (go_simp; done) | (go_simp; rfl)); intro gb335 hg w105 hbox hb; have n0_ := Aside0.mk (bst (by repeat (first | (with_reducible first | exact HB.out | apply bal | apply pbd | apply bd1) | exact HB.out)) hb); have n1_ := Aside0.mk (hbox); have n2_ := Aside0.mk ((by rw [hg]; exact (bsz (by repeat (first | (with_reducible first | exact HB.out | apply bal | apply pbd | apply bd1) | exact HB.out))) : w.heap.size ≤ gb335)); have n3_ := Aside0.mk ((by rw [hg]; exact (bsz (by repeat (first | (with_reducible first | exact HB.out | apply bal | apply pbd | apply bd1) | exact HB.out))) : w.heap.size ≤ gb335)); replace HB := n0_; have BK335 := n1_; have GW335 := n2_; have GE335 := n3_; clear n0_ n1_ n2_ n3_; clear hb hbox hg) | ((with_reducible refine gds (N := 3) rfl ?_); refine bxe ?hg (N := 3) ?hd (cs := #[.int .i64 a1_0, .string a1_1, .slice A1_2 l1_2.length c1_2, .slice A1_3 l1_3.length c1_3, .string a1_4, .slice A1_5 l1_5.length c1_5, .slice A1_6 l1_6.length c1_6, .slice A1_7 l1_7.length c1_7]) (t := 35) ?hr ?_; (case hd => rfl); (case hg => rfl); (case hr => first | (go_simp; done) | (go_simp; rfl)); intro gb336 hg w106 hbox hb; have n0_ := Aside0.mk (bbe (g := gb335) (o := .cells #[.int .i64 a0_0, .string a0_1, .slice A0_2 l0_2.length c0_2, .slice A0_3 l0_3.length c0_3, .string a0_4, .slice A0_5 l0_5.length c0_5, .slice A0_6 l0_6.length c0_6, .slice A0_7 l0_7.length c0_7] 35 (0, 0)) (by (with_reducible repeat (first | refine bdN ?_ _ | refine bkD ?_ | refine bkA ?_ _)); exact BK335.out) hb); have n1_ := Aside0.mk (bst (by repeat (first | (with_reducible first | exact HB.out | apply bal | apply pbd | apply bd1 | refine bse ?_ GE335.out) | exact HB.out)) hb); have n2_ := Aside0.mk (hbox); have n3_ := Aside0.mk ((by rw [hg]; exact (bsz (by repeat (first | (with_reducible first | exact HB.out | apply bal | apply pbd | apply bd1 | refine bse ?_ GE335.out) | exact HB.out))) : w.heap.size ≤ gb336)); have n4_ := Aside0.mk ((by rw [hg]; exact (bsz (by repeat (first | (with_reducible first | exact HB.out | apply bal | apply pbd | apply bd1 | refine bse ?_ GE335.out) | exact HB.out))) : w.heap.size ≤ gb336)); have n5_ := Aside0.mk ((by rw [hg]; exact Nat.ne_of_lt (blt (g := gb335) (o := .cells #[.int .i64 a0_0, .string a0_1, .slice A0_2 l0_2.length c0_2, .slice A0_3 l0_3.length c0_3, .string a0_4, .slice A0_5 l0_5.length c0_5, .slice A0_6 l0_6.length c0_6, .slice A0_7 l0_7.length c0_7] 35 (0, 0)) (by (with_reducible repeat (first | refine bdN ?_ _ | refine bkD ?_ | refine bkA ?_ _)); exact BK335.out)) : gb335 ≠ gb336)); have n6_ := Aside0.mk ((by rw [hg]; exact Nat.ne_of_gt (blt (g := gb335) (o := .cells #[.int .i64 a0_0, .string a0_1, .slice A0_2 l0_2.length c0_2, .slice A0_3 l0_3.length c0_3, .string a0_4, .slice A0_5 l0_5.length c0_5, .slice A0_6 l0_6.length c0_6, .slice A0_7 l0_7.length c0_7] 35 (0, 0)) (by (with_reducible repeat (first | refine bdN ?_ _ | refine bkD ?_ | refine bkA ?_ _)); exact BK335.out)) : gb336 ≠ gb335)); replace BK335 := n0_; replace HB := n1_; have BK336 := n2_; have GW336 := n3_; have GE336 := n4_; have NB335_336 := n5_; have NB336_335 := n6_; clear n0_ n1_ n2_ n3_ n4_ n5_ n6_; clear hb hbox hg; have hnb107 := NB335_336.out; have hnc107 := NB336_335.out; obtain ⟨hcz108_0, hcz108_1, hcz108_2, hcz108_3, hcz108_4, hcz108_5, hcz108_6, hcz108_7⟩ := zC8 BK335.out; obtain ⟨hfz108_0, hfz108_1, hfz108_2, hfz108_3, hfz108_4, hfz108_5, hfz108_6, hfz108_7⟩ := zF8 BK335.out; obtain ⟨hcz109_0, hcz109_1, hcz109_2, hcz109_3, hcz109_4, hcz109_5, hcz109_6, hcz109_7⟩ := zC8 BK336.out; obtain ⟨hfz109_0, hfz109_1, hfz109_2, hfz109_3, hfz109_4, hfz109_5, hfz109_6⟩ := zF7 BK336.out; have hfz109_7 := bfz BK336.out 7)); go_ret; exact ⟨by first | rfl | (simp [eWn, eWs] <;> rfl) | (simp [*, eWn, eWs] <;> rfl), by repeat (first | (with_reducible first | exact HB.out | apply bal | apply pbd | apply bd1 | refine bse ?_ GE335.out | refine bse ?_ GE336.out) | exact HB.out)⟩
  · rw [if_neg c3] at H; have c3b0 : (a0_0 == a1_0) = false := beq_eq_false_iff_ne.mpr c3; have c3b1 : (a0_0 != a1_0) = true := bne_iff_ne.mpr c3; obtain rfl := Option.some.inj H; go_enter Tryd.func9, Tryd.ntmps9; go_wp2_with (first | ((with_reducible refine gds (N := 2) rfl ?_); refine bxe ?hg (N := 2) ?hd (cs := #[.int .i64 a0_0, .string a0_1, .slice A0_2 l0_2.length c0_2, .slice A0_3 l0_3.length c0_3, .string a0_4, .slice A0_5 l0_5.length c0_5, .slice A0_6 l0_6.length c0_6, .slice A0_7 l0_7.length c0_7]) (t := 35) ?hr ?_; (case hd => rfl); (case hg => rfl); (case hr => first | (go_simp; done) | (go_simp; rfl)); intro gb335 hg w110 hbox hb; have n0_ := Aside0.mk (bst (by repeat (first | (with_reducible first | exact HB.out | apply bal | apply pbd | apply bd1) | exact HB.out)) hb); have n1_ := Aside0.mk (hbox); have n2_ := Aside0.mk ((by rw [hg]; exact (bsz (by repeat (first | (with_reducible first | exact HB.out | apply bal | apply pbd | apply bd1) | exact HB.out))) : w.heap.size ≤ gb335)); have n3_ := Aside0.mk ((by rw [hg]; exact (bsz (by repeat (first | (with_reducible first | exact HB.out | apply bal | apply pbd | apply bd1) | exact HB.out))) : w.heap.size ≤ gb335)); replace HB := n0_; have BK335 := n1_; have GW335 := n2_; have GE335 := n3_; clear n0_ n1_ n2_ n3_; clear hb hbox hg) | ((with_reducible refine gds (N := 3) rfl ?_); refine bxe ?hg (N := 3) ?hd (cs := #[.int .i64 a1_0, .string a1_1, .slice A1_2 l1_2.length c1_2, .slice A1_3 l1_3.length c1_3, .string a1_4, .slice A1_5 l1_5.length c1_5, .slice A1_6 l1_6.length c1_6, .slice A1_7 l1_7.length c1_7]) (t := 35) ?hr ?_; (case hd => rfl); (case hg => rfl); (case hr => first | (go_simp; done) | (go_simp; rfl)); intro gb336 hg w111 hbox hb; have n0_ := Aside0.mk (bbe (g := gb335) (o := .cells #[.int .i64 a0_0, .string a0_1, .slice A0_2 l0_2.length c0_2, .slice A0_3 l0_3.length c0_3, .string a0_4, .slice A0_5 l0_5.length c0_5, .slice A0_6 l0_6.length c0_6, .slice A0_7 l0_7.length c0_7] 35 (0, 0)) (by (with_reducible repeat (first | refine bdN ?_ _ | refine bkD ?_ | refine bkA ?_ _)); exact BK335.out) hb); have n1_ := Aside0.mk (bst (by repeat (first | (with_reducible first | exact HB.out | apply bal | apply pbd | apply bd1 | refine bse ?_ GE335.out) | exact HB.out)) hb); have n2_ := Aside0.mk (hbox); have n3_ := Aside0.mk ((by rw [hg]; exact (bsz (by repeat (first | (with_reducible first | exact HB.out | apply bal | apply pbd | apply bd1 | refine bse ?_ GE335.out) | exact HB.out))) : w.heap.size ≤ gb336)); have n4_ := Aside0.mk ((by rw [hg]; exact (bsz (by repeat (first | (with_reducible first | exact HB.out | apply bal | apply pbd | apply bd1 | refine bse ?_ GE335.out) | exact HB.out))) : w.heap.size ≤ gb336)); have n5_ := Aside0.mk ((by rw [hg]; exact Nat.ne_of_lt (blt (g := gb335) (o := .cells #[.int .i64 a0_0, .string a0_1, .slice A0_2 l0_2.length c0_2, .slice A0_3 l0_3.length c0_3, .string a0_4, .slice A0_5 l0_5.length c0_5, .slice A0_6 l0_6.length c0_6, .slice A0_7 l0_7.length c0_7] 35 (0, 0)) (by (with_reducible repeat (first | refine bdN ?_ _ | refine bkD ?_ | refine bkA ?_ _)); exact BK335.out)) : gb335 ≠ gb336)); have n6_ := Aside0.mk ((by rw [hg]; exact Nat.ne_of_gt (blt (g := gb335) (o := .cells #[.int .i64 a0_0, .string a0_1, .slice A0_2 l0_2.length c0_2, .slice A0_3 l0_3.length c0_3, .string a0_4, .slice A0_5 l0_5.length c0_5, .slice A0_6 l0_6.length c0_6, .slice A0_7 l0_7.length c0_7] 35 (0, 0)) (by (with_reducible repeat (first | refine bdN ?_ _ | refine bkD ?_ | refine bkA ?_ _)); exact BK335.out)) : gb336 ≠ gb335)); replace BK335 := n0_; replace HB := n1_; have BK336 := n2_; have GW336 := n3_; have GE336 := n4_; have NB335_336 := n5_; have NB336_335 := n6_; clear n0_ n1_ n2_ n3_ n4_ n5_ n6_; clear hb hbox hg; have hnb112 := NB335_336.out; have hnc112 := NB336_335.out; obtain ⟨hcz113_0, hcz113_1, hcz113_2, hcz113_3, hcz113_4, hcz113_5, hcz113_6, hcz113_7⟩ := zC8 BK335.out; obtain ⟨hfz113_0, hfz113_1, hfz113_2, hfz113_3, hfz113_4, hfz113_5, hfz113_6, hfz113_7⟩ := zF8 BK335.out; obtain ⟨hcz114_0, hcz114_1, hcz114_2, hcz114_3, hcz114_4, hcz114_5, hcz114_6, hcz114_7⟩ := zC8 BK336.out; obtain ⟨hfz114_0, hfz114_1, hfz114_2, hfz114_3, hfz114_4, hfz114_5, hfz114_6⟩ := zF7 BK336.out; have hfz114_7 := bfz BK336.out 7)); go_ret; exact ⟨by first | rfl | (simp [eWn, eWs] <;> rfl) | (simp [*, eWn, eWs] <;> rfl), by repeat (first | (with_reducible first | exact HB.out | apply bal | apply pbd | apply bd1 | refine bse ?_ GE335.out | refine bse ?_ GE336.out) | exact HB.out)⟩
def laws_FnExactEncodeStm.f (k : Nat) (a0_0 : Int) (a0_1 : ByteArray) (l0_2 : List (S77)) (l0_3 : List (S79)) (a0_4 : ByteArray) (l0_5 : List (S82)) (l0_6 : List (S82)) (l0_7 : List (List (S82))) : Option (Bool) := (laws_szStm.f k a0_0 a0_1 l0_2 l0_3 a0_4 l0_5 l0_6 l0_7 1048576).bind fun t343 => (if t343 < 0 then (some true) else ((laws_toStm.f k a0_0 a0_1 l0_2 l0_3 a0_4 l0_5 l0_6 l0_7).bind fun bt344 => ((spec_EncodeStm.f k bt344.1 bt344.2.1 bt344.2.2.1 bt344.2.2.2.1 bt344.2.2.2.2.1 bt344.2.2.2.2.2.1 bt344.2.2.2.2.2.2.1 bt344.2.2.2.2.2.2.2).bind fun t362 => ((laws_toStm.f k a0_0 a0_1 l0_2 l0_3 a0_4 l0_5 l0_6 l0_7).bind fun bt363 => ((impl_EncodeStm.f k bt363.1 bt363.2.1 bt363.2.2.1 bt363.2.2.2.1 bt363.2.2.2.2.1 bt363.2.2.2.2.2.1 bt363.2.2.2.2.2.2.1 bt363.2.2.2.2.2.2.2).bind fun t382 => (if t382.toList = t362.toList then ((laws_toStm.f k a0_0 a0_1 l0_2 l0_3 a0_4 l0_5 l0_6 l0_7).bind fun bt383 => ((laws_eqStm.f k bt363.1 bt363.2.1 bt363.2.2.1 bt363.2.2.2.1 bt363.2.2.2.2.1 bt363.2.2.2.2.2.1 bt363.2.2.2.2.2.2.1 bt363.2.2.2.2.2.2.2 bt383.1 bt383.2.1 bt383.2.2.1 bt383.2.2.2.1 bt383.2.2.2.2.1 bt383.2.2.2.2.2.1 bt383.2.2.2.2.2.2.1 bt383.2.2.2.2.2.2.2).bind fun t401 => (if t401 = true then (some true) else (some false)))) else (some false)))))))
theorem laws_FnExactEncodeStm.mono : ∀ a0 a1 a2 a3 a4 a5 a6 a7 k, LeO (laws_FnExactEncodeStm.f k a0 a1 a2 a3 a4 a5 a6 a7) (laws_FnExactEncodeStm.f (k + 1) a0 a1 a2 a3 a4 a5 a6 a7) := by
  intro a0 a1 a2 a3 a4 a5 a6 a7 k
  unfold laws_FnExactEncodeStm.f
  repeat' first
      | (with_reducible exact impl_EncodeStm.mono _ _ _ _ _ _ _ _ _)
      | (with_reducible exact laws_eqStm.mono _ _ _ _ _ _ _ _ _ _ _ _ _ _ _ _ _)
      | (with_reducible exact laws_szStm.mono _ _ _ _ _ _ _ _ _ _)
      | (with_reducible exact laws_toStm.mono _ _ _ _ _ _ _ _ _)
      | (with_reducible exact spec_EncodeStm.mono _ _ _ _ _ _ _ _ _)
      | (with_reducible exact LeO.refl _)
      | (with_reducible exact LeO.none _)
      | (with_reducible refine LeO.ite ?_ ?_)
      | (with_reducible refine LeO.bind ?_ (fun _ => ?_))
      | exact impl_EncodeStm.mono _ _ _ _ _ _ _ _ _
      | exact laws_eqStm.mono _ _ _ _ _ _ _ _ _ _ _ _ _ _ _ _ _
      | exact laws_szStm.mono _ _ _ _ _ _ _ _ _ _
      | exact laws_toStm.mono _ _ _ _ _ _ _ _ _
      | exact spec_EncodeStm.mono _ _ _ _ _ _ _ _ _
      | exact LeO.none _
      | refine LeO.ite ?_ ?_
      | refine LeO.bind ?_ (fun _ => ?_)
set_option maxHeartbeats 8000000 in
set_option maxRecDepth 100000 in
theorem laws_FnExactEncodeStm.calls (k : Nat) (a0_0 : Int) (a0_1 : ByteArray) (A0_2 : Option Addr) (c0_2 : Nat) (l0_2 : List (S77)) (A0_3 : Option Addr) (c0_3 : Nat) (l0_3 : List (S79)) (a0_4 : ByteArray) (A0_5 : Option Addr) (c0_5 : Nat) (l0_5 : List (S82)) (A0_6 : Option Addr) (c0_6 : Nat) (l0_6 : List (S82)) (A0_7 : Option Addr) (c0_7 : Nat) (l0_7 : List (List (S82))) (r : Bool) (hT : r = true) (w : World) (hG : GOK w) (hr0_2 : Kd.C k77 w A0_2 l0_2.length l0_2) (hc0_2 : l0_2.length ≤ c0_2) (hr0_3 : Kd.C k79 w A0_3 l0_3.length l0_3) (hc0_3 : l0_3.length ≤ c0_3) (hr0_5 : Kd.C k82 w A0_5 l0_5.length l0_5) (hc0_5 : l0_5.length ≤ c0_5) (hr0_6 : Kd.C k82 w A0_6 l0_6.length l0_6) (hc0_6 : l0_6.length ≤ c0_6) (hr0_7 : Kd.C (Kd.slice 82 k82) w A0_7 l0_7.length l0_7) (hc0_7 : l0_7.length ≤ c0_7) (h : laws_FnExactEncodeStm.f k a0_0 a0_1 l0_2 l0_3 a0_4 l0_5 l0_6 l0_7 = some r) :
    Calls Tryd.prog 3 #[.agg #[.int .i64 a0_0, .string a0_1, .slice A0_2 l0_2.length c0_2, .slice A0_3 l0_3.length c0_3, .string a0_4, .slice A0_5 l0_5.length c0_5, .slice A0_6 l0_6.length c0_6, .slice A0_7 l0_7.length c0_7]] w fun e w' => e = .returned (.bool r) ∧ Below w.heap.size w w' := by
  have hu27 := Tryd.underlying27; have hu35 := Tryd.underlying35; have HR0_2 := Aside0.mk hr0_2; have HC0_2 := Aside0.mk hc0_2; clear hr0_2 hc0_2; have HR0_3 := Aside0.mk hr0_3; have HC0_3 := Aside0.mk hc0_3; clear hr0_3 hc0_3; have HR0_5 := Aside0.mk hr0_5; have HC0_5 := Aside0.mk hc0_5; clear hr0_5 hc0_5; have HR0_6 := Aside0.mk hr0_6; have HC0_6 := Aside0.mk hc0_6; clear hr0_6 hc0_6; have HR0_7 := Aside0.mk hr0_7; have HC0_7 := Aside0.mk hc0_7; clear hr0_7 hc0_7; have HB := Aside0.mk (Below.refl w.heap.size w); have H : ((laws_szStm.f k a0_0 a0_1 l0_2 l0_3 a0_4 l0_5 l0_6 l0_7 1048576).bind fun t343 => (if t343 < 0 then (some true) else ((laws_toStm.f k a0_0 a0_1 l0_2 l0_3 a0_4 l0_5 l0_6 l0_7).bind fun bt344 => ((spec_EncodeStm.f k bt344.1 bt344.2.1 bt344.2.2.1 bt344.2.2.2.1 bt344.2.2.2.2.1 bt344.2.2.2.2.2.1 bt344.2.2.2.2.2.2.1 bt344.2.2.2.2.2.2.2).bind fun t362 => ((laws_toStm.f k a0_0 a0_1 l0_2 l0_3 a0_4 l0_5 l0_6 l0_7).bind fun bt363 => ((impl_EncodeStm.f k bt363.1 bt363.2.1 bt363.2.2.1 bt363.2.2.2.1 bt363.2.2.2.2.1 bt363.2.2.2.2.2.1 bt363.2.2.2.2.2.2.1 bt363.2.2.2.2.2.2.2).bind fun t382 => (if t382.toList = t362.toList then ((laws_toStm.f k a0_0 a0_1 l0_2 l0_3 a0_4 l0_5 l0_6 l0_7).bind fun bt383 => ((laws_eqStm.f k bt363.1 bt363.2.1 bt363.2.2.1 bt363.2.2.2.1 bt363.2.2.2.2.1 bt363.2.2.2.2.2.1 bt363.2.2.2.2.2.2.1 bt363.2.2.2.2.2.2.2 bt383.1 bt383.2.1 bt383.2.2.1 bt383.2.2.2.1 bt383.2.2.2.2.1 bt383.2.2.2.2.2.1 bt383.2.2.2.2.2.2.1 bt383.2.2.2.2.2.2.2).bind fun t401 => (if t401 = true then (some true) else (some false)))) else (some false)))))))) = some r := h; clear h; replace H := Option.bind_eq_some_iff.mp H; obtain ⟨t343, A20, H⟩ := H; replace H : (if t343 < 0 then (some true) else ((laws_toStm.f k a0_0 a0_1 l0_2 l0_3 a0_4 l0_5 l0_6 l0_7).bind fun bt344 => ((spec_EncodeStm.f k bt344.1 bt344.2.1 bt344.2.2.1 bt344.2.2.2.1 bt344.2.2.2.2.1 bt344.2.2.2.2.2.1 bt344.2.2.2.2.2.2.1 bt344.2.2.2.2.2.2.2).bind fun t362 => ((laws_toStm.f k a0_0 a0_1 l0_2 l0_3 a0_4 l0_5 l0_6 l0_7).bind fun bt363 => ((impl_EncodeStm.f k bt363.1 bt363.2.1 bt363.2.2.1 bt363.2.2.2.1 bt363.2.2.2.2.1 bt363.2.2.2.2.2.1 bt363.2.2.2.2.2.2.1 bt363.2.2.2.2.2.2.2).bind fun t382 => (if t382.toList = t362.toList then ((laws_toStm.f k a0_0 a0_1 l0_2 l0_3 a0_4 l0_5 l0_6 l0_7).bind fun bt383 => ((laws_eqStm.f k bt363.1 bt363.2.1 bt363.2.2.1 bt363.2.2.2.1 bt363.2.2.2.2.1 bt363.2.2.2.2.2.1 bt363.2.2.2.2.2.2.1 bt363.2.2.2.2.2.2.2 bt383.1 bt383.2.1 bt383.2.2.1 bt383.2.2.2.1 bt383.2.2.2.2.1 bt383.2.2.2.2.2.1 bt383.2.2.2.2.2.2.1 bt383.2.2.2.2.2.2.2).bind fun t401 => (if t401 = true then (some true) else (some false)))) else (some false))))))) = some r := H; have A2 := Aside0.mk A20; clear A20; by_cases c3 : t343 < 0
  · rw [if_pos c3] at H; have c3b0 : decide (t343 < 0) = true := decide_eq_true c3; clear c3; obtain rfl := Option.some.inj H; go_enter Tryd.func3, Tryd.ntmps3; go_wp2_with (first | ((with_reducible refine gds (N := 1) rfl ?_); refine bxe ?hg (N := 1) ?hd (cs := #[.int .i64 a0_0, .string a0_1, .slice A0_2 l0_2.length c0_2, .slice A0_3 l0_3.length c0_3, .string a0_4, .slice A0_5 l0_5.length c0_5, .slice A0_6 l0_6.length c0_6, .slice A0_7 l0_7.length c0_7]) (t := 27) ?hr ?_; (case hd => rfl); (case hg => rfl); (case hr => first | (go_simp; done) | (go_simp; rfl)); intro gb342 hg w4 hbox hb; have n0_ := Aside0.mk (bst (by repeat (first | (with_reducible first | exact HB.out | apply bal | apply pbd | apply bd1) | exact HB.out)) hb); have n1_ := Aside0.mk (hbox); have n2_ := Aside0.mk ((by rw [hg]; exact (bsz (by repeat (first | (with_reducible first | exact HB.out | apply bal | apply pbd | apply bd1) | exact HB.out))) : w.heap.size ≤ gb342)); have n3_ := Aside0.mk ((by rw [hg]; exact (bsz (by repeat (first | (with_reducible first | exact HB.out | apply bal | apply pbd | apply bd1) | exact HB.out))) : w.heap.size ≤ gb342)); replace HB := n0_; have BK342 := n1_; have GW342 := n2_; have GE342 := n3_; clear n0_ n1_ n2_ n3_; clear hb hbox hg; obtain ⟨hcz5_0, hcz5_1, hcz5_2, hcz5_3, hcz5_4, hcz5_5, hcz5_6, hcz5_7⟩ := zC8 BK342.out; obtain ⟨hfz5_0, hfz5_1, hfz5_2, hfz5_3, hfz5_4, hfz5_5, hfz5_6⟩ := zF7 BK342.out; have hfz5_7 := bfz BK342.out 7) | ((with_reducible refine gcl (f := 5) rfl ?_); refine goesL_ (some 9) rfl rfl Tryd.func5 (by kernel_rfl) rfl #[.agg #[.int .i64 a0_0, .string a0_1, .slice A0_2 l0_2.length c0_2, .slice A0_3 l0_3.length c0_3, .string a0_4, .slice A0_5 l0_5.length c0_5, .slice A0_6 l0_6.length c0_6, .slice A0_7 l0_7.length c0_7], .int .i64 1048576] rfl (by (try simp only [List.map_toArray, List.map_cons, List.map_nil]); first | done | rfl | (simp only [List.length_drop, List.length_take]; rfl)) ?_; (with_reducible refine (laws_szStm.calls k a0_0 a0_1 _ _ l0_2 _ _ l0_3 a0_4 _ _ l0_5 _ _ l0_6 _ _ l0_7 1048576 t343 _ ?side1 ?side2 ?side3 ?side4 ?side5 ?side6 ?side7 ?side8 ?side9 ?side10 A2.out).mono ?_); (case side1 => repeat (first | exact (Kd.Cbe HR0_2.out HB.out) | (with_reducible refine Kd.Cal ?_ _) | (with_reducible refine Kd.CdN ?_ _) | (with_reducible refine Kd.Cdr ?_))); (case side2 => exact HC0_2.out); (case side3 => repeat (first | exact (Kd.Cbe HR0_3.out HB.out) | (with_reducible refine Kd.Cal ?_ _) | (with_reducible refine Kd.CdN ?_ _) | (with_reducible refine Kd.Cdr ?_))); (case side4 => exact HC0_3.out); (case side5 => repeat (first | exact (Kd.Cbe HR0_5.out HB.out) | (with_reducible refine Kd.Cal ?_ _) | (with_reducible refine Kd.CdN ?_ _) | (with_reducible refine Kd.Cdr ?_))); (case side6 => exact HC0_5.out); (case side7 => repeat (first | exact (Kd.Cbe HR0_6.out HB.out) | (with_reducible refine Kd.Cal ?_ _) | (with_reducible refine Kd.CdN ?_ _) | (with_reducible refine Kd.Cdr ?_))); (case side8 => exact HC0_6.out); (case side9 => repeat (first | exact (Kd.Cbe HR0_7.out HB.out) | (with_reducible refine Kd.Cal ?_ _) | (with_reducible refine Kd.CdN ?_ _) | (with_reducible refine Kd.Cdr ?_))); (case side10 => exact HC0_7.out); rintro e w6 ⟨rfl, hb⟩; refine ⟨_, rfl, ?_⟩; have n0_ := Aside0.mk (bbe (g := gb342) (o := .cells #[.int .i64 a0_0, .string a0_1, .slice A0_2 l0_2.length c0_2, .slice A0_3 l0_3.length c0_3, .string a0_4, .slice A0_5 l0_5.length c0_5, .slice A0_6 l0_6.length c0_6, .slice A0_7 l0_7.length c0_7] 27 (0, 0)) (by (with_reducible repeat (first | refine bdN ?_ _ | refine bkD ?_ | refine bkA ?_ _)); exact BK342.out) hb); have n1_ := Aside0.mk (bst (by repeat (first | (with_reducible first | exact HB.out | apply bal | apply pbd | apply bd1 | refine bse ?_ GE342.out) | exact HB.out)) hb); replace BK342 := n0_; replace HB := n1_; clear n0_ n1_; (try clear hb); (try clear hb2); (try clear hk); (try clear hi))); go_ret; exact ⟨by first | rfl | (simp [eWn, eWs] <;> rfl) | (simp [*, eWn, eWs] <;> rfl), by repeat (first | (with_reducible first | exact HB.out | apply bal | apply pbd | apply bd1 | refine bse ?_ GE342.out) | exact HB.out)⟩
  · rw [if_neg c3] at H; have c3b0 : decide (t343 < 0) = false := decide_eq_false c3; clear c3; replace H := Option.bind_eq_some_iff.mp H; obtain ⟨⟨t344, t345, t346, t349, t352, t353, t356, t359⟩, A70, H⟩ := H; replace H : ((spec_EncodeStm.f k t344 t345 t346 t349 t352 t353 t356 t359).bind fun t362 => ((laws_toStm.f k a0_0 a0_1 l0_2 l0_3 a0_4 l0_5 l0_6 l0_7).bind fun bt363 => ((impl_EncodeStm.f k bt363.1 bt363.2.1 bt363.2.2.1 bt363.2.2.2.1 bt363.2.2.2.2.1 bt363.2.2.2.2.2.1 bt363.2.2.2.2.2.2.1 bt363.2.2.2.2.2.2.2).bind fun t382 => (if t382.toList = t362.toList then ((laws_toStm.f k a0_0 a0_1 l0_2 l0_3 a0_4 l0_5 l0_6 l0_7).bind fun bt383 => ((laws_eqStm.f k bt363.1 bt363.2.1 bt363.2.2.1 bt363.2.2.2.1 bt363.2.2.2.2.1 bt363.2.2.2.2.2.1 bt363.2.2.2.2.2.2.1 bt363.2.2.2.2.2.2.2 bt383.1 bt383.2.1 bt383.2.2.1 bt383.2.2.2.1 bt383.2.2.2.2.1 bt383.2.2.2.2.2.1 bt383.2.2.2.2.2.2.1 bt383.2.2.2.2.2.2.2).bind fun t401 => (if t401 = true then (some true) else (some false)))) else (some false))))) = some r := H; have A7 := Aside0.mk A70; clear A70; replace H := Option.bind_eq_some_iff.mp H; obtain ⟨t362, A80, H⟩ := H; replace H : ((laws_toStm.f k a0_0 a0_1 l0_2 l0_3 a0_4 l0_5 l0_6 l0_7).bind fun bt363 => ((impl_EncodeStm.f k bt363.1 bt363.2.1 bt363.2.2.1 bt363.2.2.2.1 bt363.2.2.2.2.1 bt363.2.2.2.2.2.1 bt363.2.2.2.2.2.2.1 bt363.2.2.2.2.2.2.2).bind fun t382 => (if t382.toList = t362.toList then ((laws_toStm.f k a0_0 a0_1 l0_2 l0_3 a0_4 l0_5 l0_6 l0_7).bind fun bt383 => ((laws_eqStm.f k bt363.1 bt363.2.1 bt363.2.2.1 bt363.2.2.2.1 bt363.2.2.2.2.1 bt363.2.2.2.2.2.1 bt363.2.2.2.2.2.2.1 bt363.2.2.2.2.2.2.2 bt383.1 bt383.2.1 bt383.2.2.1 bt383.2.2.2.1 bt383.2.2.2.2.1 bt383.2.2.2.2.2.1 bt383.2.2.2.2.2.2.1 bt383.2.2.2.2.2.2.2).bind fun t401 => (if t401 = true then (some true) else (some false)))) else (some false)))) = some r := H; have A8 := Aside0.mk A80; clear A80; replace H := Option.bind_eq_some_iff.mp H; obtain ⟨⟨t363, t364, t365, t368, t371, t372, t375, t378⟩, A90, H⟩ := H; replace H : ((impl_EncodeStm.f k t363 t364 t365 t368 t371 t372 t375 t378).bind fun t382 => (if t382.toList = t362.toList then ((laws_toStm.f k a0_0 a0_1 l0_2 l0_3 a0_4 l0_5 l0_6 l0_7).bind fun bt383 => ((laws_eqStm.f k t363 t364 t365 t368 t371 t372 t375 t378 bt383.1 bt383.2.1 bt383.2.2.1 bt383.2.2.2.1 bt383.2.2.2.2.1 bt383.2.2.2.2.2.1 bt383.2.2.2.2.2.2.1 bt383.2.2.2.2.2.2.2).bind fun t401 => (if t401 = true then (some true) else (some false)))) else (some false))) = some r := H; have A9 := Aside0.mk A90; clear A90; replace H := Option.bind_eq_some_iff.mp H; obtain ⟨t382, A100, H⟩ := H; replace H : (if t382.toList = t362.toList then ((laws_toStm.f k a0_0 a0_1 l0_2 l0_3 a0_4 l0_5 l0_6 l0_7).bind fun bt383 => ((laws_eqStm.f k t363 t364 t365 t368 t371 t372 t375 t378 bt383.1 bt383.2.1 bt383.2.2.1 bt383.2.2.2.1 bt383.2.2.2.2.1 bt383.2.2.2.2.2.1 bt383.2.2.2.2.2.2.1 bt383.2.2.2.2.2.2.2).bind fun t401 => (if t401 = true then (some true) else (some false)))) else (some false)) = some r := H; have A10 := Aside0.mk A100; clear A100; by_cases c11 : t382.toList = t362.toList
    · rw [if_pos c11] at H; have c11b0 : (t382.toList == t362.toList) = true := beq_iff_eq.mpr c11; have c11b1 : (t382.toList != t362.toList) = false := bne_eq_false_iff_eq.mpr c11; clear c11; replace H := Option.bind_eq_some_iff.mp H; obtain ⟨⟨t383, t384, t385, t388, t391, t392, t395, t398⟩, A120, H⟩ := H; replace H : ((laws_eqStm.f k t363 t364 t365 t368 t371 t372 t375 t378 t383 t384 t385 t388 t391 t392 t395 t398).bind fun t401 => (if t401 = true then (some true) else (some false))) = some r := H; have A12 := Aside0.mk A120; clear A120; replace H := Option.bind_eq_some_iff.mp H; obtain ⟨t401, A130, H⟩ := H; replace H : (if t401 = true then (some true) else (some false)) = some r := H; have A13 := Aside0.mk A130; clear A130; by_cases c14 : t401 = true
      · subst c14; (have H1 : (some true) = some r := by rw [if_pos rfl] at H; exact H); clear H; have H := H1; clear H1; obtain rfl := Option.some.inj H; go_enter Tryd.func3, Tryd.ntmps3; (try go_wp2_with (first | ((with_reducible refine gds (N := 1) rfl ?_); refine bxe ?hg (N := 1) ?hd (cs := #[.int .i64 a0_0, .string a0_1, .slice A0_2 l0_2.length c0_2, .slice A0_3 l0_3.length c0_3, .string a0_4, .slice A0_5 l0_5.length c0_5, .slice A0_6 l0_6.length c0_6, .slice A0_7 l0_7.length c0_7]) (t := 27) ?hr ?_; (case hd => rfl); (case hg => rfl); (case hr => first | (go_simp; done) | (go_simp; rfl)); intro gb342 hg w15 hbox hb; have n0_ := Aside0.mk (bst (by repeat (first | (with_reducible first | exact HB.out | apply bal | apply pbd | apply bd1) | exact HB.out)) hb); have n1_ := Aside0.mk (hbox); have n2_ := Aside0.mk ((by rw [hg]; exact (bsz (by repeat (first | (with_reducible first | exact HB.out | apply bal | apply pbd | apply bd1) | exact HB.out))) : w.heap.size ≤ gb342)); have n3_ := Aside0.mk ((by rw [hg]; exact (bsz (by repeat (first | (with_reducible first | exact HB.out | apply bal | apply pbd | apply bd1) | exact HB.out))) : w.heap.size ≤ gb342)); replace HB := n0_; have BK342 := n1_; have GW342 := n2_; have GE342 := n3_; clear n0_ n1_ n2_ n3_; clear hb hbox hg; obtain ⟨hcz16_0, hcz16_1, hcz16_2, hcz16_3, hcz16_4, hcz16_5, hcz16_6, hcz16_7⟩ := zC8 BK342.out; obtain ⟨hfz16_0, hfz16_1, hfz16_2, hfz16_3, hfz16_4, hfz16_5, hfz16_6⟩ := zF7 BK342.out; have hfz16_7 := bfz BK342.out 7) | ((with_reducible refine gcl (f := 5) rfl ?_); refine goesL_ (some 9) rfl rfl Tryd.func5 (by kernel_rfl) rfl #[.agg #[.int .i64 a0_0, .string a0_1, .slice A0_2 l0_2.length c0_2, .slice A0_3 l0_3.length c0_3, .string a0_4, .slice A0_5 l0_5.length c0_5, .slice A0_6 l0_6.length c0_6, .slice A0_7 l0_7.length c0_7], .int .i64 1048576] rfl (by (try simp only [List.map_toArray, List.map_cons, List.map_nil]); first | done | rfl | (simp only [List.length_drop, List.length_take]; rfl)) ?_; (with_reducible refine (laws_szStm.calls k a0_0 a0_1 _ _ l0_2 _ _ l0_3 a0_4 _ _ l0_5 _ _ l0_6 _ _ l0_7 1048576 t343 _ ?side1 ?side2 ?side3 ?side4 ?side5 ?side6 ?side7 ?side8 ?side9 ?side10 A2.out).mono ?_); (case side1 => repeat (first | exact (Kd.Cbe HR0_2.out HB.out) | (with_reducible refine Kd.Cal ?_ _) | (with_reducible refine Kd.CdN ?_ _) | (with_reducible refine Kd.Cdr ?_))); (case side2 => exact HC0_2.out); (case side3 => repeat (first | exact (Kd.Cbe HR0_3.out HB.out) | (with_reducible refine Kd.Cal ?_ _) | (with_reducible refine Kd.CdN ?_ _) | (with_reducible refine Kd.Cdr ?_))); (case side4 => exact HC0_3.out); (case side5 => repeat (first | exact (Kd.Cbe HR0_5.out HB.out) | (with_reducible refine Kd.Cal ?_ _) | (with_reducible refine Kd.CdN ?_ _) | (with_reducible refine Kd.Cdr ?_))); (case side6 => exact HC0_5.out); (case side7 => repeat (first | exact (Kd.Cbe HR0_6.out HB.out) | (with_reducible refine Kd.Cal ?_ _) | (with_reducible refine Kd.CdN ?_ _) | (with_reducible refine Kd.Cdr ?_))); (case side8 => exact HC0_6.out); (case side9 => repeat (first | exact (Kd.Cbe HR0_7.out HB.out) | (with_reducible refine Kd.Cal ?_ _) | (with_reducible refine Kd.CdN ?_ _) | (with_reducible refine Kd.Cdr ?_))); (case side10 => exact HC0_7.out); rintro e w17 ⟨rfl, hb⟩; refine ⟨_, rfl, ?_⟩; have n0_ := Aside0.mk (bbe (g := gb342) (o := .cells #[.int .i64 a0_0, .string a0_1, .slice A0_2 l0_2.length c0_2, .slice A0_3 l0_3.length c0_3, .string a0_4, .slice A0_5 l0_5.length c0_5, .slice A0_6 l0_6.length c0_6, .slice A0_7 l0_7.length c0_7] 27 (0, 0)) (by (with_reducible repeat (first | refine bdN ?_ _ | refine bkD ?_ | refine bkA ?_ _)); exact BK342.out) hb); have n1_ := Aside0.mk (bst (by repeat (first | (with_reducible first | exact HB.out | apply bal | apply pbd | apply bd1 | refine bse ?_ GE342.out) | exact HB.out)) hb); replace BK342 := n0_; replace HB := n1_; clear n0_ n1_; (try clear hb); (try clear hb2); (try clear hk); (try clear hi); obtain ⟨hcz18_0, hcz18_1, hcz18_2, hcz18_3, hcz18_4, hcz18_5, hcz18_6, hcz18_7⟩ := zC8 BK342.out; obtain ⟨hfz18_0, hfz18_1, hfz18_2, hfz18_3, hfz18_4, hfz18_5, hfz18_6⟩ := zF7 BK342.out; have hfz18_7 := bfz BK342.out 7) | ((with_reducible refine gcl (f := 7) rfl ?_); refine goesL_ (some 13) rfl rfl Tryd.func7 (by kernel_rfl) rfl #[.agg #[.int .i64 a0_0, .string a0_1, .slice A0_2 l0_2.length c0_2, .slice A0_3 l0_3.length c0_3, .string a0_4, .slice A0_5 l0_5.length c0_5, .slice A0_6 l0_6.length c0_6, .slice A0_7 l0_7.length c0_7]] rfl (by (try simp only [List.map_toArray, List.map_cons, List.map_nil]); first | done | rfl | (simp only [List.length_drop, List.length_take]; rfl)) ?_; (with_reducible refine (laws_toStm.calls k a0_0 a0_1 _ _ l0_2 _ _ l0_3 a0_4 _ _ l0_5 _ _ l0_6 _ _ l0_7 t344 t345 t346 t349 t352 t353 t356 t359 _ ?side1 ?side2 ?side3 ?side4 ?side5 ?side6 ?side7 ?side8 ?side9 ?side10 A7.out).mono ?_); (case side1 => repeat (first | exact (Kd.Cbe HR0_2.out HB.out) | (with_reducible refine Kd.Cal ?_ _) | (with_reducible refine Kd.CdN ?_ _) | (with_reducible refine Kd.Cdr ?_))); (case side2 => exact HC0_2.out); (case side3 => repeat (first | exact (Kd.Cbe HR0_3.out HB.out) | (with_reducible refine Kd.Cal ?_ _) | (with_reducible refine Kd.CdN ?_ _) | (with_reducible refine Kd.Cdr ?_))); (case side4 => exact HC0_3.out); (case side5 => repeat (first | exact (Kd.Cbe HR0_5.out HB.out) | (with_reducible refine Kd.Cal ?_ _) | (with_reducible refine Kd.CdN ?_ _) | (with_reducible refine Kd.Cdr ?_))); (case side6 => exact HC0_5.out); (case side7 => repeat (first | exact (Kd.Cbe HR0_6.out HB.out) | (with_reducible refine Kd.Cal ?_ _) | (with_reducible refine Kd.CdN ?_ _) | (with_reducible refine Kd.Cdr ?_))); (case side8 => exact HC0_6.out); (case side9 => repeat (first | exact (Kd.Cbe HR0_7.out HB.out) | (with_reducible refine Kd.Cal ?_ _) | (with_reducible refine Kd.CdN ?_ _) | (with_reducible refine Kd.Cdr ?_))); (case side10 => exact HC0_7.out); rintro e w19 ⟨v347, v350, v354, v357, v360, rfl, ho0, ho1, ho2, ho3, ho4, hb⟩; refine ⟨_, rfl, ?_⟩; have n0_ := Aside0.mk (Kd.Rlo ho0 (bsz (by repeat (first | (with_reducible first | exact HB.out | apply bal | apply pbd | apply bd1 | refine bse ?_ GE342.out) | exact HB.out)))); have n1_ := Aside0.mk (Kd.Rlo ho1 (bsz (by repeat (first | (with_reducible first | exact HB.out | apply bal | apply pbd | apply bd1 | refine bse ?_ GE342.out) | exact HB.out)))); have n2_ := Aside0.mk (Kd.Rlo ho2 (bsz (by repeat (first | (with_reducible first | exact HB.out | apply bal | apply pbd | apply bd1 | refine bse ?_ GE342.out) | exact HB.out)))); have n3_ := Aside0.mk (Kd.Rlo ho3 (bsz (by repeat (first | (with_reducible first | exact HB.out | apply bal | apply pbd | apply bd1 | refine bse ?_ GE342.out) | exact HB.out)))); have n4_ := Aside0.mk (Kd.S_lower ho4 (bsz (by repeat (first | (with_reducible first | exact HB.out | apply bal | apply pbd | apply bd1 | refine bse ?_ GE342.out) | exact HB.out)))); have n5_ := Aside0.mk (bbe (g := gb342) (o := .cells #[.int .i64 a0_0, .string a0_1, .slice A0_2 l0_2.length c0_2, .slice A0_3 l0_3.length c0_3, .string a0_4, .slice A0_5 l0_5.length c0_5, .slice A0_6 l0_6.length c0_6, .slice A0_7 l0_7.length c0_7] 27 (0, 0)) (by (with_reducible repeat (first | refine bdN ?_ _ | refine bkD ?_ | refine bkA ?_ _)); exact BK342.out) hb); have n6_ := Aside0.mk (bst (by repeat (first | (with_reducible first | exact HB.out | apply bal | apply pbd | apply bd1 | refine bse ?_ GE342.out) | exact HB.out)) hb); have HO348 := n0_; have HO351 := n1_; have HO355 := n2_; have HO358 := n3_; have HO361 := n4_; replace BK342 := n5_; replace HB := n6_; clear n0_ n1_ n2_ n3_ n4_ n5_ n6_; (try clear hb); (try clear hb2); (try clear hk); (try clear hi); (try clear ho0); (try clear ho1); (try clear ho2); (try clear ho3); (try clear ho4); obtain ⟨Ao20, co20, eo20⟩ := Kd.R_slice HO348.out; subst eo20; obtain ⟨Ao21, co21, eo21⟩ := Kd.R_slice HO351.out; subst eo21; obtain ⟨Ao22, co22, eo22⟩ := Kd.R_slice HO355.out; subst eo22; obtain ⟨Ao23, co23, eo23⟩ := Kd.R_slice HO358.out; subst eo23; obtain ⟨Ao24, co24, eo24⟩ := Kd.S_slice HO361.out; subst eo24) | ((with_reducible refine gcl (f := 6) rfl ?_); refine goesL_ (some 14) rfl rfl Tryd.func6 (by kernel_rfl) rfl #[.agg #[.int .i64 t344, .string t345, .slice Ao20 t346.length co20, .slice Ao21 t349.length co21, .string t352, .slice Ao22 t353.length co22, .slice Ao23 t356.length co23, .slice Ao24 t359.length co24]] rfl (by (try simp only [List.map_toArray, List.map_cons, List.map_nil]); first | done | rfl | (simp only [List.length_drop, List.length_take]; rfl)) ?_; (with_reducible refine (spec_EncodeStm.calls k t344 t345 _ _ t346 _ _ t349 t352 _ _ t353 _ _ t356 _ _ t359 t362 _ ?side1 ?side2 ?side3 ?side4 ?side5 ?side6 ?side7 ?side8 ?side9 ?side10 A8.out).mono ?_); (case side1 => repeat (first | exact (Kd.R_reads' HO348.out).2.2 | (with_reducible refine Kd.Cal ?_ _) | (with_reducible refine Kd.CdN ?_ _) | (with_reducible refine Kd.Cdr ?_))); (case side2 => exact (Kd.R_reads' HO348.out).2.1); (case side3 => repeat (first | exact (Kd.R_reads' HO351.out).2.2 | (with_reducible refine Kd.Cal ?_ _) | (with_reducible refine Kd.CdN ?_ _) | (with_reducible refine Kd.Cdr ?_))); (case side4 => exact (Kd.R_reads' HO351.out).2.1); (case side5 => repeat (first | exact (Kd.R_reads' HO355.out).2.2 | (with_reducible refine Kd.Cal ?_ _) | (with_reducible refine Kd.CdN ?_ _) | (with_reducible refine Kd.Cdr ?_))); (case side6 => exact (Kd.R_reads' HO355.out).2.1); (case side7 => repeat (first | exact (Kd.R_reads' HO358.out).2.2 | (with_reducible refine Kd.Cal ?_ _) | (with_reducible refine Kd.CdN ?_ _) | (with_reducible refine Kd.Cdr ?_))); (case side8 => exact (Kd.R_reads' HO358.out).2.1); (case side9 => repeat (first | exact (Kd.S_reads' HO361.out).2.2 | (with_reducible refine Kd.Cal ?_ _) | (with_reducible refine Kd.CdN ?_ _) | (with_reducible refine Kd.Cdr ?_))); (case side10 => exact (Kd.S_reads' HO361.out).2.1); rintro e w25 ⟨rfl, hb⟩; refine ⟨_, rfl, ?_⟩; have n0_ := Aside0.mk (Kd.Rbe (by (with_reducible repeat (first | apply Kd.Ral | apply Kd.RdN | apply Kd.Rdr)); exact HO348.out) hb); have n1_ := Aside0.mk (Kd.Rbe (by (with_reducible repeat (first | apply Kd.Ral | apply Kd.RdN | apply Kd.Rdr)); exact HO351.out) hb); have n2_ := Aside0.mk (Kd.Rbe (by (with_reducible repeat (first | apply Kd.Ral | apply Kd.RdN | apply Kd.Rdr)); exact HO355.out) hb); have n3_ := Aside0.mk (Kd.Rbe (by (with_reducible repeat (first | apply Kd.Ral | apply Kd.RdN | apply Kd.Rdr)); exact HO358.out) hb); have n4_ := Aside0.mk (Kd.Sbe (by (with_reducible repeat (first | apply Kd.Sal | apply Kd.SdN | apply Kd.Sdr)); exact HO361.out) hb); have n5_ := Aside0.mk (bbe (g := gb342) (o := .cells #[.int .i64 a0_0, .string a0_1, .slice A0_2 l0_2.length c0_2, .slice A0_3 l0_3.length c0_3, .string a0_4, .slice A0_5 l0_5.length c0_5, .slice A0_6 l0_6.length c0_6, .slice A0_7 l0_7.length c0_7] 27 (0, 0)) (by (with_reducible repeat (first | refine bdN ?_ _ | refine bkD ?_ | refine bkA ?_ _)); exact BK342.out) hb); have n6_ := Aside0.mk (bst (by repeat (first | (with_reducible first | exact HB.out | apply bal | apply pbd | apply bd1 | refine bse ?_ GE342.out) | exact HB.out)) hb); replace HO348 := n0_; replace HO351 := n1_; replace HO355 := n2_; replace HO358 := n3_; replace HO361 := n4_; replace BK342 := n5_; replace HB := n6_; clear n0_ n1_ n2_ n3_ n4_ n5_ n6_; (try clear hb); (try clear hb2); (try clear hk); (try clear hi); obtain ⟨hcz26_0, hcz26_1, hcz26_2, hcz26_3, hcz26_4, hcz26_5, hcz26_6, hcz26_7⟩ := zC8 BK342.out; obtain ⟨hfz26_0, hfz26_1, hfz26_2, hfz26_3, hfz26_4, hfz26_5, hfz26_6⟩ := zF7 BK342.out; have hfz26_7 := bfz BK342.out 7) | ((with_reducible refine gcl (f := 7) rfl ?_); refine goesL_ (some 16) rfl rfl Tryd.func7 (by kernel_rfl) rfl #[.agg #[.int .i64 a0_0, .string a0_1, .slice A0_2 l0_2.length c0_2, .slice A0_3 l0_3.length c0_3, .string a0_4, .slice A0_5 l0_5.length c0_5, .slice A0_6 l0_6.length c0_6, .slice A0_7 l0_7.length c0_7]] rfl (by (try simp only [List.map_toArray, List.map_cons, List.map_nil]); first | done | rfl | (simp only [List.length_drop, List.length_take]; rfl)) ?_; (with_reducible refine (laws_toStm.calls k a0_0 a0_1 _ _ l0_2 _ _ l0_3 a0_4 _ _ l0_5 _ _ l0_6 _ _ l0_7 t363 t364 t365 t368 t371 t372 t375 t378 _ ?side1 ?side2 ?side3 ?side4 ?side5 ?side6 ?side7 ?side8 ?side9 ?side10 A9.out).mono ?_); (case side1 => repeat (first | exact (Kd.Cbe HR0_2.out HB.out) | (with_reducible refine Kd.Cal ?_ _) | (with_reducible refine Kd.CdN ?_ _) | (with_reducible refine Kd.Cdr ?_))); (case side2 => exact HC0_2.out); (case side3 => repeat (first | exact (Kd.Cbe HR0_3.out HB.out) | (with_reducible refine Kd.Cal ?_ _) | (with_reducible refine Kd.CdN ?_ _) | (with_reducible refine Kd.Cdr ?_))); (case side4 => exact HC0_3.out); (case side5 => repeat (first | exact (Kd.Cbe HR0_5.out HB.out) | (with_reducible refine Kd.Cal ?_ _) | (with_reducible refine Kd.CdN ?_ _) | (with_reducible refine Kd.Cdr ?_))); (case side6 => exact HC0_5.out); (case side7 => repeat (first | exact (Kd.Cbe HR0_6.out HB.out) | (with_reducible refine Kd.Cal ?_ _) | (with_reducible refine Kd.CdN ?_ _) | (with_reducible refine Kd.Cdr ?_))); (case side8 => exact HC0_6.out); (case side9 => repeat (first | exact (Kd.Cbe HR0_7.out HB.out) | (with_reducible refine Kd.Cal ?_ _) | (with_reducible refine Kd.CdN ?_ _) | (with_reducible refine Kd.Cdr ?_))); (case side10 => exact HC0_7.out); rintro e w27 ⟨v366, v369, v373, v376, v379, rfl, ho0, ho1, ho2, ho3, ho4, hb⟩; refine ⟨_, rfl, ?_⟩; have n0_ := Aside0.mk (Kd.R_elder' (by (with_reducible repeat (first | apply Kd.Ral | apply Kd.RdN | apply Kd.Rdr)); exact HO348.out) (Kd.R_base ho0) hb); have n1_ := Aside0.mk (Kd.R_elder' (by (with_reducible repeat (first | apply Kd.Ral | apply Kd.RdN | apply Kd.Rdr)); exact HO351.out) (Kd.R_base ho1) hb); have n2_ := Aside0.mk (Kd.Rmo (Kd.R_told (Kd.R_told (Kd.R_old (by (with_reducible repeat (first | apply Kd.Ral | apply Kd.RdN | apply Kd.Rdr)); exact HO355.out) hb) (Kd.R_base ho2)) (Kd.R_base ho3)) (fun _ h_ => h_.1)); have n3_ := Aside0.mk (Kd.Rmo (Kd.R_told (Kd.R_told (Kd.R_old (by (with_reducible repeat (first | apply Kd.Ral | apply Kd.RdN | apply Kd.Rdr)); exact HO358.out) hb) (Kd.R_base ho2)) (Kd.R_base ho3)) (fun _ h_ => h_.1)); have n4_ := Aside0.mk (Kd.Smo (Kd.S_told (Kd.S_told (Kd.S_told (Kd.S_old (by (with_reducible repeat (first | apply Kd.Sal | apply Kd.SdN | apply Kd.Sdr)); exact HO361.out) hb) (Kd.R_base ho2)) (Kd.R_base ho3)) (Kd.S_base ho4)) (fun _ h_ => h_.1)); have n5_ := Aside0.mk (Kd.Rlo (Kd.R_new' ho0 (Kd.R_lt (by (with_reducible repeat (first | apply Kd.Ral | apply Kd.RdN | apply Kd.Rdr)); exact HO348.out))) (bsz (by repeat (first | (with_reducible first | exact HB.out | apply bal | apply pbd | apply bd1 | refine bse ?_ GE342.out) | exact HB.out)))); have n6_ := Aside0.mk (Kd.Rlo (Kd.R_new' ho1 (Kd.R_lt (by (with_reducible repeat (first | apply Kd.Ral | apply Kd.RdN | apply Kd.Rdr)); exact HO351.out))) (bsz (by repeat (first | (with_reducible first | exact HB.out | apply bal | apply pbd | apply bd1 | refine bse ?_ GE342.out) | exact HB.out)))); have n7_ := Aside0.mk (Kd.Rlo (Kd.R_new' (Kd.R_new' ho2 (Kd.R_lt (by (with_reducible repeat (first | apply Kd.Ral | apply Kd.RdN | apply Kd.Rdr)); exact HO355.out))) (Kd.R_lt (by (with_reducible repeat (first | apply Kd.Ral | apply Kd.RdN | apply Kd.Rdr)); exact HO358.out))) (bsz (by repeat (first | (with_reducible first | exact HB.out | apply bal | apply pbd | apply bd1 | refine bse ?_ GE342.out) | exact HB.out)))); have n8_ := Aside0.mk (Kd.Rlo (Kd.R_new' (Kd.R_new' ho3 (Kd.R_lt (by (with_reducible repeat (first | apply Kd.Ral | apply Kd.RdN | apply Kd.Rdr)); exact HO355.out))) (Kd.R_lt (by (with_reducible repeat (first | apply Kd.Ral | apply Kd.RdN | apply Kd.Rdr)); exact HO358.out))) (bsz (by repeat (first | (with_reducible first | exact HB.out | apply bal | apply pbd | apply bd1 | refine bse ?_ GE342.out) | exact HB.out)))); have n9_ := Aside0.mk (Kd.S_lower (Kd.S_new' (Kd.S_new' (Kd.S_new' ho4 (Kd.R_lt (by (with_reducible repeat (first | apply Kd.Ral | apply Kd.RdN | apply Kd.Rdr)); exact HO355.out))) (Kd.R_lt (by (with_reducible repeat (first | apply Kd.Ral | apply Kd.RdN | apply Kd.Rdr)); exact HO358.out))) (Kd.S_lt (by (with_reducible repeat (first | apply Kd.Sal | apply Kd.SdN | apply Kd.Sdr)); exact HO361.out))) (bsz (by repeat (first | (with_reducible first | exact HB.out | apply bal | apply pbd | apply bd1 | refine bse ?_ GE342.out) | exact HB.out)))); have n10_ := Aside0.mk (bbe (g := gb342) (o := .cells #[.int .i64 a0_0, .string a0_1, .slice A0_2 l0_2.length c0_2, .slice A0_3 l0_3.length c0_3, .string a0_4, .slice A0_5 l0_5.length c0_5, .slice A0_6 l0_6.length c0_6, .slice A0_7 l0_7.length c0_7] 27 (0, 0)) (by (with_reducible repeat (first | refine bdN ?_ _ | refine bkD ?_ | refine bkA ?_ _)); exact BK342.out) hb); have n11_ := Aside0.mk (bst (by repeat (first | (with_reducible first | exact HB.out | apply bal | apply pbd | apply bd1 | refine bse ?_ GE342.out) | exact HB.out)) hb); replace HO348 := n0_; replace HO351 := n1_; replace HO355 := n2_; replace HO358 := n3_; replace HO361 := n4_; have HO367 := n5_; have HO370 := n6_; have HO374 := n7_; have HO377 := n8_; have HO380 := n9_; replace BK342 := n10_; replace HB := n11_; clear n0_ n1_ n2_ n3_ n4_ n5_ n6_ n7_ n8_ n9_ n10_ n11_; (try clear hb); (try clear hb2); (try clear hk); (try clear hi); (try clear ho0); (try clear ho1); (try clear ho2); (try clear ho3); (try clear ho4)) | ((with_reducible refine gds (N := 5) rfl ?_); refine bxe ?hg (N := 5) ?hd (cs := #[.int .i64 0, .string (⟨#[]⟩ : ByteArray), .slice none 0 0, .slice none 0 0, .string (⟨#[]⟩ : ByteArray), .slice none 0 0, .slice none 0 0, .slice none 0 0]) (t := 35) ?hr ?_; (case hd => rfl); (case hg => rfl); (case hr => first | (go_simp; done) | (go_simp; rfl)); intro gb381 hg w28 hbox hb; have n0_ := Aside0.mk (Kd.Rbe (by (with_reducible repeat (first | apply Kd.Ral | apply Kd.RdN | apply Kd.Rdr)); exact HO348.out) hb); have n1_ := Aside0.mk (Kd.Rbe (by (with_reducible repeat (first | apply Kd.Ral | apply Kd.RdN | apply Kd.Rdr)); exact HO351.out) hb); have n2_ := Aside0.mk (Kd.Rbe (by (with_reducible repeat (first | apply Kd.Ral | apply Kd.RdN | apply Kd.Rdr)); exact HO355.out) hb); have n3_ := Aside0.mk (Kd.Rbe (by (with_reducible repeat (first | apply Kd.Ral | apply Kd.RdN | apply Kd.Rdr)); exact HO358.out) hb); have n4_ := Aside0.mk (Kd.Sbe (by (with_reducible repeat (first | apply Kd.Sal | apply Kd.SdN | apply Kd.Sdr)); exact HO361.out) hb); have n5_ := Aside0.mk (Kd.Rbe (by (with_reducible repeat (first | apply Kd.Ral | apply Kd.RdN | apply Kd.Rdr)); exact HO367.out) hb); have n6_ := Aside0.mk (Kd.Rbe (by (with_reducible repeat (first | apply Kd.Ral | apply Kd.RdN | apply Kd.Rdr)); exact HO370.out) hb); have n7_ := Aside0.mk (Kd.Rbe (by (with_reducible repeat (first | apply Kd.Ral | apply Kd.RdN | apply Kd.Rdr)); exact HO374.out) hb); have n8_ := Aside0.mk (Kd.Rbe (by (with_reducible repeat (first | apply Kd.Ral | apply Kd.RdN | apply Kd.Rdr)); exact HO377.out) hb); have n9_ := Aside0.mk (Kd.Sbe (by (with_reducible repeat (first | apply Kd.Sal | apply Kd.SdN | apply Kd.Sdr)); exact HO380.out) hb); have n10_ := Aside0.mk (bbe (g := gb342) (o := .cells #[.int .i64 a0_0, .string a0_1, .slice A0_2 l0_2.length c0_2, .slice A0_3 l0_3.length c0_3, .string a0_4, .slice A0_5 l0_5.length c0_5, .slice A0_6 l0_6.length c0_6, .slice A0_7 l0_7.length c0_7] 27 (0, 0)) (by (with_reducible repeat (first | refine bdN ?_ _ | refine bkD ?_ | refine bkA ?_ _)); exact BK342.out) hb); have n11_ := Aside0.mk (bst (by repeat (first | (with_reducible first | exact HB.out | apply bal | apply pbd | apply bd1 | refine bse ?_ GE342.out) | exact HB.out)) hb); have n12_ := Aside0.mk (hbox); have n13_ := Aside0.mk ((by rw [hg]; exact (bsz (by repeat (first | (with_reducible first | exact HB.out | apply bal | apply pbd | apply bd1 | refine bse ?_ GE342.out) | exact HB.out))) : w.heap.size ≤ gb381)); have n14_ := Aside0.mk ((by rw [hg]; exact (bsz (by repeat (first | (with_reducible first | exact HB.out | apply bal | apply pbd | apply bd1 | refine bse ?_ GE342.out) | exact HB.out))) : w.heap.size ≤ gb381)); have n15_ := Aside0.mk ((by rw [hg]; exact Nat.ne_of_lt (blt (g := gb342) (o := .cells #[.int .i64 a0_0, .string a0_1, .slice A0_2 l0_2.length c0_2, .slice A0_3 l0_3.length c0_3, .string a0_4, .slice A0_5 l0_5.length c0_5, .slice A0_6 l0_6.length c0_6, .slice A0_7 l0_7.length c0_7] 27 (0, 0)) (by (with_reducible repeat (first | refine bdN ?_ _ | refine bkD ?_ | refine bkA ?_ _)); exact BK342.out)) : gb342 ≠ gb381)); have n16_ := Aside0.mk ((by rw [hg]; exact Nat.ne_of_gt (blt (g := gb342) (o := .cells #[.int .i64 a0_0, .string a0_1, .slice A0_2 l0_2.length c0_2, .slice A0_3 l0_3.length c0_3, .string a0_4, .slice A0_5 l0_5.length c0_5, .slice A0_6 l0_6.length c0_6, .slice A0_7 l0_7.length c0_7] 27 (0, 0)) (by (with_reducible repeat (first | refine bdN ?_ _ | refine bkD ?_ | refine bkA ?_ _)); exact BK342.out)) : gb381 ≠ gb342)); replace HO348 := n0_; replace HO351 := n1_; replace HO355 := n2_; replace HO358 := n3_; replace HO361 := n4_; replace HO367 := n5_; replace HO370 := n6_; replace HO374 := n7_; replace HO377 := n8_; replace HO380 := n9_; replace BK342 := n10_; replace HB := n11_; have BK381 := n12_; have GW381 := n13_; have GE381 := n14_; have NB342_381 := n15_; have NB381_342 := n16_; clear n0_ n1_ n2_ n3_ n4_ n5_ n6_ n7_ n8_ n9_ n10_ n11_ n12_ n13_ n14_ n15_ n16_; clear hb hbox hg; have hnb29 := NB381_342.out; have hnc29 := NB342_381.out; obtain ⟨hcz30_0, hcz30_1, hcz30_2, hcz30_3, hcz30_4, hcz30_5, hcz30_6, hcz30_7⟩ := zC8 BK381.out; obtain ⟨hfz30_0, hfz30_1, hfz30_2, hfz30_3, hfz30_4, hfz30_5, hfz30_6, hfz30_7⟩ := zF8 BK381.out; obtain ⟨Ao31, co31, eo31⟩ := Kd.R_slice HO367.out; subst eo31; obtain ⟨Ao32, co32, eo32⟩ := Kd.R_slice HO370.out; subst eo32; obtain ⟨Ao33, co33, eo33⟩ := Kd.R_slice HO374.out; subst eo33; obtain ⟨Ao34, co34, eo34⟩ := Kd.R_slice HO377.out; subst eo34; obtain ⟨Ao35, co35, eo35⟩ := Kd.S_slice HO380.out; subst eo35) | ((with_reducible refine gcl (f := 8) rfl ?_); refine goesL_ (some 18) rfl rfl Tryd.func8 (by kernel_rfl) rfl #[.agg #[.int .i64 t363, .string t364, .slice Ao31 t365.length co31, .slice Ao32 t368.length co32, .string t371, .slice Ao33 t372.length co33, .slice Ao34 t375.length co34, .slice Ao35 t378.length co35]] rfl (by (try simp only [List.map_toArray, List.map_cons, List.map_nil]); first | done | rfl | (simp only [List.length_drop, List.length_take]; rfl)) ?_; (with_reducible refine (impl_EncodeStm.calls k t363 t364 _ _ t365 _ _ t368 t371 _ _ t372 _ _ t375 _ _ t378 t382 _ ?side1 ?side2 ?side3 ?side4 ?side5 ?side6 ?side7 ?side8 ?side9 ?side10 ?side11 A10.out).mono ?_); (case side1 => exact GOK.below hG (by repeat (first | (with_reducible first | exact HB.out | apply bal | apply pbd | apply bd1 | refine bse ?_ GE342.out | refine bse ?_ GE381.out) | exact HB.out))); (case side2 => refine (Kd.R_reads' (e := 51) (base := w.heap.size) (ok := fun k_ => (True ∧ some k_ ≠ (.slice Ao20 t346.length co20 : Value).ownBlock)) (n := t365.length) (c := co31) ?_).2.2; exact (by (with_reducible repeat (first | apply Kd.Ral | apply Kd.RdN | apply Kd.Rdr)); exact (Kd.Rmo (Kd.Rfa (p := ⟨gb381, 7, none⟩) (Kd.Rfa (p := ⟨gb381, 6, none⟩) (Kd.Rfa (p := ⟨gb381, 5, none⟩) (Kd.Rfa (p := ⟨gb381, 4, none⟩) (Kd.Rfa (p := ⟨gb381, 3, none⟩) (Kd.Rfa (p := ⟨gb381, 2, none⟩) (Kd.Rfa (p := ⟨gb381, 1, none⟩) (Kd.Rfa (p := ⟨gb381, 0, none⟩) (Kd.Rty HO367.out BK381.out (by decide)) (fun _ hk => hk.2) (.int .i64 t363)) (fun _ hk => hk.2) (.string t364)) (fun _ hk => hk.2) (.slice Ao31 t365.length co31)) (fun _ hk => hk.2) (.slice Ao32 t368.length co32)) (fun _ hk => hk.2) (.string t371)) (fun _ hk => hk.2) (.slice Ao33 t372.length co33)) (fun _ hk => hk.2) (.slice Ao34 t375.length co34)) (fun _ hk => hk.2) (.slice Ao35 t378.length co35)) (fun _ h_ => h_.1)))); (case side3 => exact (Kd.R_reads' HO367.out).2.1); (case side4 => refine (Kd.R_reads' (e := 53) (base := w.heap.size) (ok := fun k_ => (True ∧ some k_ ≠ (.slice Ao21 t349.length co21 : Value).ownBlock)) (n := t368.length) (c := co32) ?_).2.2; exact (by (with_reducible repeat (first | apply Kd.Ral | apply Kd.RdN | apply Kd.Rdr)); exact (Kd.Rmo (Kd.Rfa (p := ⟨gb381, 7, none⟩) (Kd.Rfa (p := ⟨gb381, 6, none⟩) (Kd.Rfa (p := ⟨gb381, 5, none⟩) (Kd.Rfa (p := ⟨gb381, 4, none⟩) (Kd.Rfa (p := ⟨gb381, 3, none⟩) (Kd.Rfa (p := ⟨gb381, 2, none⟩) (Kd.Rfa (p := ⟨gb381, 1, none⟩) (Kd.Rfa (p := ⟨gb381, 0, none⟩) (Kd.Rty HO370.out BK381.out (by decide)) (fun _ hk => hk.2) (.int .i64 t363)) (fun _ hk => hk.2) (.string t364)) (fun _ hk => hk.2) (.slice Ao31 t365.length co31)) (fun _ hk => hk.2) (.slice Ao32 t368.length co32)) (fun _ hk => hk.2) (.string t371)) (fun _ hk => hk.2) (.slice Ao33 t372.length co33)) (fun _ hk => hk.2) (.slice Ao34 t375.length co34)) (fun _ hk => hk.2) (.slice Ao35 t378.length co35)) (fun _ h_ => h_.1)))); (case side5 => exact (Kd.R_reads' HO370.out).2.1); (case side6 => refine (Kd.R_reads' (e := 88) (base := w.heap.size) (ok := fun k_ => ((some k_ ≠ (.slice Ao34 t375.length co34 : Value).ownBlock ∧ some k_ ≠ (.slice Ao22 t353.length co22 : Value).ownBlock) ∧ some k_ ≠ (.slice Ao23 t356.length co23 : Value).ownBlock)) (n := t372.length) (c := co33) ?_).2.2; exact (by (with_reducible repeat (first | apply Kd.Ral | apply Kd.RdN | apply Kd.Rdr)); exact (Kd.Rmo (Kd.Rfa (p := ⟨gb381, 7, none⟩) (Kd.Rfa (p := ⟨gb381, 6, none⟩) (Kd.Rfa (p := ⟨gb381, 5, none⟩) (Kd.Rfa (p := ⟨gb381, 4, none⟩) (Kd.Rfa (p := ⟨gb381, 3, none⟩) (Kd.Rfa (p := ⟨gb381, 2, none⟩) (Kd.Rfa (p := ⟨gb381, 1, none⟩) (Kd.Rfa (p := ⟨gb381, 0, none⟩) (Kd.Rty HO374.out BK381.out (by decide)) (fun _ hk => hk.2) (.int .i64 t363)) (fun _ hk => hk.2) (.string t364)) (fun _ hk => hk.2) (.slice Ao31 t365.length co31)) (fun _ hk => hk.2) (.slice Ao32 t368.length co32)) (fun _ hk => hk.2) (.string t371)) (fun _ hk => hk.2) (.slice Ao33 t372.length co33)) (fun _ hk => hk.2) (.slice Ao34 t375.length co34)) (fun _ hk => hk.2) (.slice Ao35 t378.length co35)) (fun _ h_ => h_.1)))); (case side7 => exact (Kd.R_reads' HO374.out).2.1); (case side8 => refine (Kd.R_reads' (e := 88) (base := w.heap.size) (ok := fun k_ => ((some k_ ≠ (.slice Ao33 t372.length co33 : Value).ownBlock ∧ some k_ ≠ (.slice Ao22 t353.length co22 : Value).ownBlock) ∧ some k_ ≠ (.slice Ao23 t356.length co23 : Value).ownBlock)) (n := t375.length) (c := co34) ?_).2.2; exact (by (with_reducible repeat (first | apply Kd.Ral | apply Kd.RdN | apply Kd.Rdr)); exact (Kd.Rmo (Kd.Rfa (p := ⟨gb381, 7, none⟩) (Kd.Rfa (p := ⟨gb381, 6, none⟩) (Kd.Rfa (p := ⟨gb381, 5, none⟩) (Kd.Rfa (p := ⟨gb381, 4, none⟩) (Kd.Rfa (p := ⟨gb381, 3, none⟩) (Kd.Rfa (p := ⟨gb381, 2, none⟩) (Kd.Rfa (p := ⟨gb381, 1, none⟩) (Kd.Rfa (p := ⟨gb381, 0, none⟩) (Kd.Rty HO377.out BK381.out (by decide)) (fun _ hk => hk.2) (.int .i64 t363)) (fun _ hk => hk.2) (.string t364)) (fun _ hk => hk.2) (.slice Ao31 t365.length co31)) (fun _ hk => hk.2) (.slice Ao32 t368.length co32)) (fun _ hk => hk.2) (.string t371)) (fun _ hk => hk.2) (.slice Ao33 t372.length co33)) (fun _ hk => hk.2) (.slice Ao34 t375.length co34)) (fun _ hk => hk.2) (.slice Ao35 t378.length co35)) (fun _ h_ => h_.1)))); (case side9 => exact (Kd.R_reads' HO377.out).2.1); (case side10 => refine (Kd.S_reads' (e := 32) (base := w.heap.size) (ok := fun k_ => ((((some k_ ≠ (.slice Ao33 t372.length co33 : Value).ownBlock ∧ some k_ ≠ (.slice Ao34 t375.length co34 : Value).ownBlock) ∧ some k_ ≠ (.slice Ao22 t353.length co22 : Value).ownBlock) ∧ some k_ ≠ (.slice Ao23 t356.length co23 : Value).ownBlock) ∧ some k_ ≠ (.slice Ao24 t359.length co24 : Value).ownBlock)) (n := t378.length) (c := co35) ?_).2.2; exact (by (with_reducible repeat (first | apply Kd.Sal | apply Kd.SdN | apply Kd.Sdr)); exact (Kd.Smo (Kd.Sfa (p := ⟨gb381, 7, none⟩) (Kd.Sfa (p := ⟨gb381, 6, none⟩) (Kd.Sfa (p := ⟨gb381, 5, none⟩) (Kd.Sfa (p := ⟨gb381, 4, none⟩) (Kd.Sfa (p := ⟨gb381, 3, none⟩) (Kd.Sfa (p := ⟨gb381, 2, none⟩) (Kd.Sfa (p := ⟨gb381, 1, none⟩) (Kd.Sfa (p := ⟨gb381, 0, none⟩) (Kd.Sty HO380.out BK381.out (by decide)) (fun _ hk => hk.2) (.int .i64 t363)) (fun _ hk => hk.2) (.string t364)) (fun _ hk => hk.2) (.slice Ao31 t365.length co31)) (fun _ hk => hk.2) (.slice Ao32 t368.length co32)) (fun _ hk => hk.2) (.string t371)) (fun _ hk => hk.2) (.slice Ao33 t372.length co33)) (fun _ hk => hk.2) (.slice Ao34 t375.length co34)) (fun _ hk => hk.2) (.slice Ao35 t378.length co35)) (fun _ h_ => h_.1)))); (case side11 => exact (Kd.S_reads' HO380.out).2.1); rintro e w36 ⟨rfl, hb⟩; refine ⟨_, rfl, ?_⟩; have n0_ := Aside0.mk (Kd.Rbe (by (with_reducible repeat (first | apply Kd.Ral | apply Kd.RdN | apply Kd.Rdr)); exact (Kd.Rmo (Kd.Rfa (p := ⟨gb381, 7, none⟩) (Kd.Rfa (p := ⟨gb381, 6, none⟩) (Kd.Rfa (p := ⟨gb381, 5, none⟩) (Kd.Rfa (p := ⟨gb381, 4, none⟩) (Kd.Rfa (p := ⟨gb381, 3, none⟩) (Kd.Rfa (p := ⟨gb381, 2, none⟩) (Kd.Rfa (p := ⟨gb381, 1, none⟩) (Kd.Rfa (p := ⟨gb381, 0, none⟩) (Kd.Rty HO348.out BK381.out (by decide)) (fun _ hk => hk.2) (.int .i64 t363)) (fun _ hk => hk.2) (.string t364)) (fun _ hk => hk.2) (.slice Ao31 t365.length co31)) (fun _ hk => hk.2) (.slice Ao32 t368.length co32)) (fun _ hk => hk.2) (.string t371)) (fun _ hk => hk.2) (.slice Ao33 t372.length co33)) (fun _ hk => hk.2) (.slice Ao34 t375.length co34)) (fun _ hk => hk.2) (.slice Ao35 t378.length co35)) (fun _ h_ => h_.1))) hb); have n1_ := Aside0.mk (Kd.Rbe (by (with_reducible repeat (first | apply Kd.Ral | apply Kd.RdN | apply Kd.Rdr)); exact (Kd.Rmo (Kd.Rfa (p := ⟨gb381, 7, none⟩) (Kd.Rfa (p := ⟨gb381, 6, none⟩) (Kd.Rfa (p := ⟨gb381, 5, none⟩) (Kd.Rfa (p := ⟨gb381, 4, none⟩) (Kd.Rfa (p := ⟨gb381, 3, none⟩) (Kd.Rfa (p := ⟨gb381, 2, none⟩) (Kd.Rfa (p := ⟨gb381, 1, none⟩) (Kd.Rfa (p := ⟨gb381, 0, none⟩) (Kd.Rty HO351.out BK381.out (by decide)) (fun _ hk => hk.2) (.int .i64 t363)) (fun _ hk => hk.2) (.string t364)) (fun _ hk => hk.2) (.slice Ao31 t365.length co31)) (fun _ hk => hk.2) (.slice Ao32 t368.length co32)) (fun _ hk => hk.2) (.string t371)) (fun _ hk => hk.2) (.slice Ao33 t372.length co33)) (fun _ hk => hk.2) (.slice Ao34 t375.length co34)) (fun _ hk => hk.2) (.slice Ao35 t378.length co35)) (fun _ h_ => h_.1))) hb); have n2_ := Aside0.mk (Kd.Rbe (by (with_reducible repeat (first | apply Kd.Ral | apply Kd.RdN | apply Kd.Rdr)); exact (Kd.Rmo (Kd.Rfa (p := ⟨gb381, 7, none⟩) (Kd.Rfa (p := ⟨gb381, 6, none⟩) (Kd.Rfa (p := ⟨gb381, 5, none⟩) (Kd.Rfa (p := ⟨gb381, 4, none⟩) (Kd.Rfa (p := ⟨gb381, 3, none⟩) (Kd.Rfa (p := ⟨gb381, 2, none⟩) (Kd.Rfa (p := ⟨gb381, 1, none⟩) (Kd.Rfa (p := ⟨gb381, 0, none⟩) (Kd.Rty HO355.out BK381.out (by decide)) (fun _ hk => hk.2) (.int .i64 t363)) (fun _ hk => hk.2) (.string t364)) (fun _ hk => hk.2) (.slice Ao31 t365.length co31)) (fun _ hk => hk.2) (.slice Ao32 t368.length co32)) (fun _ hk => hk.2) (.string t371)) (fun _ hk => hk.2) (.slice Ao33 t372.length co33)) (fun _ hk => hk.2) (.slice Ao34 t375.length co34)) (fun _ hk => hk.2) (.slice Ao35 t378.length co35)) (fun _ h_ => h_.1))) hb); have n3_ := Aside0.mk (Kd.Rbe (by (with_reducible repeat (first | apply Kd.Ral | apply Kd.RdN | apply Kd.Rdr)); exact (Kd.Rmo (Kd.Rfa (p := ⟨gb381, 7, none⟩) (Kd.Rfa (p := ⟨gb381, 6, none⟩) (Kd.Rfa (p := ⟨gb381, 5, none⟩) (Kd.Rfa (p := ⟨gb381, 4, none⟩) (Kd.Rfa (p := ⟨gb381, 3, none⟩) (Kd.Rfa (p := ⟨gb381, 2, none⟩) (Kd.Rfa (p := ⟨gb381, 1, none⟩) (Kd.Rfa (p := ⟨gb381, 0, none⟩) (Kd.Rty HO358.out BK381.out (by decide)) (fun _ hk => hk.2) (.int .i64 t363)) (fun _ hk => hk.2) (.string t364)) (fun _ hk => hk.2) (.slice Ao31 t365.length co31)) (fun _ hk => hk.2) (.slice Ao32 t368.length co32)) (fun _ hk => hk.2) (.string t371)) (fun _ hk => hk.2) (.slice Ao33 t372.length co33)) (fun _ hk => hk.2) (.slice Ao34 t375.length co34)) (fun _ hk => hk.2) (.slice Ao35 t378.length co35)) (fun _ h_ => h_.1))) hb); have n4_ := Aside0.mk (Kd.Sbe (by (with_reducible repeat (first | apply Kd.Sal | apply Kd.SdN | apply Kd.Sdr)); exact (Kd.Smo (Kd.Sfa (p := ⟨gb381, 7, none⟩) (Kd.Sfa (p := ⟨gb381, 6, none⟩) (Kd.Sfa (p := ⟨gb381, 5, none⟩) (Kd.Sfa (p := ⟨gb381, 4, none⟩) (Kd.Sfa (p := ⟨gb381, 3, none⟩) (Kd.Sfa (p := ⟨gb381, 2, none⟩) (Kd.Sfa (p := ⟨gb381, 1, none⟩) (Kd.Sfa (p := ⟨gb381, 0, none⟩) (Kd.Sty HO361.out BK381.out (by decide)) (fun _ hk => hk.2) (.int .i64 t363)) (fun _ hk => hk.2) (.string t364)) (fun _ hk => hk.2) (.slice Ao31 t365.length co31)) (fun _ hk => hk.2) (.slice Ao32 t368.length co32)) (fun _ hk => hk.2) (.string t371)) (fun _ hk => hk.2) (.slice Ao33 t372.length co33)) (fun _ hk => hk.2) (.slice Ao34 t375.length co34)) (fun _ hk => hk.2) (.slice Ao35 t378.length co35)) (fun _ h_ => h_.1))) hb); have n5_ := Aside0.mk (Kd.Rbe (by (with_reducible repeat (first | apply Kd.Ral | apply Kd.RdN | apply Kd.Rdr)); exact (Kd.Rmo (Kd.Rfa (p := ⟨gb381, 7, none⟩) (Kd.Rfa (p := ⟨gb381, 6, none⟩) (Kd.Rfa (p := ⟨gb381, 5, none⟩) (Kd.Rfa (p := ⟨gb381, 4, none⟩) (Kd.Rfa (p := ⟨gb381, 3, none⟩) (Kd.Rfa (p := ⟨gb381, 2, none⟩) (Kd.Rfa (p := ⟨gb381, 1, none⟩) (Kd.Rfa (p := ⟨gb381, 0, none⟩) (Kd.Rty HO367.out BK381.out (by decide)) (fun _ hk => hk.2) (.int .i64 t363)) (fun _ hk => hk.2) (.string t364)) (fun _ hk => hk.2) (.slice Ao31 t365.length co31)) (fun _ hk => hk.2) (.slice Ao32 t368.length co32)) (fun _ hk => hk.2) (.string t371)) (fun _ hk => hk.2) (.slice Ao33 t372.length co33)) (fun _ hk => hk.2) (.slice Ao34 t375.length co34)) (fun _ hk => hk.2) (.slice Ao35 t378.length co35)) (fun _ h_ => h_.1))) hb); have n6_ := Aside0.mk (Kd.Rbe (by (with_reducible repeat (first | apply Kd.Ral | apply Kd.RdN | apply Kd.Rdr)); exact (Kd.Rmo (Kd.Rfa (p := ⟨gb381, 7, none⟩) (Kd.Rfa (p := ⟨gb381, 6, none⟩) (Kd.Rfa (p := ⟨gb381, 5, none⟩) (Kd.Rfa (p := ⟨gb381, 4, none⟩) (Kd.Rfa (p := ⟨gb381, 3, none⟩) (Kd.Rfa (p := ⟨gb381, 2, none⟩) (Kd.Rfa (p := ⟨gb381, 1, none⟩) (Kd.Rfa (p := ⟨gb381, 0, none⟩) (Kd.Rty HO370.out BK381.out (by decide)) (fun _ hk => hk.2) (.int .i64 t363)) (fun _ hk => hk.2) (.string t364)) (fun _ hk => hk.2) (.slice Ao31 t365.length co31)) (fun _ hk => hk.2) (.slice Ao32 t368.length co32)) (fun _ hk => hk.2) (.string t371)) (fun _ hk => hk.2) (.slice Ao33 t372.length co33)) (fun _ hk => hk.2) (.slice Ao34 t375.length co34)) (fun _ hk => hk.2) (.slice Ao35 t378.length co35)) (fun _ h_ => h_.1))) hb); have n7_ := Aside0.mk (Kd.Rbe (by (with_reducible repeat (first | apply Kd.Ral | apply Kd.RdN | apply Kd.Rdr)); exact (Kd.Rmo (Kd.Rfa (p := ⟨gb381, 7, none⟩) (Kd.Rfa (p := ⟨gb381, 6, none⟩) (Kd.Rfa (p := ⟨gb381, 5, none⟩) (Kd.Rfa (p := ⟨gb381, 4, none⟩) (Kd.Rfa (p := ⟨gb381, 3, none⟩) (Kd.Rfa (p := ⟨gb381, 2, none⟩) (Kd.Rfa (p := ⟨gb381, 1, none⟩) (Kd.Rfa (p := ⟨gb381, 0, none⟩) (Kd.Rty HO374.out BK381.out (by decide)) (fun _ hk => hk.2) (.int .i64 t363)) (fun _ hk => hk.2) (.string t364)) (fun _ hk => hk.2) (.slice Ao31 t365.length co31)) (fun _ hk => hk.2) (.slice Ao32 t368.length co32)) (fun _ hk => hk.2) (.string t371)) (fun _ hk => hk.2) (.slice Ao33 t372.length co33)) (fun _ hk => hk.2) (.slice Ao34 t375.length co34)) (fun _ hk => hk.2) (.slice Ao35 t378.length co35)) (fun _ h_ => h_.1))) hb); have n8_ := Aside0.mk (Kd.Rbe (by (with_reducible repeat (first | apply Kd.Ral | apply Kd.RdN | apply Kd.Rdr)); exact (Kd.Rmo (Kd.Rfa (p := ⟨gb381, 7, none⟩) (Kd.Rfa (p := ⟨gb381, 6, none⟩) (Kd.Rfa (p := ⟨gb381, 5, none⟩) (Kd.Rfa (p := ⟨gb381, 4, none⟩) (Kd.Rfa (p := ⟨gb381, 3, none⟩) (Kd.Rfa (p := ⟨gb381, 2, none⟩) (Kd.Rfa (p := ⟨gb381, 1, none⟩) (Kd.Rfa (p := ⟨gb381, 0, none⟩) (Kd.Rty HO377.out BK381.out (by decide)) (fun _ hk => hk.2) (.int .i64 t363)) (fun _ hk => hk.2) (.string t364)) (fun _ hk => hk.2) (.slice Ao31 t365.length co31)) (fun _ hk => hk.2) (.slice Ao32 t368.length co32)) (fun _ hk => hk.2) (.string t371)) (fun _ hk => hk.2) (.slice Ao33 t372.length co33)) (fun _ hk => hk.2) (.slice Ao34 t375.length co34)) (fun _ hk => hk.2) (.slice Ao35 t378.length co35)) (fun _ h_ => h_.1))) hb); have n9_ := Aside0.mk (Kd.Sbe (by (with_reducible repeat (first | apply Kd.Sal | apply Kd.SdN | apply Kd.Sdr)); exact (Kd.Smo (Kd.Sfa (p := ⟨gb381, 7, none⟩) (Kd.Sfa (p := ⟨gb381, 6, none⟩) (Kd.Sfa (p := ⟨gb381, 5, none⟩) (Kd.Sfa (p := ⟨gb381, 4, none⟩) (Kd.Sfa (p := ⟨gb381, 3, none⟩) (Kd.Sfa (p := ⟨gb381, 2, none⟩) (Kd.Sfa (p := ⟨gb381, 1, none⟩) (Kd.Sfa (p := ⟨gb381, 0, none⟩) (Kd.Sty HO380.out BK381.out (by decide)) (fun _ hk => hk.2) (.int .i64 t363)) (fun _ hk => hk.2) (.string t364)) (fun _ hk => hk.2) (.slice Ao31 t365.length co31)) (fun _ hk => hk.2) (.slice Ao32 t368.length co32)) (fun _ hk => hk.2) (.string t371)) (fun _ hk => hk.2) (.slice Ao33 t372.length co33)) (fun _ hk => hk.2) (.slice Ao34 t375.length co34)) (fun _ hk => hk.2) (.slice Ao35 t378.length co35)) (fun _ h_ => h_.1))) hb); have n10_ := Aside0.mk (bbe (g := gb342) (o := .cells #[.int .i64 a0_0, .string a0_1, .slice A0_2 l0_2.length c0_2, .slice A0_3 l0_3.length c0_3, .string a0_4, .slice A0_5 l0_5.length c0_5, .slice A0_6 l0_6.length c0_6, .slice A0_7 l0_7.length c0_7] 27 (0, 0)) (by (with_reducible repeat (first | refine bdN ?_ _ | refine bkD ?_ | refine bkA ?_ _)); refine bfa ?_ NB342_381.out _; (with_reducible repeat (first | refine bdN ?_ _ | refine bkD ?_ | refine bkA ?_ _)); refine bfa ?_ NB342_381.out _; (with_reducible repeat (first | refine bdN ?_ _ | refine bkD ?_ | refine bkA ?_ _)); refine bfa ?_ NB342_381.out _; (with_reducible repeat (first | refine bdN ?_ _ | refine bkD ?_ | refine bkA ?_ _)); refine bfa ?_ NB342_381.out _; (with_reducible repeat (first | refine bdN ?_ _ | refine bkD ?_ | refine bkA ?_ _)); refine bfa ?_ NB342_381.out _; (with_reducible repeat (first | refine bdN ?_ _ | refine bkD ?_ | refine bkA ?_ _)); refine bfa ?_ NB342_381.out _; (with_reducible repeat (first | refine bdN ?_ _ | refine bkD ?_ | refine bkA ?_ _)); refine bfa ?_ NB342_381.out _; (with_reducible repeat (first | refine bdN ?_ _ | refine bkD ?_ | refine bkA ?_ _)); refine bfa ?_ NB342_381.out _; (with_reducible repeat (first | refine bdN ?_ _ | refine bkD ?_ | refine bkA ?_ _)); exact BK342.out) hb); have n11_ := Aside0.mk (bbe (g := gb381) (o := .cells #[.int .i64 t363, .string t364, .slice Ao31 t365.length co31, .slice Ao32 t368.length co32, .string t371, .slice Ao33 t372.length co33, .slice Ao34 t375.length co34, .slice Ao35 t378.length co35] 35 (0, 0)) (by (with_reducible repeat (first | refine bdN ?_ _ | refine bkD ?_ | refine bkA ?_ _)); refine bpu (cs := #[.int .i64 t363, .string t364, .slice Ao31 t365.length co31, .slice Ao32 t368.length co32, .string t371, .slice Ao33 t372.length co33, .slice Ao34 t375.length co34, .slice none 0 0]) ?_ 7 _ rfl; (with_reducible repeat (first | refine bdN ?_ _ | refine bkD ?_ | refine bkA ?_ _)); refine bpu (cs := #[.int .i64 t363, .string t364, .slice Ao31 t365.length co31, .slice Ao32 t368.length co32, .string t371, .slice Ao33 t372.length co33, .slice none 0 0, .slice none 0 0]) ?_ 6 _ rfl; (with_reducible repeat (first | refine bdN ?_ _ | refine bkD ?_ | refine bkA ?_ _)); refine bpu (cs := #[.int .i64 t363, .string t364, .slice Ao31 t365.length co31, .slice Ao32 t368.length co32, .string t371, .slice none 0 0, .slice none 0 0, .slice none 0 0]) ?_ 5 _ rfl; (with_reducible repeat (first | refine bdN ?_ _ | refine bkD ?_ | refine bkA ?_ _)); refine bpu (cs := #[.int .i64 t363, .string t364, .slice Ao31 t365.length co31, .slice Ao32 t368.length co32, .string (⟨#[]⟩ : ByteArray), .slice none 0 0, .slice none 0 0, .slice none 0 0]) ?_ 4 _ rfl; (with_reducible repeat (first | refine bdN ?_ _ | refine bkD ?_ | refine bkA ?_ _)); refine bpu (cs := #[.int .i64 t363, .string t364, .slice Ao31 t365.length co31, .slice none 0 0, .string (⟨#[]⟩ : ByteArray), .slice none 0 0, .slice none 0 0, .slice none 0 0]) ?_ 3 _ rfl; (with_reducible repeat (first | refine bdN ?_ _ | refine bkD ?_ | refine bkA ?_ _)); refine bpu (cs := #[.int .i64 t363, .string t364, .slice none 0 0, .slice none 0 0, .string (⟨#[]⟩ : ByteArray), .slice none 0 0, .slice none 0 0, .slice none 0 0]) ?_ 2 _ rfl; (with_reducible repeat (first | refine bdN ?_ _ | refine bkD ?_ | refine bkA ?_ _)); refine bpu (cs := #[.int .i64 t363, .string (⟨#[]⟩ : ByteArray), .slice none 0 0, .slice none 0 0, .string (⟨#[]⟩ : ByteArray), .slice none 0 0, .slice none 0 0, .slice none 0 0]) ?_ 1 _ rfl; (with_reducible repeat (first | refine bdN ?_ _ | refine bkD ?_ | refine bkA ?_ _)); refine bpu (cs := #[.int .i64 0, .string (⟨#[]⟩ : ByteArray), .slice none 0 0, .slice none 0 0, .string (⟨#[]⟩ : ByteArray), .slice none 0 0, .slice none 0 0, .slice none 0 0]) ?_ 0 _ rfl; (with_reducible repeat (first | refine bdN ?_ _ | refine bkD ?_ | refine bkA ?_ _)); exact BK381.out) hb); have n12_ := Aside0.mk (bst (by repeat (first | (with_reducible first | exact HB.out | apply bal | apply pbd | apply bd1 | refine bse ?_ GE342.out | refine bse ?_ GE381.out) | exact HB.out)) hb); replace HO348 := n0_; replace HO351 := n1_; replace HO355 := n2_; replace HO358 := n3_; replace HO361 := n4_; replace HO367 := n5_; replace HO370 := n6_; replace HO374 := n7_; replace HO377 := n8_; replace HO380 := n9_; replace BK342 := n10_; replace BK381 := n11_; replace HB := n12_; clear n0_ n1_ n2_ n3_ n4_ n5_ n6_ n7_ n8_ n9_ n10_ n11_ n12_; (try clear hb); (try clear hb2); (try clear hk); (try clear hi)))); have n0_ := Aside0.mk (Kd.Rdr HO348.out); have n1_ := Aside0.mk (Kd.Rdr HO351.out); have n2_ := Aside0.mk (Kd.Rdr HO355.out); have n3_ := Aside0.mk (Kd.Rdr HO358.out); have n4_ := Aside0.mk (Kd.Sdr HO361.out); have n5_ := Aside0.mk (Kd.Rdr HO367.out); have n6_ := Aside0.mk (Kd.Rdr HO370.out); have n7_ := Aside0.mk (Kd.Rdr HO374.out); have n8_ := Aside0.mk (Kd.Rdr HO377.out); have n9_ := Aside0.mk (Kd.Sdr HO380.out); have n10_ := Aside0.mk (bkD BK342.out); have n11_ := Aside0.mk (bkD BK381.out); have n12_ := Aside0.mk (bd1 HB.out); replace HO348 := n0_; replace HO351 := n1_; replace HO355 := n2_; replace HO358 := n3_; replace HO361 := n4_; replace HO367 := n5_; replace HO370 := n6_; replace HO374 := n7_; replace HO377 := n8_; replace HO380 := n9_; replace BK342 := n10_; replace BK381 := n11_; replace HB := n12_; clear n0_ n1_ n2_ n3_ n4_ n5_ n6_ n7_ n8_ n9_ n10_ n11_ n12_; refine start_ (n := 5) (S := fun w' => w'.cell? ⟨gb381, 0, none⟩ = some (.int .i64 t363) ∧ w'.cell? ⟨gb381, 1, none⟩ = some (.string t364) ∧ w'.cell? ⟨gb381, 2, none⟩ = some (.slice Ao31 t365.length co31) ∧ w'.cell? ⟨gb381, 3, none⟩ = some (.slice Ao32 t368.length co32) ∧ w'.cell? ⟨gb381, 4, none⟩ = some (.string t371) ∧ w'.cell? ⟨gb381, 5, none⟩ = some (.slice Ao33 t372.length co33) ∧ w'.cell? ⟨gb381, 6, none⟩ = some (.slice Ao34 t375.length co34) ∧ w'.cell? ⟨gb381, 7, none⟩ = some (.slice Ao35 t378.length co35) ∧ w'.cell? ⟨gb342, 0, none⟩ = some (.int .i64 a0_0) ∧ w'.cell? ⟨gb342, 1, none⟩ = some (.string a0_1) ∧ w'.cell? ⟨gb342, 2, none⟩ = some (.slice A0_2 l0_2.length c0_2) ∧ w'.cell? ⟨gb342, 3, none⟩ = some (.slice A0_3 l0_3.length c0_3) ∧ w'.cell? ⟨gb342, 4, none⟩ = some (.string a0_4) ∧ w'.cell? ⟨gb342, 5, none⟩ = some (.slice A0_5 l0_5.length c0_5) ∧ w'.cell? ⟨gb342, 6, none⟩ = some (.slice A0_6 l0_6.length c0_6) ∧ w'.cell? ⟨gb342, 7, none⟩ = some (.slice A0_7 l0_7.length c0_7)) (ds := []) #[false, false, false, false, false] (by kernel_rfl) rfl rfl ⟨(bce BK381.out 0).trans rfl, (bce BK381.out 1).trans rfl, (bce BK381.out 2).trans rfl, (bce BK381.out 3).trans rfl, (bce BK381.out 4).trans rfl, (bce BK381.out 5).trans rfl, (bce BK381.out 6).trans rfl, (bce BK381.out 7).trans rfl, (bce BK342.out 0).trans rfl, (bce BK342.out 1).trans rfl, (bce BK342.out 2).trans rfl, (bce BK342.out 3).trans rfl, (bce BK342.out 4).trans rfl, (bce BK342.out 5).trans rfl, (bce BK342.out 6).trans rfl, (bce BK342.out 7).trans rfl⟩ (fun hHeld => ?_); generalize w36.drew = w37 at HO348 HO351 HO355 HO358 HO361 HO367 HO370 HO374 HO377 HO380 BK342 BK381 HB hHeld ⊢; refine take_ (i := 0) (N := some 22) (v := ?_) (a' := ?_) #[true, false, false, false, false] rfl rfl (by kernel_rfl) (fun _ _ _ h => h) (Or.inl ⟨by rfl, ?_⟩) hHeld ?_ ?_; rotate_left
        · rintro w' ⟨s0, s1, s2, s3, s4, s5, s6, s7, s8, s9, s10, s11, s12, s13, s14, s15⟩; go_simp; (with_reducible rfl)
        rotate_left
        · simp only [Act.put, List.setIfInBounds_toArray, List.set_cons_zero, List.set_cons_succ, i64_w, i32_w]; rfl
        refine take_ (i := 1) (N := some 23) (v := ?_) (a' := ?_) #[true, true, false, false, false] rfl rfl (by kernel_rfl) (fun _ _ _ h => h) (Or.inl ⟨by rfl, ?_⟩) hHeld ?_ ?_; rotate_left
        · rintro w' ⟨s0, s1, s2, s3, s4, s5, s6, s7, s8, s9, s10, s11, s12, s13, s14, s15⟩; go_simp; (with_reducible rfl)
        rotate_left
        · simp only [Act.put, List.setIfInBounds_toArray, List.set_cons_zero, List.set_cons_succ, i64_w, i32_w]; rfl
        refine one_ (i := 2) (N := some 24) #[true, true, true, false, false] rfl rfl (by kernel_rfl) (by decide) (fun K hK => ?_); refine goes_ Tryd.func7 (by kernel_rfl) rfl #[.agg #[.int .i64 a0_0, .string a0_1, .slice A0_2 l0_2.length c0_2, .slice A0_3 l0_3.length c0_3, .string a0_4, .slice A0_5 l0_5.length c0_5, .slice A0_6 l0_6.length c0_6, .slice A0_7 l0_7.length c0_7]] (by rfl) rfl rfl (by (try simp only [List.map_toArray, List.map_cons, List.map_nil]); first | done | rfl | (simp only [List.length_drop, List.length_take]; rfl)) ?_; (with_reducible refine (laws_toStm.calls k a0_0 a0_1 _ _ l0_2 _ _ l0_3 a0_4 _ _ l0_5 _ _ l0_6 _ _ l0_7 t383 t384 t385 t388 t391 t392 t395 t398 _ ?side1 ?side2 ?side3 ?side4 ?side5 ?side6 ?side7 ?side8 ?side9 ?side10 A12.out).mono ?_); (case side1 => repeat (first | exact (Kd.Cbe HR0_2.out HB.out) | (with_reducible refine Kd.Cal ?_ _) | (with_reducible refine Kd.CdN ?_ _) | (with_reducible refine Kd.Cdr ?_))); (case side2 => exact HC0_2.out); (case side3 => repeat (first | exact (Kd.Cbe HR0_3.out HB.out) | (with_reducible refine Kd.Cal ?_ _) | (with_reducible refine Kd.CdN ?_ _) | (with_reducible refine Kd.Cdr ?_))); (case side4 => exact HC0_3.out); (case side5 => repeat (first | exact (Kd.Cbe HR0_5.out HB.out) | (with_reducible refine Kd.Cal ?_ _) | (with_reducible refine Kd.CdN ?_ _) | (with_reducible refine Kd.Cdr ?_))); (case side6 => exact HC0_5.out); (case side7 => repeat (first | exact (Kd.Cbe HR0_6.out HB.out) | (with_reducible refine Kd.Cal ?_ _) | (with_reducible refine Kd.CdN ?_ _) | (with_reducible refine Kd.Cdr ?_))); (case side8 => exact HC0_6.out); (case side9 => repeat (first | exact (Kd.Cbe HR0_7.out HB.out) | (with_reducible refine Kd.Cal ?_ _) | (with_reducible refine Kd.CdN ?_ _) | (with_reducible refine Kd.Cdr ?_))); (case side10 => exact HC0_7.out); rintro e w38 ⟨v386, v389, v393, v396, v399, rfl, ho0, ho1, ho2, ho3, ho4, hb⟩; refine ⟨_, rfl, ?_⟩; have n0_ := Aside0.mk (Kd.R_elder' (by (with_reducible repeat (first | apply Kd.Ral | apply Kd.RdN | apply Kd.Rdr)); exact HO348.out) (Kd.R_base ho0) hb); have n1_ := Aside0.mk (Kd.R_elder' (by (with_reducible repeat (first | apply Kd.Ral | apply Kd.RdN | apply Kd.Rdr)); exact HO351.out) (Kd.R_base ho1) hb); have n2_ := Aside0.mk (Kd.Rmo (Kd.R_told (Kd.R_told (Kd.R_old (by (with_reducible repeat (first | apply Kd.Ral | apply Kd.RdN | apply Kd.Rdr)); exact HO355.out) hb) (Kd.R_base ho2)) (Kd.R_base ho3)) (fun _ h_ => h_.1)); have n3_ := Aside0.mk (Kd.Rmo (Kd.R_told (Kd.R_told (Kd.R_old (by (with_reducible repeat (first | apply Kd.Ral | apply Kd.RdN | apply Kd.Rdr)); exact HO358.out) hb) (Kd.R_base ho2)) (Kd.R_base ho3)) (fun _ h_ => h_.1)); have n4_ := Aside0.mk (Kd.Smo (Kd.S_told (Kd.S_told (Kd.S_told (Kd.S_old (by (with_reducible repeat (first | apply Kd.Sal | apply Kd.SdN | apply Kd.Sdr)); exact HO361.out) hb) (Kd.R_base ho2)) (Kd.R_base ho3)) (Kd.S_base ho4)) (fun _ h_ => h_.1)); have n5_ := Aside0.mk (Kd.R_elder' (by (with_reducible repeat (first | apply Kd.Ral | apply Kd.RdN | apply Kd.Rdr)); exact HO367.out) (Kd.R_base ho0) hb); have n6_ := Aside0.mk (Kd.R_elder' (by (with_reducible repeat (first | apply Kd.Ral | apply Kd.RdN | apply Kd.Rdr)); exact HO370.out) (Kd.R_base ho1) hb); have n7_ := Aside0.mk (Kd.Rmo (Kd.R_told (Kd.R_told (Kd.R_old (by (with_reducible repeat (first | apply Kd.Ral | apply Kd.RdN | apply Kd.Rdr)); exact HO374.out) hb) (Kd.R_base ho2)) (Kd.R_base ho3)) (fun _ h_ => h_.1)); have n8_ := Aside0.mk (Kd.Rmo (Kd.R_told (Kd.R_told (Kd.R_old (by (with_reducible repeat (first | apply Kd.Ral | apply Kd.RdN | apply Kd.Rdr)); exact HO377.out) hb) (Kd.R_base ho2)) (Kd.R_base ho3)) (fun _ h_ => h_.1)); have n9_ := Aside0.mk (Kd.Smo (Kd.S_told (Kd.S_told (Kd.S_told (Kd.S_old (by (with_reducible repeat (first | apply Kd.Sal | apply Kd.SdN | apply Kd.Sdr)); exact HO380.out) hb) (Kd.R_base ho2)) (Kd.R_base ho3)) (Kd.S_base ho4)) (fun _ h_ => h_.1)); have n10_ := Aside0.mk (Kd.Rlo (Kd.R_new' (Kd.R_new' ho0 (Kd.R_lt (by (with_reducible repeat (first | apply Kd.Ral | apply Kd.RdN | apply Kd.Rdr)); exact HO348.out))) (Kd.R_lt (by (with_reducible repeat (first | apply Kd.Ral | apply Kd.RdN | apply Kd.Rdr)); exact HO367.out))) (bsz (by repeat (first | (with_reducible first | exact HB.out | apply bal | apply pbd | apply bd1 | refine bse ?_ GE342.out | refine bse ?_ GE381.out) | exact HB.out)))); have n11_ := Aside0.mk (Kd.Rlo (Kd.R_new' (Kd.R_new' ho1 (Kd.R_lt (by (with_reducible repeat (first | apply Kd.Ral | apply Kd.RdN | apply Kd.Rdr)); exact HO351.out))) (Kd.R_lt (by (with_reducible repeat (first | apply Kd.Ral | apply Kd.RdN | apply Kd.Rdr)); exact HO370.out))) (bsz (by repeat (first | (with_reducible first | exact HB.out | apply bal | apply pbd | apply bd1 | refine bse ?_ GE342.out | refine bse ?_ GE381.out) | exact HB.out)))); have n12_ := Aside0.mk (Kd.Rlo (Kd.R_new' (Kd.R_new' (Kd.R_new' (Kd.R_new' ho2 (Kd.R_lt (by (with_reducible repeat (first | apply Kd.Ral | apply Kd.RdN | apply Kd.Rdr)); exact HO355.out))) (Kd.R_lt (by (with_reducible repeat (first | apply Kd.Ral | apply Kd.RdN | apply Kd.Rdr)); exact HO358.out))) (Kd.R_lt (by (with_reducible repeat (first | apply Kd.Ral | apply Kd.RdN | apply Kd.Rdr)); exact HO374.out))) (Kd.R_lt (by (with_reducible repeat (first | apply Kd.Ral | apply Kd.RdN | apply Kd.Rdr)); exact HO377.out))) (bsz (by repeat (first | (with_reducible first | exact HB.out | apply bal | apply pbd | apply bd1 | refine bse ?_ GE342.out | refine bse ?_ GE381.out) | exact HB.out)))); have n13_ := Aside0.mk (Kd.Rlo (Kd.R_new' (Kd.R_new' (Kd.R_new' (Kd.R_new' ho3 (Kd.R_lt (by (with_reducible repeat (first | apply Kd.Ral | apply Kd.RdN | apply Kd.Rdr)); exact HO355.out))) (Kd.R_lt (by (with_reducible repeat (first | apply Kd.Ral | apply Kd.RdN | apply Kd.Rdr)); exact HO358.out))) (Kd.R_lt (by (with_reducible repeat (first | apply Kd.Ral | apply Kd.RdN | apply Kd.Rdr)); exact HO374.out))) (Kd.R_lt (by (with_reducible repeat (first | apply Kd.Ral | apply Kd.RdN | apply Kd.Rdr)); exact HO377.out))) (bsz (by repeat (first | (with_reducible first | exact HB.out | apply bal | apply pbd | apply bd1 | refine bse ?_ GE342.out | refine bse ?_ GE381.out) | exact HB.out)))); have n14_ := Aside0.mk (Kd.S_lower (Kd.S_new' (Kd.S_new' (Kd.S_new' (Kd.S_new' (Kd.S_new' (Kd.S_new' ho4 (Kd.R_lt (by (with_reducible repeat (first | apply Kd.Ral | apply Kd.RdN | apply Kd.Rdr)); exact HO355.out))) (Kd.R_lt (by (with_reducible repeat (first | apply Kd.Ral | apply Kd.RdN | apply Kd.Rdr)); exact HO358.out))) (Kd.S_lt (by (with_reducible repeat (first | apply Kd.Sal | apply Kd.SdN | apply Kd.Sdr)); exact HO361.out))) (Kd.R_lt (by (with_reducible repeat (first | apply Kd.Ral | apply Kd.RdN | apply Kd.Rdr)); exact HO374.out))) (Kd.R_lt (by (with_reducible repeat (first | apply Kd.Ral | apply Kd.RdN | apply Kd.Rdr)); exact HO377.out))) (Kd.S_lt (by (with_reducible repeat (first | apply Kd.Sal | apply Kd.SdN | apply Kd.Sdr)); exact HO380.out))) (bsz (by repeat (first | (with_reducible first | exact HB.out | apply bal | apply pbd | apply bd1 | refine bse ?_ GE342.out | refine bse ?_ GE381.out) | exact HB.out)))); have n15_ := Aside0.mk (bbe (g := gb342) (o := .cells #[.int .i64 a0_0, .string a0_1, .slice A0_2 l0_2.length c0_2, .slice A0_3 l0_3.length c0_3, .string a0_4, .slice A0_5 l0_5.length c0_5, .slice A0_6 l0_6.length c0_6, .slice A0_7 l0_7.length c0_7] 27 (0, 0)) (by (with_reducible repeat (first | refine bdN ?_ _ | refine bkD ?_ | refine bkA ?_ _)); exact BK342.out) hb); have n16_ := Aside0.mk (bbe (g := gb381) (o := .cells #[.int .i64 t363, .string t364, .slice Ao31 t365.length co31, .slice Ao32 t368.length co32, .string t371, .slice Ao33 t372.length co33, .slice Ao34 t375.length co34, .slice Ao35 t378.length co35] 35 (0, 0)) (by (with_reducible repeat (first | refine bdN ?_ _ | refine bkD ?_ | refine bkA ?_ _)); exact BK381.out) hb); have n17_ := Aside0.mk (bst (by repeat (first | (with_reducible first | exact HB.out | apply bal | apply pbd | apply bd1 | refine bse ?_ GE342.out | refine bse ?_ GE381.out) | exact HB.out)) hb); replace HO348 := n0_; replace HO351 := n1_; replace HO355 := n2_; replace HO358 := n3_; replace HO361 := n4_; replace HO367 := n5_; replace HO370 := n6_; replace HO374 := n7_; replace HO377 := n8_; replace HO380 := n9_; have HO387 := n10_; have HO390 := n11_; have HO394 := n12_; have HO397 := n13_; have HO400 := n14_; replace BK342 := n15_; replace BK381 := n16_; replace HB := n17_; clear n0_ n1_ n2_ n3_ n4_ n5_ n6_ n7_ n8_ n9_ n10_ n11_ n12_ n13_ n14_ n15_ n16_ n17_; (try clear hb); (try clear hb2); (try clear hk); (try clear hi); (try clear ho0); (try clear ho1); (try clear ho2); (try clear ho3); (try clear ho4); obtain ⟨Ao39, co39, eo39⟩ := Kd.R_slice HO387.out; (first | subst eo39 | (injection eo39 with f1_ f2_ f3_; have f4_ := f1_.symm; have f5_ := f3_.symm; clear f1_ f2_ f3_; subst f4_; subst f5_)); obtain ⟨Ao40, co40, eo40⟩ := Kd.R_slice HO390.out; (first | subst eo40 | (injection eo40 with f1_ f2_ f3_; have f4_ := f1_.symm; have f5_ := f3_.symm; clear f1_ f2_ f3_; subst f4_; subst f5_)); obtain ⟨Ao41, co41, eo41⟩ := Kd.R_slice HO394.out; (first | subst eo41 | (injection eo41 with f1_ f2_ f3_; have f4_ := f1_.symm; have f5_ := f3_.symm; clear f1_ f2_ f3_; subst f4_; subst f5_)); obtain ⟨Ao42, co42, eo42⟩ := Kd.R_slice HO397.out; (first | subst eo42 | (injection eo42 with f1_ f2_ f3_; have f4_ := f1_.symm; have f5_ := f3_.symm; clear f1_ f2_ f3_; subst f4_; subst f5_)); obtain ⟨Ao43, co43, eo43⟩ := Kd.S_slice HO400.out; (first | subst eo43 | (injection eo43 with f1_ f2_ f3_; have f4_ := f1_.symm; have f5_ := f3_.symm; clear f1_ f2_ f3_; subst f4_; subst f5_)); refine hK.out _ _ ⟨(bce BK381.out 0).trans rfl, (bce BK381.out 1).trans rfl, (bce BK381.out 2).trans rfl, (bce BK381.out 3).trans rfl, (bce BK381.out 4).trans rfl, (bce BK381.out 5).trans rfl, (bce BK381.out 6).trans rfl, (bce BK381.out 7).trans rfl, (bce BK342.out 0).trans rfl, (bce BK342.out 1).trans rfl, (bce BK342.out 2).trans rfl, (bce BK342.out 3).trans rfl, (bce BK342.out 4).trans rfl, (bce BK342.out 5).trans rfl, (bce BK342.out 6).trans rfl, (bce BK342.out 7).trans rfl⟩ (fun hHeld => ?_); clear hK K; refine norm_ (a' := ?_) ?_ ?_; rotate_left
        · show Act.put _ (some 24) _ = _; simp only [Act.put, List.setIfInBounds_toArray, List.set_cons_zero, List.set_cons_succ, i64_w, i32_w]; rfl
        refine one_ (i := 3) (N := some 25) #[true, true, true, true, false] rfl rfl (by kernel_rfl) (by decide) (fun K hK => ?_); refine goes_ Tryd.func9 (by kernel_rfl) rfl #[.agg #[.int .i64 t363, .string t364, .slice Ao31 t365.length co31, .slice Ao32 t368.length co32, .string t371, .slice Ao33 t372.length co33, .slice Ao34 t375.length co34, .slice Ao35 t378.length co35], .agg #[.int .i64 t383, .string t384, .slice Ao39 t385.length co39, .slice Ao40 t388.length co40, .string t391, .slice Ao41 t392.length co41, .slice Ao42 t395.length co42, .slice Ao43 t398.length co43]] (by rfl) rfl rfl (by (try simp only [List.map_toArray, List.map_cons, List.map_nil]); first | done | rfl | (simp only [List.length_drop, List.length_take]; rfl)) ?_; (with_reducible refine (laws_eqStm.calls k t363 t364 _ _ t365 _ _ t368 t371 _ _ t372 _ _ t375 _ _ t378 t383 t384 _ _ t385 _ _ t388 t391 _ _ t392 _ _ t395 _ _ t398 true _ ?side1 ?side2 ?side3 ?side4 ?side5 ?side6 ?side7 ?side8 ?side9 ?side10 ?side11 ?side12 ?side13 ?side14 ?side15 ?side16 ?side17 ?side18 ?side19 ?side20 A13.out).mono ?_); (case side1 => repeat (first | exact (Kd.R_reads' HO367.out).2.2 | (with_reducible refine Kd.Cal ?_ _) | (with_reducible refine Kd.CdN ?_ _) | (with_reducible refine Kd.Cdr ?_))); (case side2 => exact (Kd.R_reads' HO367.out).2.1); (case side3 => repeat (first | exact (Kd.R_reads' HO370.out).2.2 | (with_reducible refine Kd.Cal ?_ _) | (with_reducible refine Kd.CdN ?_ _) | (with_reducible refine Kd.Cdr ?_))); (case side4 => exact (Kd.R_reads' HO370.out).2.1); (case side5 => repeat (first | exact (Kd.R_reads' HO374.out).2.2 | (with_reducible refine Kd.Cal ?_ _) | (with_reducible refine Kd.CdN ?_ _) | (with_reducible refine Kd.Cdr ?_))); (case side6 => exact (Kd.R_reads' HO374.out).2.1); (case side7 => repeat (first | exact (Kd.R_reads' HO377.out).2.2 | (with_reducible refine Kd.Cal ?_ _) | (with_reducible refine Kd.CdN ?_ _) | (with_reducible refine Kd.Cdr ?_))); (case side8 => exact (Kd.R_reads' HO377.out).2.1); (case side9 => repeat (first | exact (Kd.S_reads' HO380.out).2.2 | (with_reducible refine Kd.Cal ?_ _) | (with_reducible refine Kd.CdN ?_ _) | (with_reducible refine Kd.Cdr ?_))); (case side10 => exact (Kd.S_reads' HO380.out).2.1); (case side11 => repeat (first | exact (Kd.R_reads' HO387.out).2.2 | (with_reducible refine Kd.Cal ?_ _) | (with_reducible refine Kd.CdN ?_ _) | (with_reducible refine Kd.Cdr ?_))); (case side12 => exact (Kd.R_reads' HO387.out).2.1); (case side13 => repeat (first | exact (Kd.R_reads' HO390.out).2.2 | (with_reducible refine Kd.Cal ?_ _) | (with_reducible refine Kd.CdN ?_ _) | (with_reducible refine Kd.Cdr ?_))); (case side14 => exact (Kd.R_reads' HO390.out).2.1); (case side15 => repeat (first | exact (Kd.R_reads' HO394.out).2.2 | (with_reducible refine Kd.Cal ?_ _) | (with_reducible refine Kd.CdN ?_ _) | (with_reducible refine Kd.Cdr ?_))); (case side16 => exact (Kd.R_reads' HO394.out).2.1); (case side17 => repeat (first | exact (Kd.R_reads' HO397.out).2.2 | (with_reducible refine Kd.Cal ?_ _) | (with_reducible refine Kd.CdN ?_ _) | (with_reducible refine Kd.Cdr ?_))); (case side18 => exact (Kd.R_reads' HO397.out).2.1); (case side19 => repeat (first | exact (Kd.S_reads' HO400.out).2.2 | (with_reducible refine Kd.Cal ?_ _) | (with_reducible refine Kd.CdN ?_ _) | (with_reducible refine Kd.Cdr ?_))); (case side20 => exact (Kd.S_reads' HO400.out).2.1); rintro e w44 ⟨rfl, hb⟩; refine ⟨_, rfl, ?_⟩; have n0_ := Aside0.mk (Kd.Rbe (by (with_reducible repeat (first | apply Kd.Ral | apply Kd.RdN | apply Kd.Rdr)); exact HO348.out) hb); have n1_ := Aside0.mk (Kd.Rbe (by (with_reducible repeat (first | apply Kd.Ral | apply Kd.RdN | apply Kd.Rdr)); exact HO351.out) hb); have n2_ := Aside0.mk (Kd.Rbe (by (with_reducible repeat (first | apply Kd.Ral | apply Kd.RdN | apply Kd.Rdr)); exact HO355.out) hb); have n3_ := Aside0.mk (Kd.Rbe (by (with_reducible repeat (first | apply Kd.Ral | apply Kd.RdN | apply Kd.Rdr)); exact HO358.out) hb); have n4_ := Aside0.mk (Kd.Sbe (by (with_reducible repeat (first | apply Kd.Sal | apply Kd.SdN | apply Kd.Sdr)); exact HO361.out) hb); have n5_ := Aside0.mk (Kd.Rbe (by (with_reducible repeat (first | apply Kd.Ral | apply Kd.RdN | apply Kd.Rdr)); exact HO367.out) hb); have n6_ := Aside0.mk (Kd.Rbe (by (with_reducible repeat (first | apply Kd.Ral | apply Kd.RdN | apply Kd.Rdr)); exact HO370.out) hb); have n7_ := Aside0.mk (Kd.Rbe (by (with_reducible repeat (first | apply Kd.Ral | apply Kd.RdN | apply Kd.Rdr)); exact HO374.out) hb); have n8_ := Aside0.mk (Kd.Rbe (by (with_reducible repeat (first | apply Kd.Ral | apply Kd.RdN | apply Kd.Rdr)); exact HO377.out) hb); have n9_ := Aside0.mk (Kd.Sbe (by (with_reducible repeat (first | apply Kd.Sal | apply Kd.SdN | apply Kd.Sdr)); exact HO380.out) hb); have n10_ := Aside0.mk (Kd.Rbe (by (with_reducible repeat (first | apply Kd.Ral | apply Kd.RdN | apply Kd.Rdr)); exact HO387.out) hb); have n11_ := Aside0.mk (Kd.Rbe (by (with_reducible repeat (first | apply Kd.Ral | apply Kd.RdN | apply Kd.Rdr)); exact HO390.out) hb); have n12_ := Aside0.mk (Kd.Rbe (by (with_reducible repeat (first | apply Kd.Ral | apply Kd.RdN | apply Kd.Rdr)); exact HO394.out) hb); have n13_ := Aside0.mk (Kd.Rbe (by (with_reducible repeat (first | apply Kd.Ral | apply Kd.RdN | apply Kd.Rdr)); exact HO397.out) hb); have n14_ := Aside0.mk (Kd.Sbe (by (with_reducible repeat (first | apply Kd.Sal | apply Kd.SdN | apply Kd.Sdr)); exact HO400.out) hb); have n15_ := Aside0.mk (bbe (g := gb342) (o := .cells #[.int .i64 a0_0, .string a0_1, .slice A0_2 l0_2.length c0_2, .slice A0_3 l0_3.length c0_3, .string a0_4, .slice A0_5 l0_5.length c0_5, .slice A0_6 l0_6.length c0_6, .slice A0_7 l0_7.length c0_7] 27 (0, 0)) (by (with_reducible repeat (first | refine bdN ?_ _ | refine bkD ?_ | refine bkA ?_ _)); exact BK342.out) hb); have n16_ := Aside0.mk (bbe (g := gb381) (o := .cells #[.int .i64 t363, .string t364, .slice Ao31 t365.length co31, .slice Ao32 t368.length co32, .string t371, .slice Ao33 t372.length co33, .slice Ao34 t375.length co34, .slice Ao35 t378.length co35] 35 (0, 0)) (by (with_reducible repeat (first | refine bdN ?_ _ | refine bkD ?_ | refine bkA ?_ _)); exact BK381.out) hb); have n17_ := Aside0.mk (bst (by repeat (first | (with_reducible first | exact HB.out | apply bal | apply pbd | apply bd1 | refine bse ?_ GE342.out | refine bse ?_ GE381.out) | exact HB.out)) hb); replace HO348 := n0_; replace HO351 := n1_; replace HO355 := n2_; replace HO358 := n3_; replace HO361 := n4_; replace HO367 := n5_; replace HO370 := n6_; replace HO374 := n7_; replace HO377 := n8_; replace HO380 := n9_; replace HO387 := n10_; replace HO390 := n11_; replace HO394 := n12_; replace HO397 := n13_; replace HO400 := n14_; replace BK342 := n15_; replace BK381 := n16_; replace HB := n17_; clear n0_ n1_ n2_ n3_ n4_ n5_ n6_ n7_ n8_ n9_ n10_ n11_ n12_ n13_ n14_ n15_ n16_ n17_; (try clear hb); (try clear hb2); (try clear hk); (try clear hi); refine hK.out _ _ ⟨(bce BK381.out 0).trans rfl, (bce BK381.out 1).trans rfl, (bce BK381.out 2).trans rfl, (bce BK381.out 3).trans rfl, (bce BK381.out 4).trans rfl, (bce BK381.out 5).trans rfl, (bce BK381.out 6).trans rfl, (bce BK381.out 7).trans rfl, (bce BK342.out 0).trans rfl, (bce BK342.out 1).trans rfl, (bce BK342.out 2).trans rfl, (bce BK342.out 3).trans rfl, (bce BK342.out 4).trans rfl, (bce BK342.out 5).trans rfl, (bce BK342.out 6).trans rfl, (bce BK342.out 7).trans rfl⟩ (fun hHeld => ?_); clear hK K; refine norm_ (a' := ?_) ?_ ?_; rotate_left
        · show Act.put _ (some 25) _ = _; simp only [Act.put, List.setIfInBounds_toArray, List.set_cons_zero, List.set_cons_succ, i64_w, i32_w]; rfl
        refine pure_ (i := 4) (N := some 26) (v := ?_) (a' := ?_) #[true, true, true, true, true] rfl rfl (by kernel_rfl) (fun _ _ _ h => h) (Or.inl ⟨by rfl, ?_⟩) ?_ ?_; rotate_left
        · intro w'; go_simp; (with_reducible rfl)
        rotate_left
        · simp only [Act.put, List.setIfInBounds_toArray, List.set_cons_zero, List.set_cons_succ, i64_w, i32_w]; rfl
        refine done_ (by kernel_rfl) ?_; (try go_wp2); go_ret; exact ⟨by first | rfl | (simp [eWn, eWs] <;> rfl) | (simp [*, eWn, eWs] <;> rfl), by repeat (first | (with_reducible first | exact HB.out | apply bal | apply pbd | apply bd1 | refine bse ?_ GE342.out | refine bse ?_ GE381.out) | exact HB.out)⟩
      · replace c14 := Bool.eq_false_iff.mpr c14; subst c14; (have H1 : (some false) = some r := by rw [if_neg (show ¬ (false = true) by decide)] at H; exact H); clear H; have H := H1; clear H1; subst hT; cases H
    · rw [if_neg c11] at H; have c11b0 : (t382.toList == t362.toList) = false := beq_eq_false_iff_ne.mpr c11; have c11b1 : (t382.toList != t362.toList) = true := bne_iff_ne.mpr c11; subst hT; cases H
end Go.Proofs.YtjihphegmdfpfaaDoor.L
end
section
set_option linter.unusedVariables false
set_option linter.unusedSimpArgs false
namespace Go.Proofs.YtjihphegmdfpfaaDoor
open Go.RowKit Go.ChangeShapes Go.WideShapes Go.Proofs.YtjihphegmdfpfaaDoorW.PrintWords
/-- Whatever reads as a datum of type t is a value of the kind d that is 'good'. -/
def Opens {α : Type} (P : Program) (t : TypeId) (d : Kd α) (good : α → Prop) : Prop :=
  ∀ (H : Type) (enc : TypeId × Value → H) (W : World) (fuel : Nat) (cs : List Value) (x : DataW H × List MemPlace),
    DataW.trod enc P W 0 (fun _ => true) true fuel t cs = some x → ∃ a, d.K W a cs ∧ good a
theorem opens_int {P : Program} {t : TypeId} {k : IntKind} (ht : P.underlying t = some (.int k)) : Opens P t (Kd.int k) (fun n => (Lit.int k n).wf = true) :=
  fun H enc W fuel cs x h => by
    obtain ⟨n, rfl, _, hw⟩ := DataW.trod_int ht h
    exact ⟨n, rfl, hw⟩
theorem opens_string {P : Program} {t : TypeId} (ht : P.underlying t = some .string) : Opens P t Kd.string (fun s => s.size ≤ maxLen) :=
  fun H enc W fuel cs x h => by
    obtain ⟨n, rfl, _, hw⟩ := DataW.trod_string ht h
    exact ⟨n, rfl, hw⟩
theorem cells_of_some {W : World} {a : Addr} {n : Nat} {cs : List Value} (h : W.cells? 0 a n = some cs) : cs.length = n ∧ ∀ i u, cs[i]? = some u → W.cell? (a.add i) = some u := by
  unfold World.cells? at h
  rw [if_pos (Nat.zero_le _)] at h
  have hl := mapM_some_length h
  rw [List.length_range] at hl
  refine ⟨hl, fun i u hu => ?_⟩
  have hi : i < n := by
    rcases Nat.lt_or_ge i n with h' | h'
    · exact h'
    · rw [List.getElem?_eq_none (by omega)] at hu; cases hu
  have := mapM_some_get h i i (by simp [hi])
  rw [this]; exact hu
theorem opens_slice {α : Type} {P : Program} {t e : TypeId} {d : Kd α} {good : α → Prop} [Inhabited α] (ht : P.underlying t = some (.slice e)) (hc : P.cellsOf e = d.sz) (he : Opens P e d good) :
    Opens P t (Kd.slice e d) (fun l => ∀ a ∈ l, good a) :=
  fun H enc W fuel cs x h => by
    rcases Go.Deep.open_slice ht h with ⟨rfl, _⟩ | ⟨a, len, cap, m, n, D, Pl, rfl, _, hlc, hm, hmm, _, hel⟩
    · exact ⟨[], ⟨none, 0, rfl, Nat.le_refl _, rfl, by simp, fun h => absurd h (by simp)⟩, fun a ha => by cases ha⟩
    · have hmc : m = cap := by simpa using hmm
      subst hmc
      have hx : ∀ i, i < len → ∃ y : α, (∃ cs', W.cells? 0 (a.add (i * P.cellsOf e)) (P.cellsOf e) = some cs' ∧ d.K W y cs') ∧ good y := fun i hi => by
        obtain ⟨cs', h1, h2⟩ := hel i (by omega)
        obtain ⟨y, hy, hg⟩ := he H enc W n cs' _ h2
        exact ⟨y, ⟨cs', h1, hy⟩, hg⟩
      obtain ⟨f, hf⟩ := Go.Deep.choose_lt hx
      have hlen : ((List.range len).map f).length = len := by simp
      refine ⟨(List.range len).map f, ⟨some a, m, by rw [hlen], by rw [hlen]; exact hlc, ?_⟩, fun y hy => ?_⟩
      · refine ⟨rfl, by rw [hlen]; unfold maxLen at hm; omega, fun _ => ⟨a, rfl, fun j p hp => ?_⟩⟩
        have hj : j < len := by
          rcases Nat.lt_or_ge j len with h' | h'
          · exact h'
          · rw [List.getElem?_eq_none (by omega)] at hp; cases hp
        have hpe : f j = p := by simpa [hj] using hp
        obtain ⟨⟨cs', h1, h2⟩, _⟩ := hf j hj
        obtain ⟨hl', hcell⟩ := cells_of_some h1
        refine ⟨cs', by rw [hl', hc], hpe ▸ h2, fun i u hu => ?_⟩
        have := hcell i u hu
        rw [Go.Deep.add_add, hc] at this
        exact this
      · obtain ⟨j, hj, rfl⟩ := List.mem_map.1 hy
        exact (hf j (List.mem_range.1 hj)).2
/-- Two cuts of a list, one behind the other. -/
theorem take_drop_add {α : Type} (cs : List α) (m n : Nat) : (cs.drop m).take n ++ cs.drop (m + n) = cs.drop m := by
  rw [← List.drop_drop]; exact List.take_append_drop n (cs.drop m)
/-- The fields from number i on, of a struct, one kind a field. -/
def OpensF {α : Type} (P : Program) (fs : Array Field) (i off : Nat) (d : Kd α) (good : α → Prop) : Prop :=
  ∀ (H : Type) (enc : TypeId × Value → H) (W : World) (n : Nat) (cs : List Value) (xs : List (DataW H × List MemPlace)), off ≤ cs.length → cs.length - off = d.sz → xs.length = fs.size →
    (∀ (j : Nat) (f : Field), fs[j]? = some f → DataW.trod enc P W 0 (fun _ => true) true n f.type ((cs.drop f.offset).take (P.cellsOf f.type)) = xs[j]?) → ∃ a, d.K W a (cs.drop off) ∧ good a
theorem opensF_last {α : Type} {P : Program} {fs : Array Field} {i off : Nat} {d : Kd α} {good : α → Prop} (f : Field) (hf : fs[i]? = some f) (ho : f.offset = off) (hc : P.cellsOf f.type = d.sz) (h : Opens P f.type d good) :
    OpensF P fs i off d good := fun H enc W n cs xs hle hl hx hg => by
  have hi : i < fs.size := by
    rcases Nat.lt_or_ge i fs.size with h' | h'
    · exact h'
    · rw [Array.getElem?_eq_none h'] at hf; cases hf
  have h1 := hg i f hf
  have hxi : xs[i]? = some (xs[i]'(by omega)) := List.getElem?_eq_getElem (by omega)
  rw [hxi, ho, hc, List.take_of_length_le (by simp; omega)] at h1
  exact h H enc W n _ _ h1
theorem opensF_cons {α β : Type} {P : Program} {fs : Array Field} {i off : Nat} {d : Kd α} {good : α → Prop} {d' : Kd β} {good' : β → Prop} (f : Field) (hf : fs[i]? = some f) (ho : f.offset = off) (hc : P.cellsOf f.type = d.sz)
    (h : Opens P f.type d good) (h' : OpensF P fs (i + 1) (off + d.sz) d' good') : OpensF P fs i off (Kd.pair d d') (fun x => good x.1 ∧ good' x.2) := fun H enc W n cs xs hle hl hx hg => by
  have hi : i < fs.size := by
    rcases Nat.lt_or_ge i fs.size with h' | h'
    · exact h'
    · rw [Array.getElem?_eq_none h'] at hf; cases hf
  have h1 := hg i f hf
  have hxi : xs[i]? = some (xs[i]'(by omega)) := List.getElem?_eq_getElem (by omega)
  rw [hxi, ho, hc] at h1
  obtain ⟨a, ha, hga⟩ := h H enc W n _ _ h1
  have hs : cs.length - off = d.sz + d'.sz := hl
  obtain ⟨b, hb, hgb⟩ := h' H enc W n cs xs (by omega) (by omega) hx hg
  exact ⟨(a, b), ⟨(cs.drop off).take d.sz, cs.drop (off + d.sz), (take_drop_add cs off d.sz).symm, ha, hb⟩, hga, hgb⟩
theorem opens_struct {α : Type} {P : Program} {t : TypeId} {fs : Array Field} {d : Kd α} {good : α → Prop} (ht : P.underlying t = some (.struct fs)) (hc : P.cellsOf t = d.sz) (h : OpensF P fs 0 0 d good) : Opens P t d good :=
  fun H enc W fuel cs x hx => by
    obtain ⟨xs, n, _, _, hl, hxl, hg⟩ := DataW.trod_struct ht hx
    have := h H enc W n cs xs (Nat.zero_le _) (by omega) hxl hg
    simpa using this
theorem len_le {α : Type} {d : Kd α} {W : World} {A : Option Addr} {l : List α} (h : d.C W A l.length l) : l.length ≤ maxLen := by
  have := h.2.1
  unfold maxLen
  omega
theorem inner_len {α : Type} {d : Kd α} {e : Nat} {W : World} {A : Option Addr} {l : List (List α)} (h : (Kd.slice e d).C W A l.length l) : ∀ y ∈ l, y.length ≤ maxLen := fun y hy => by
  obtain ⟨i, hi, rfl⟩ := List.mem_iff_getElem.1 hy
  obtain ⟨ad, c, _, _, hK, _⟩ := Kd.C_get h [] (i : Int) (by omega) (by omega)
  have e2 : l.getD (i : Int).toNat [] = l[i] := by simp [hi]
  rw [e2] at hK
  obtain ⟨A', c', _, _, hC⟩ := hK
  exact len_le hC
end Go.Proofs.YtjihphegmdfpfaaDoor
end
section
set_option linter.unusedVariables false
namespace Go.Proofs.YtjihphegmdfpfaaDoor
open Go Go.RowKit Go.ChangeShapes Go.WideShapes Go.ChangeAt Go.WideMaps Go.WideElems
theorem kw_named : Tryd.prog.globalNamed "loop.example/s02884/impl.keywords" = some 0 := by kernel_rfl
theorem kw_type : (Tryd.prog.globals[0]?).map (·.type) = some 103 := by kernel_rfl
theorem kw_atKey {H : Type} : ∀ (l : List (List UInt8)) (k : List UInt8) (z : DataW H), (DataW.map (l.map fun x => (Lit.string x, DataW.lit (.bool true)))).atKey (.string k) z = if l.contains k then .lit (.bool true) else z := by
  intro l k z
  induction l with
  | nil => rfl
  | cons x l ih =>
    have hs : (Lit.string x).sameKey (Lit.string k) = (x == k) := rfl
    simp only [DataW.atKey] at ih
    simp only [DataW.atKey, List.map_cons, List.find?_cons, hs, List.contains_cons]
    by_cases h : x = k
    · subst h
      rw [show (x == x) = true from beq_self_eq_true x]
      rfl
    · rw [show (x == k) = false from beq_eq_false_iff_ne.2 h, show (k == x) = false from beq_eq_false_iff_ne.2 (Ne.symm h), Bool.false_or]
      exact ih
theorem kw_datum {H : Type} : (Rows.laid_loop_example_s02884_impl_keywords : DataW H) = .map (kwL.map fun x => (Lit.string x, DataW.lit (.bool true))) := rfl
set_option maxRecDepth 100000 in
theorem gok_of_laid {W : World} (h : laidMetH Tryd.prog [("loop.example/s02884/impl.keywords", Rows.laid_loop_example_s02884_impl_keywords)] W) : GOK W := by
  rw [MakeChecks.laidMetH_plain _ _ _ (by kernel_rfl)] at h
  obtain ⟨ps, ⟨g0, t0, cs0, f0, p0, q0, hg0, ht0, hv0, hd0, _, _⟩, _, _⟩ := h
  obtain rfl := Option.some.inj (kw_named.symm.trans hg0)
  obtain rfl := Option.some.inj (kw_type.symm.trans ht0)
  rcases open_map Tryd.underlying103 hd0 with ⟨_, hx⟩ | ⟨bm, es, clock, m, rfl, hcs, hb, _, F, hx⟩
  · exact absurd (congrArg Prod.fst hx) (by intro e; cases e)
  simp only [Prod.mk.injEq] at hx
  have hcell : W.cell? ⟨0, 0, none⟩ = some (.map (some bm)) := by
    have := World.var?_cell hg0 hv0 0
    rw [Array.eq_one_of_toList hcs] at this
    simpa using this
  refine ⟨bm, es, clock, hcell, hb, fun w' hb' s hs => ?_⟩
  have zero : (zeroValue 4).run Tryd.prog w' = .ok (.bool false) w' := by kernel_rfl
  rcases fit_lookup (w := w') (string_law Tryd.underlying9) Tryd.underlying103 zero hb' F (keyOf_string_mk (s := s) Tryd.underlying9 (by unfold maxLen; omega)) with ⟨hrun, hat⟩ | ⟨v, y, hrun, hRv, hat, _⟩
  · have := hat (.lit (.bool false))
    rw [← hx.1, kw_datum, kw_atKey] at this
    rw [hrun]
    unfold isKw
    cases hc : kwL.contains s.data.toList with
    | false => rfl
    | true => rw [hc] at this; simp at this
  · obtain ⟨r, rfl, rfl⟩ := elemAt_bool Tryd.underlying4 hRv
    have := hat (.lit (.bool false))
    rw [← hx.1, kw_datum, kw_atKey] at this
    rw [hrun]
    unfold isKw
    cases hc : kwL.contains s.data.toList with
    | false => rw [hc] at this; simp at this; rw [← this]
    | true => rw [hc] at this; simp at this; rw [← this]
end Go.Proofs.YtjihphegmdfpfaaDoor
end
section
set_option linter.unusedVariables false
set_option linter.unusedSimpArgs false
namespace Go.Proofs.YtjihphegmdfpfaaDoor.fnExactEncodeStm
open Go.ChangeShapes Go.WideShapes Go.ChangeAt Go.RowKit Go.Proofs.YtjihphegmdfpfaaDoor Go.Proofs.YtjihphegmdfpfaaDoor.L Go.Proofs.YtjihphegmdfpfaaDoorW.PrintWords
open Go.ChangeMaps (open_string shut_string)
def good77 (x : S77) : Prop := x.f0.size ≤ maxLen ∧ (Lit.int .i64 x.f1).wf = true
instance : Inhabited S77 := ⟨z77⟩
theorem open77 : Opens Tryd.prog 77 k77 good77 := fun H enc W fuel cs x h => by
  obtain ⟨a, ha, hg⟩ := (opens_struct Tryd.underlying77 (by kernel_rfl) (opensF_cons _ rfl rfl (by kernel_rfl) (opens_string Tryd.underlying9) (opensF_last _ rfl rfl (by kernel_rfl) (opens_int Tryd.underlying3)))) H enc W fuel cs x h
  exact ⟨⟨a.1, a.2⟩, ha, hg⟩
def good79 (x : S79) : Prop := (Lit.int .i64 x.f0).wf = true ∧ (Lit.int .i64 x.f1).wf = true ∧ x.f2.size ≤ maxLen
instance : Inhabited S79 := ⟨z79⟩
theorem open79 : Opens Tryd.prog 79 k79 good79 := fun H enc W fuel cs x h => by
  obtain ⟨a, ha, hg⟩ := (opens_struct Tryd.underlying79 (by kernel_rfl) (opensF_cons _ rfl rfl (by kernel_rfl) (opens_int Tryd.underlying3) (opensF_cons _ rfl rfl (by kernel_rfl) (opens_int Tryd.underlying3) (opensF_last _ rfl rfl (by kernel_rfl) (opens_string Tryd.underlying9))))) H enc W fuel cs x h
  exact ⟨⟨a.1, a.2.1, a.2.2⟩, ha, hg⟩
def good82 (x : S82) : Prop := (Lit.int .i64 x.f0).wf = true ∧ (Lit.int .i64 x.f1).wf = true ∧ x.f2.size ≤ maxLen
instance : Inhabited S82 := ⟨z82⟩
theorem open82 : Opens Tryd.prog 82 k82 good82 := fun H enc W fuel cs x h => by
  obtain ⟨a, ha, hg⟩ := (opens_struct Tryd.underlying82 (by kernel_rfl) (opensF_cons _ rfl rfl (by kernel_rfl) (opens_int Tryd.underlying3) (opensF_cons _ rfl rfl (by kernel_rfl) (opens_int Tryd.underlying3) (opensF_last _ rfl rfl (by kernel_rfl) (opens_string Tryd.underlying9))))) H enc W fuel cs x h
  exact ⟨⟨a.1, a.2.1, a.2.2⟩, ha, hg⟩
/-- THE ONE PURE STATEMENT of the law: no memory, no Go. -/
def Pure0 : Prop := ∀ (a0_0 : Int) (a0_1 : ByteArray) (l0_2 : List (S77)) (l0_3 : List (S79)) (a0_4 : ByteArray) (l0_5 : List (S82)) (l0_6 : List (S82)) (l0_7 : List (List (S82))), (Lit.int .i64 a0_0).wf = true → a0_1.size ≤ maxLen → l0_2.length ≤ maxLen → (∀ y ∈ l0_2, good77 y) → l0_3.length ≤ maxLen → (∀ y ∈ l0_3, good79 y) → a0_4.size ≤ maxLen → l0_5.length ≤ maxLen → (∀ y ∈ l0_5, good82 y) → l0_6.length ≤ maxLen → (∀ y ∈ l0_6, good82 y) → l0_7.length ≤ maxLen → (∀ y ∈ l0_7, (∀ z ∈ y, good82 z)) → (∀ y ∈ l0_7, y.length ≤ maxLen) → ∃ k, laws_FnExactEncodeStm.f k a0_0 a0_1 l0_2 l0_3 a0_4 l0_5 l0_6 l0_7 = some true
theorem own : ownKnob Tryd.prog.godebug = none := by kernel_rfl
theorem laidOut : laidOutB Tryd.prog = true := by kernel_rfl
/-- The door's own heap meets the condition. -/
theorem door_met (os : Os) (args : Array Value) : laidMetH Tryd.prog Rows.fnExactEncodeStmRow.laid ((World.doorLaid Tryd.prog 99 os).forCall (fun _ _ => 0) ⟨#[], args, []⟩).memory :=
  laidMetH_of_parts3 (fuel := 8) (laidMet_of_run' 8 (by kernel_rfl) (by kernel_rfl)) (by kernel_rfl) (by kernel_rfl)
set_option maxRecDepth 100000 in
theorem lifted (Q : Pure0) (os : Os) (started : os.Started) (H : Type) (enc : TypeId × Value → H) :
    ReturnsInHanded {} Tryd.checked os 3 .any (fun w args => (Rows.fnExactEncodeStmSpec.pre enc Tryd.prog Tryd.f3 [] false w args ∧ laidMetH Tryd.prog Rows.fnExactEncodeStmRow.laid w) ∧ sizedMet enc Tryd.prog Tryd.f3 (OpenSpec.ofChange Rows.fnExactEncodeStmSpec) false w args) (Rows.fnExactEncodeStmSpec.post enc Tryd.prog Tryd.f3 false true false false) := by
  refine returnsInHanded_of_change_and (C := Tryd.checked) (X := fun w _ => laidMetH Tryd.prog Rows.fnExactEncodeStmRow.laid w) (fun _ _ _ hh h => h.of_heap hh) own started (by kernel_rfl) Tryd.func3
    (ChangeSpec.witness_shaped (enc := enc) (C := Tryd.checked) (os := os) (X := fun w _ => laidMetH Tryd.prog Rows.fnExactEncodeStmRow.laid w) false (World.doorLaid Tryd.prog 99 os) #[.agg #[.int .i64 0, .string ByteArray.empty, .slice none 0 0, .slice none 0 0, .string ByteArray.empty, .slice none 0 0, .slice none 0 0, .slice none 0 0]] 8 rfl (World.shaped_of_RefB (by kernel_rfl) (by kernel_rfl)) (by kernel_rfl) (by kernel_rfl) (by kernel_rfl) (door_met os _)) ?_
  intro W base args ds gs before hval0 hW _ _ hL _
  have hval : ∀ (j : Nat) t v, Tryd.f3.params[j]? = some t → args[j]? = some v → Value.okWide Tryd.prog W .any base t v := hval0
  have hW' := hW
  obtain ⟨p, q, hA0, hV, rfl, hfz, hnd⟩ := hW
  have hA : DataW.TrodAll enc Tryd.prog W 0 (fun _ => true) true Tryd.f3.params.toList args.toList ds p := hA0
  rw [Tryd.params3] at hA hval
  obtain ⟨v0, vs0, d0, ds0, p0, q0, hargs, rfl, rfl, h0, r0⟩ := trodAll_cons hA
  obtain ⟨rfl, rfl, rfl⟩ := trodAll_nil r0
  obtain rfl : args = #[v0] := by cases args; simp_all
  have hV' := hV
  obtain ⟨g_, t_, cs_, fuel_, dg1, p_, rfl, _⟩ := trodVars_one hV'
  have hG := gok_of_laid hL
  have k0 := h0
  have lt0 : ∀ x ∈ p0, x.block < W.heap.size := by obtain ⟨m, hm⟩ := k0; exact DataW.trod_lt m _ _ _ hm
  obtain ⟨cs0, rfl, hsz0⟩ := okWide_struct Tryd.underlying27 (hval 0 27 v0 rfl rfl)
  obtain ⟨fuel0, hf0⟩ := h0
  obtain ⟨x0, hK0, hg0⟩ := (opens_struct Tryd.underlying27 (by kernel_rfl) (opensF_cons _ rfl rfl (by kernel_rfl) (opens_int Tryd.underlying3) (opensF_cons _ rfl rfl (by kernel_rfl) (opens_string Tryd.underlying9) (opensF_cons _ rfl rfl (by kernel_rfl) (opens_slice Tryd.underlying22 (by kernel_rfl) open77) (opensF_cons _ rfl rfl (by kernel_rfl) (opens_slice Tryd.underlying23 (by kernel_rfl) open79) (opensF_cons _ rfl rfl (by kernel_rfl) (opens_string Tryd.underlying9) (opensF_cons _ rfl rfl (by kernel_rfl) (opens_slice Tryd.underlying24 (by kernel_rfl) open82) (opensF_cons _ rfl rfl (by kernel_rfl) (opens_slice Tryd.underlying24 (by kernel_rfl) open82) (opensF_last _ rfl rfl (by kernel_rfl) (opens_slice Tryd.underlying25 (by kernel_rfl) (opens_slice Tryd.underlying24 (by kernel_rfl) open82))))))))))) H enc W fuel0 cs0.toList _ (by simpa [Value.cells] using hf0)
  obtain ⟨e7_, f7_, hcs0, rfl, ⟨e6_, f6_, rfl, rfl, ⟨e5_, f5_, rfl, ⟨A0_2, c0_2, rfl, hc0_2, hr0_2⟩, ⟨e4_, f4_, rfl, ⟨A0_3, c0_3, rfl, hc0_3, hr0_3⟩, ⟨e3_, f3_, rfl, rfl, ⟨e2_, f2_, rfl, ⟨A0_5, c0_5, rfl, hc0_5, hr0_5⟩, ⟨e1_, f1_, rfl, ⟨A0_6, c0_6, rfl, hc0_6, hr0_6⟩, ⟨A0_7, c0_7, rfl, hc0_7, hr0_7⟩⟩⟩⟩⟩⟩⟩⟩ := hK0
  obtain rfl : cs0 = #[.int .i64 x0.1, .string x0.2.1, .slice A0_2 x0.2.2.1.length c0_2, .slice A0_3 x0.2.2.2.1.length c0_3, .string x0.2.2.2.2.1, .slice A0_5 x0.2.2.2.2.2.1.length c0_5, .slice A0_6 x0.2.2.2.2.2.2.1.length c0_6, .slice A0_7 x0.2.2.2.2.2.2.2.length c0_7] := by
    have h_ := congrArg List.toArray hcs0
    simpa using h_
  clear hcs0 hsz0
  clear hA0 hval0
  obtain ⟨k, hk⟩ := Q (x0.1) (x0.2.1) (x0.2.2.1) (x0.2.2.2.1) (x0.2.2.2.2.1) (x0.2.2.2.2.2.1) (x0.2.2.2.2.2.2.1) (x0.2.2.2.2.2.2.2) hg0.1 hg0.2.1 (len_le hr0_2) hg0.2.2.1 (len_le hr0_3) hg0.2.2.2.1 hg0.2.2.2.2.1 (len_le hr0_5) hg0.2.2.2.2.2.1 (len_le hr0_6) hg0.2.2.2.2.2.2.1 (len_le hr0_7) hg0.2.2.2.2.2.2.2 (inner_len hr0_7)
  refine (laws_FnExactEncodeStm.calls k (x0.1) (x0.2.1) A0_2 c0_2 (x0.2.2.1) A0_3 c0_3 (x0.2.2.2.1) (x0.2.2.2.2.1) A0_5 c0_5 (x0.2.2.2.2.2.1) A0_6 c0_6 (x0.2.2.2.2.2.2.1) A0_7 c0_7 (x0.2.2.2.2.2.2.2) true rfl W hG hr0_2 hc0_2 hr0_3 hc0_3 hr0_5 hc0_5 hr0_6 hc0_6 hr0_7 hc0_7 hk).mono fun e W' he => ?_
  obtain ⟨rfl, bel0⟩ := he
  have bel : Below W.heap.size W W' := bel0
  exact ⟨_, rfl, _, _, _, [], _, _, hW', trodAll_mk1 (shut_bool Tryd.underlying4 _), (trodAll_cons_mk (Below.trod laidOut (by kernel_rfl) (of_decide_eq_true (by kernel_rfl)) k0 bel lt0) trodAll_mk0), Below.trodVars laidOut bel (by kernel_rfl) hV, bel.frame _, fun h => by cases h⟩
theorem over (Q : Pure0) : Rows.fnExactEncodeStmRow.holds Tryd.pinned (OpenSpec.ofChange Rows.fnExactEncodeStmSpec) :=
  OpenClaim.holds_of_wide 3 Tryd.f3 rfl rfl rfl rfl rfl rfl rfl ⟨rfl, rfl, rfl, rfl, rfl⟩ rfl rfl rfl rfl rfl (by kernel_rfl) Tryd.func3 (by kernel_rfl)
    (of_decide_eq_true (by kernel_rfl)) (by unfold Func.isWrapper; first | (rw [if_pos (by decide +kernel)]; kernel_rfl) | (rw [if_neg (by decide +kernel)]; exact ⟨rfl, rfl⟩))
    (fun os started H enc _ => lifted Q os started H enc)
/-- The tied card. -/
theorem card (Q : Pure0) : Rows.FnExactEncodeStmCardSaid :=
  Claim7.holds_tied_plain_at .later [] [.mapped] true (true, "f56a2c1c8eb66cf458e65581aaa40e526b4d1a9770ea9c3f6fe3b7baf59b329e") false (over Q) (fun _ h => by cases h) (by kernel_rfl) (fun _ h => by cases h) fnExactEncodeStm_row_tie rfl ⟨rfl, rfl⟩ (by kernel_rfl) rfl
    (fun f fn hf hfn => by
      obtain rfl : f = 3 := Option.some.inj ((show Tryd.prog.funcNamed "loop.example/s02884/laws.FnExactEncodeStm" = some 3 by kernel_rfl).symm.trans hf) |>.symm
      obtain rfl : fn = Tryd.f3 := (Option.some.inj (Tryd.func3.symm.trans hfn)).symm
      refine ⟨by kernel_rfl, fun j t ht => ?_⟩
      rw [Tryd.params3] at ht
      have ha : (#[27] : Array TypeId).all (fun t => !Tryd.prog.wantsStandIn t) = true := by kernel_rfl
      have h1 := (Array.all_eq_true_iff_forall_mem.1 ha) t (Array.mem_of_getElem? ht)
      have h2 : Tryd.prog.wantsStandIn t = false := by simpa using h1
      exact h2)
    (by kernel_rfl)
end Go.Proofs.YtjihphegmdfpfaaDoor.fnExactEncodeStm
end
section
set_option linter.unusedVariables false
namespace Go.Proofs.YtjihphegmdfpfaaDoor.Pure
open Go Go.RowKit Go.Proofs.YtjihphegmdfpfaaDoor Go.Proofs.YtjihphegmdfpfaaDoorW.PrintWords
theorem w64 (x : Int) (h : -9223372036854775808 ≤ x ∧ x ≤ 9223372036854775807) : wrap64 x = x := by unfold wrap64; omega
theorem wsucc (i : Nat) (h : i < 9223372036854775807) : wrap64 ((i : Int) + 1) = ((i + 1 : Nat) : Int) := by unfold wrap64; omega
theorem rdS (l : List ByteArray) (i : Nat) (h : i < l.length) : rdOf ByteArray.empty l (i : Int) = l[i] := by
  simp [rdOf, List.getD, h]
end Go.Proofs.YtjihphegmdfpfaaDoor.Pure
end
section
set_option linter.unusedVariables false
set_option linter.unusedSimpArgs false
namespace Go.Proofs.YtjihphegmdfpfaaDoor.Gen
open Go Go.RowKit Go.Proofs.YtjihphegmdfpfaaDoor Go.Proofs.YtjihphegmdfpfaaDoorW.PrintWords
/-- The sum of the elements' weights. -/
def sumW {α : Type} (w : α → Nat) (l : List α) : Nat := (l.map w).sum
theorem sumW_drop {α : Type} (w : α → Nat) (l : List α) (i : Nat) (h : i < l.length) : sumW w (l.drop i) = w l[i] + sumW w (l.drop (i + 1)) := by
  rw [show l.drop i = l[i] :: l.drop (i + 1) from List.drop_eq_getElem_cons h]
  rfl
theorem mem_sumW {α : Type} (w : α → Nat) (l : List α) (x : α) (h : x ∈ l) : w x ≤ sumW w l := by
  induction l with
  | nil => cases h
  | cons y l ih =>
    have e : sumW w (y :: l) = w y + sumW w l := rfl
    rcases List.mem_cons.1 h with rfl | h
    · omega
    · have := ih h; omega
theorem sz {α : Type} (w : α → Nat) (F : Nat → List α → Int → Int → Option Int) (E : Nat → α → Int → Option Int) (l : List α) (B : Int)
    (hs : ∀ k a (i : Nat) (h : i < l.length), F (k + 1) l a (i : Int) = (E k l[i] a).bind fun t => if t < 0 then some (-1) else F k l t ((i + 1 : Nat) : Int))
    (hz : ∀ k a, F (k + 1) l a (l.length : Int) = some a)
    (hE : ∀ x ∈ l, ∀ a, 0 ≤ a → a ≤ B → Ev (fun k => E k x a) (if (w x : Int) ≤ a then a - w x else -1)) (d : Nat) :
    ∀ (i : Nat) (a : Int), i + d = l.length → 0 ≤ a → a ≤ B → Ev (fun k => F k l a (i : Int)) (if (sumW w (l.drop i) : Int) ≤ a then a - sumW w (l.drop i) else -1) := by
  induction d with
  | zero =>
    intro i a hi h0 h1
    have hd : l.drop i = [] := List.drop_eq_nil_of_le (by omega)
    obtain rfl : i = l.length := by omega
    refine Ev.step (f := fun _ => some a) (fun k => hz k a) ?_
    rw [hd]
    have e : sumW w ([] : List α) = 0 := rfl
    rw [e, if_pos (by omega)]
    simpa using Ev.now a
  | succ d ih =>
    intro i a hi h0 h1
    have hil : i < l.length := by omega
    have hsum := sumW_drop w l i hil
    refine Ev.step (fun k => hs k a i hil) ?_
    refine (hE _ (List.getElem_mem hil) a h0 h1).bind ?_
    by_cases hc : (w l[i] : Int) ≤ a
    · simp only [if_pos hc, if_neg (show ¬ (a - (w l[i] : Int) < 0) by omega)]
      have := ih (i + 1) (a - (w l[i] : Int)) (by omega) (by omega) (by omega)
      have e1 : ((sumW w (l.drop (i + 1)) : Int) ≤ a - (w l[i] : Int)) ↔ ((sumW w (l.drop i) : Int) ≤ a) := by rw [hsum]; omega
      have e2 : a - (w l[i] : Int) - (sumW w (l.drop (i + 1)) : Int) = a - (sumW w (l.drop i) : Int) := by rw [hsum]; omega
      rw [e2] at this
      simpa only [e1] using this
    · simp only [if_neg hc, if_pos (show (-1 : Int) < 0 by decide)]
      rw [if_neg (by rw [hsum]; omega)]
      exact Ev.now _
theorem copy {α β : Type} (cv : α → β) (F : Nat → List α → List β → Int → Option (List β)) (E : Nat → α → Option β) (l : List α)
    (hs : ∀ k o (i : Nat) (h : i < l.length), o.length = l.length → F (k + 1) l o (i : Int) = (E k l[i]).bind fun t => F k l (o.set i t) ((i + 1 : Nat) : Int))
    (hz : ∀ k o, F (k + 1) l o (l.length : Int) = some o)
    (hE : ∀ x ∈ l, Ev (fun k => E k x) (cv x)) (d : Nat) :
    ∀ (i : Nat) (o : List β), i + d = l.length → o.length = l.length → (∀ j, j < i → o[j]? = (l.map cv)[j]?) → Ev (fun k => F k l o (i : Int)) (l.map cv) := by
  induction d with
  | zero =>
    intro i o hi ho hx
    have e : o = l.map cv := by
      apply List.ext_getElem?
      intro j
      by_cases hj : j < i
      · exact hx j hj
      · rw [List.getElem?_eq_none (by omega), List.getElem?_eq_none (by rw [List.length_map]; omega)]
    obtain rfl : i = l.length := by omega
    rw [← e]
    exact Ev.step (f := fun _ => some o) (fun k => hz k o) (Ev.now _)
  | succ d ih =>
    intro i o hi ho hx
    have hil : i < l.length := by omega
    refine Ev.step (fun k => hs k o i hil ho) ?_
    refine (hE _ (List.getElem_mem hil)).bind ?_
    refine ih (i + 1) (o.set i (cv l[i])) (by omega) (by rw [List.length_set]; exact ho) (fun j hj => ?_)
    rw [List.getElem?_set]
    by_cases h : i = j
    · subst h; simp [hil, ho]
    · rw [if_neg h]; exact hx j (by omega)
theorem eq {α : Type} (F : Nat → List α → List α → Int → Option Bool) (E : Nat → α → Option Bool) (l : List α)
    (hs : ∀ k (i : Nat) (h : i < l.length), F (k + 1) l l (i : Int) = (E k l[i]).bind fun t => if t = true then F k l l ((i + 1 : Nat) : Int) else some false)
    (hz : ∀ k, F (k + 1) l l (l.length : Int) = some true)
    (hE : ∀ x ∈ l, Ev (fun k => E k x) true) (d : Nat) : ∀ (i : Nat), i + d = l.length → Ev (fun k => F k l l (i : Int)) true := by
  induction d with
  | zero =>
    intro i hi
    obtain rfl : i = l.length := by omega
    exact Ev.step (f := fun _ => some true) (fun k => hz k) (Ev.now _)
  | succ d ih =>
    intro i hi
    have hil : i < l.length := by omega
    refine Ev.step (fun k => hs k i hil) ?_
    refine (hE _ (List.getElem_mem hil)).bind ?_
    simp only [if_true]
    exact ih (i + 1) (by omega)
theorem every {α : Type} (p : α → Bool) (r : Bool) (F : Nat → Int → Option Bool) (E : Nat → α → Option Bool) (l : List α)
    (hs : ∀ k (i : Nat) (h : i < l.length), F (k + 1) (i : Int) = (E k l[i]).bind fun t => if t = true then F k ((i + 1 : Nat) : Int) else some false)
    (hz : Ev (fun k => F k (l.length : Int)) r)
    (hE : ∀ x ∈ l, Ev (fun k => E k x) (p x)) (d : Nat) : ∀ (i : Nat), i + d = l.length → Ev (fun k => F k (i : Int)) ((l.drop i).all p && r) := by
  induction d with
  | zero =>
    intro i hi
    have hd : l.drop i = [] := List.drop_eq_nil_of_le (by omega)
    obtain rfl : i = l.length := by omega
    rw [hd]
    exact hz
  | succ d ih =>
    intro i hi
    have hil : i < l.length := by omega
    have hd : l.drop i = l[i] :: l.drop (i + 1) := List.drop_eq_getElem_cons hil
    refine Ev.step (fun k => hs k i hil) ?_
    refine (hE _ (List.getElem_mem hil)).bind ?_
    rw [hd, List.all_cons]
    cases hp : p l[i] with
    | false => simp only [Bool.false_and, if_neg (show ¬ (false = true) by decide)]; exact Ev.now _
    | true => simp only [if_true, Bool.true_and]; exact ih (i + 1) (by omega)
end Go.Proofs.YtjihphegmdfpfaaDoor.Gen
end
section
set_option linter.unusedVariables false
set_option linter.unusedSimpArgs false
namespace Go.Proofs.YtjihphegmdfpfaaDoor.Pure
open Go Go.RowKit Go.Proofs.YtjihphegmdfpfaaDoor Go.Proofs.YtjihphegmdfpfaaDoor.L Go.Proofs.YtjihphegmdfpfaaDoorW.PrintWords Go.Proofs.YtjihphegmdfpfaaDoorW.PrintMore Go.Proofs.YtjihphegmdfpfaaDoorW.PrintLast
abbrev LCol := S77
abbrev LVal := S79
abbrev LItm := S82
abbrev Col := S51
abbrev Val := S53
abbrev Itm := S88
def cvC (x : LCol) : Col := ⟨x.f0, x.f1⟩
def cvV (x : LVal) : Val := ⟨x.f0, x.f1, x.f2⟩
def cvI (x : LItm) : Itm := ⟨x.f0, x.f1, x.f2⟩
def wC (x : LCol) : Nat := x.f0.size
def wV (x : LVal) : Nat := x.f2.size
def wI (x : LItm) : Nat := x.f2.size
def wtL {α : Type} (w : α → Nat) (l : List α) : Nat := l.length + Gen.sumW w l
theorem rdLC (l : List LCol) (i : Nat) (h : i < l.length) : rd_T77 l (i : Int) = l[i] := by simp [rd_T77, h]
theorem rdLV (l : List LVal) (i : Nat) (h : i < l.length) : rd_T79 l (i : Int) = l[i] := by simp [rd_T79, h]
theorem rdLI (l : List LItm) (i : Nat) (h : i < l.length) : rd_T82 l (i : Int) = l[i] := by simp [rd_T82, h]
theorem rdCol (l : List Col) (i : Nat) (h : i < l.length) : rd_T51 l (i : Int) = l[i] := by simp [rd_T51, h]
theorem rdVal (l : List Val) (i : Nat) (h : i < l.length) : rd_T53 l (i : Int) = l[i] := by simp [rd_T53, h]
theorem rdItm (l : List Itm) (i : Nat) (h : i < l.length) : rd_T88 l (i : Int) = l[i] := by simp [rd_T88, h]
theorem rdLII (l : List (List LItm)) (i : Nat) (h : i < l.length) : rd_L5 l (i : Int) = l[i] := by simp [rd_L5, h]
theorem rdII (l : List (List Itm)) (i : Nat) (h : i < l.length) : rd_L9 l (i : Int) = l[i] := by simp [rd_L9, h]
theorem szf {α : Type} (w : α → Nat) (F : Nat → List α → Int → Int → Option Int) (G : Nat → Option Int) (l : List α) (a : Int) (hl : l.length ≤ 9223372036854775807) (h0 : 0 ≤ a) (h1 : a ≤ 1048576)
    (hG : ∀ k, G k = if (wrap64 (a - (l.length : Int))) < 0 then some (-1) else F k l (wrap64 (a - (l.length : Int))) 0)
    (h : ∀ b, 0 ≤ b → b ≤ 1048576 → Ev (fun k => F k l b ((0 : Nat) : Int)) (if (Gen.sumW w (l.drop 0) : Int) ≤ b then b - Gen.sumW w (l.drop 0) else -1)) :
    Ev G (if (wtL w l : Int) ≤ a then a - wtL w l else -1) := by
  refine Ev.congr hG ?_
  simp only [w64 (a - (l.length : Int)) (by omega)]
  by_cases hc : a - (l.length : Int) < 0
  · simp only [if_pos hc]
    rw [if_neg (by unfold wtL; omega)]
    exact Ev.now _
  · simp only [if_neg hc]
    have h := h (a - (l.length : Int)) (by omega) (by omega)
    simp only [List.drop_zero] at h
    have e1 : ((Gen.sumW w l : Int) ≤ a - (l.length : Int)) ↔ ((wtL w l : Int) ≤ a) := by unfold wtL; omega
    have e2 : a - (l.length : Int) - (Gen.sumW w l : Int) = a - (wtL w l : Int) := by unfold wtL; omega
    rw [e2] at h
    simp only [e1] at h
    exact h
theorem szColumn_ev (l : List LCol) (a : Int) (hl : l.length ≤ 9223372036854775807) (hs : ∀ y ∈ l, y.f0.size ≤ 9223372036854775807) (h0 : 0 ≤ a) (h1 : a ≤ 1048576) :
    Ev (fun k => laws_szColumnS.f k l a) (if (wtL wC l : Int) ≤ a then a - wtL wC l else -1) := by
  refine szf wC (fun k l a i => laws_szColumnS.l0 k l a i) _ l a (by omega) h0 h1 (fun k => rfl) (fun b hb0 hb1 => ?_)
  refine Gen.sz wC (fun k l a i => laws_szColumnS.l0 k l a i) (fun k x a => laws_szColumn.f x.f0 x.f1 a) l 1048576 (fun k a i h => ?_) (fun k a => ?_) (fun x hx a h0 h1 => ?_) l.length 0 b (by omega) hb0 hb1
  · rw [laws_szColumnS.l0, if_pos (by omega), if_pos (by omega), rdLC l i h, wsucc i (by omega)]
  · rw [laws_szColumnS.l0, if_neg (by omega)]
  · have := hs x hx
    unfold laws_szColumn.f
    rw [w64 (a - (x.f0.size : Int)) (by omega)]
    by_cases hc : a - (x.f0.size : Int) < 0
    · rw [if_pos hc, if_neg (show ¬ ((wC x : Nat) : Int) ≤ a by unfold wC; omega)]; exact Ev.now _
    · rw [if_neg hc, if_pos (show ((wC x : Nat) : Int) ≤ a by unfold wC; omega)]; exact Ev.now _
theorem toColumn_ev (l : List LCol) (hl : l.length ≤ 1048576) : Ev (fun k => laws_toColumnS.f k l) (l.map cvC) := by
  refine Ev.congr (fun k => ?_) (Gen.copy cvC (fun k l o i => laws_toColumnS.l0 k l o i) (fun k x => some (cvC x)) l (fun k o i h ho => ?_) (fun k o => ?_) (fun x hx => Ev.now _) l.length 0 (List.replicate l.length z51) (by omega) List.length_replicate (fun j hj => by omega))
  · unfold laws_toColumnS.f
    rw [if_pos (by omega), if_pos (by omega)]
    simp
  · rw [laws_toColumnS.l0, if_pos (by omega), if_pos (by omega), rdLC l i h]
    unfold laws_toColumn.f
    rw [Option.bind_some, if_pos (by omega), wsucc i (by omega)]
    rfl
  · rw [laws_toColumnS.l0, if_neg (by omega)]
theorem eqColumn_ev (l : List Col) (hl : l.length ≤ 9223372036854775807) : Ev (fun k => laws_eqColumnS.f k l l) true := by
  refine Ev.congr (fun k => ?_) (Gen.eq (fun k a b i => laws_eqColumnS.l0 k a b i) (fun k x => some true) l (fun k i h => ?_) (fun k => ?_) (fun x hx => Ev.now _) l.length 0 (by omega))
  · unfold laws_eqColumnS.f
    rw [if_pos rfl]
    rfl
  · rw [laws_eqColumnS.l0, if_pos (by omega), if_pos (by omega), if_pos (by omega), wsucc i (by omega)]
    unfold laws_eqColumn.f
    simp only [if_true]
  · rw [laws_eqColumnS.l0, if_neg (by omega)]
theorem szValue_ev (l : List LVal) (a : Int) (hl : l.length ≤ 9223372036854775807) (hs : ∀ y ∈ l, y.f2.size ≤ 9223372036854775807) (h0 : 0 ≤ a) (h1 : a ≤ 1048576) :
    Ev (fun k => laws_szValueS.f k l a) (if (wtL wV l : Int) ≤ a then a - wtL wV l else -1) := by
  refine szf wV (fun k l a i => laws_szValueS.l0 k l a i) _ l a (by omega) h0 h1 (fun k => rfl) (fun b hb0 hb1 => ?_)
  refine Gen.sz wV (fun k l a i => laws_szValueS.l0 k l a i) (fun k x a => laws_szValue.f x.f0 x.f1 x.f2 a) l 1048576 (fun k a i h => ?_) (fun k a => ?_) (fun x hx a h0 h1 => ?_) l.length 0 b (by omega) hb0 hb1
  · rw [laws_szValueS.l0, if_pos (by omega), if_pos (by omega), rdLV l i h, wsucc i (by omega)]
  · rw [laws_szValueS.l0, if_neg (by omega)]
  · have := hs x hx
    unfold laws_szValue.f
    rw [w64 (a - (x.f2.size : Int)) (by omega)]
    by_cases hc : a - (x.f2.size : Int) < 0
    · rw [if_pos hc, if_neg (show ¬ ((wV x : Nat) : Int) ≤ a by unfold wV; omega)]; exact Ev.now _
    · rw [if_neg hc, if_pos (show ((wV x : Nat) : Int) ≤ a by unfold wV; omega)]; exact Ev.now _
theorem toValue_ev (l : List LVal) (hl : l.length ≤ 1048576) : Ev (fun k => laws_toValueS.f k l) (l.map cvV) := by
  refine Ev.congr (fun k => ?_) (Gen.copy cvV (fun k l o i => laws_toValueS.l0 k l o i) (fun k x => some (cvV x)) l (fun k o i h ho => ?_) (fun k o => ?_) (fun x hx => Ev.now _) l.length 0 (List.replicate l.length z53) (by omega) List.length_replicate (fun j hj => by omega))
  · unfold laws_toValueS.f
    rw [if_pos (by omega), if_pos (by omega)]
    simp
  · rw [laws_toValueS.l0, if_pos (by omega), if_pos (by omega), rdLV l i h]
    unfold laws_toValue.f
    rw [Option.bind_some, if_pos (by omega), wsucc i (by omega)]
    rfl
  · rw [laws_toValueS.l0, if_neg (by omega)]
theorem eqValue_ev (l : List Val) (hl : l.length ≤ 9223372036854775807) : Ev (fun k => laws_eqValueS.f k l l) true := by
  refine Ev.congr (fun k => ?_) (Gen.eq (fun k a b i => laws_eqValueS.l0 k a b i) (fun k x => some true) l (fun k i h => ?_) (fun k => ?_) (fun x hx => Ev.now _) l.length 0 (by omega))
  · unfold laws_eqValueS.f
    rw [if_pos rfl]
    rfl
  · rw [laws_eqValueS.l0, if_pos (by omega), if_pos (by omega), if_pos (by omega), wsucc i (by omega)]
    unfold laws_eqValue.f
    simp only [if_true]
  · rw [laws_eqValueS.l0, if_neg (by omega)]
theorem szItem_ev (l : List LItm) (a : Int) (hl : l.length ≤ 9223372036854775807) (hs : ∀ y ∈ l, y.f2.size ≤ 9223372036854775807) (h0 : 0 ≤ a) (h1 : a ≤ 1048576) :
    Ev (fun k => laws_szItemS.f k l a) (if (wtL wI l : Int) ≤ a then a - wtL wI l else -1) := by
  refine szf wI (fun k l a i => laws_szItemS.l0 k l a i) _ l a (by omega) h0 h1 (fun k => rfl) (fun b hb0 hb1 => ?_)
  refine Gen.sz wI (fun k l a i => laws_szItemS.l0 k l a i) (fun k x a => laws_szItem.f x.f0 x.f1 x.f2 a) l 1048576 (fun k a i h => ?_) (fun k a => ?_) (fun x hx a h0 h1 => ?_) l.length 0 b (by omega) hb0 hb1
  · rw [laws_szItemS.l0, if_pos (by omega), if_pos (by omega), rdLI l i h, wsucc i (by omega)]
  · rw [laws_szItemS.l0, if_neg (by omega)]
  · have := hs x hx
    unfold laws_szItem.f
    rw [w64 (a - (x.f2.size : Int)) (by omega)]
    by_cases hc : a - (x.f2.size : Int) < 0
    · rw [if_pos hc, if_neg (show ¬ ((wI x : Nat) : Int) ≤ a by unfold wI; omega)]; exact Ev.now _
    · rw [if_neg hc, if_pos (show ((wI x : Nat) : Int) ≤ a by unfold wI; omega)]; exact Ev.now _
theorem toItem_ev (l : List LItm) (hl : l.length ≤ 1048576) : Ev (fun k => laws_toItemS.f k l) (l.map cvI) := by
  refine Ev.congr (fun k => ?_) (Gen.copy cvI (fun k l o i => laws_toItemS.l0 k l o i) (fun k x => some (cvI x)) l (fun k o i h ho => ?_) (fun k o => ?_) (fun x hx => Ev.now _) l.length 0 (List.replicate l.length z88) (by omega) List.length_replicate (fun j hj => by omega))
  · unfold laws_toItemS.f
    rw [if_pos (by omega), if_pos (by omega)]
    simp
  · rw [laws_toItemS.l0, if_pos (by omega), if_pos (by omega), rdLI l i h]
    unfold laws_toItem.f
    rw [Option.bind_some, if_pos (by omega), wsucc i (by omega)]
    rfl
  · rw [laws_toItemS.l0, if_neg (by omega)]
theorem eqItem_ev (l : List Itm) (hl : l.length ≤ 9223372036854775807) : Ev (fun k => laws_eqItemS.f k l l) true := by
  refine Ev.congr (fun k => ?_) (Gen.eq (fun k a b i => laws_eqItemS.l0 k a b i) (fun k x => some true) l (fun k i h => ?_) (fun k => ?_) (fun x hx => Ev.now _) l.length 0 (by omega))
  · unfold laws_eqItemS.f
    rw [if_pos rfl]
    rfl
  · rw [laws_eqItemS.l0, if_pos (by omega), if_pos (by omega), if_pos (by omega), wsucc i (by omega)]
    unfold laws_eqItem.f
    simp only [if_true]
  · rw [laws_eqItemS.l0, if_neg (by omega)]
def wII (l : List LItm) : Nat := wtL wI l
def cvII (l : List LItm) : List Itm := l.map cvI
theorem szItemSS_ev (l : List (List LItm)) (a : Int) (hl : l.length ≤ 9223372036854775807) (hs : ∀ y ∈ l, y.length ≤ 9223372036854775807 ∧ ∀ z ∈ y, z.f2.size ≤ 9223372036854775807) (h0 : 0 ≤ a) (h1 : a ≤ 1048576) :
    Ev (fun k => laws_szItemSS.f k l a) (if (wtL wII l : Int) ≤ a then a - wtL wII l else -1) := by
  refine szf wII (fun k l a i => laws_szItemSS.l0 k l a i) _ l a (by omega) h0 h1 (fun k => rfl) (fun b hb0 hb1 => ?_)
  refine Gen.sz wII (fun k l a i => laws_szItemSS.l0 k l a i) (fun k x a => laws_szItemS.f k x a) l 1048576 (fun k a i h => ?_) (fun k a => ?_) (fun x hx a h0 h1 => ?_) l.length 0 b (by omega) hb0 hb1
  · rw [laws_szItemSS.l0, if_pos (by omega), if_pos (by omega), rdLII l i h, wsucc i (by omega)]
  · rw [laws_szItemSS.l0, if_neg (by omega)]
  · exact szItem_ev x a (hs x hx).1 (hs x hx).2 h0 h1
theorem toItemSS_ev (l : List (List LItm)) (hl : l.length ≤ 1048576) (hs : ∀ y ∈ l, y.length ≤ 1048576) : Ev (fun k => laws_toItemSS.f k l) (l.map cvII) := by
  refine Ev.congr (fun k => ?_) (Gen.copy cvII (fun k l o i => laws_toItemSS.l0 k l o i) (fun k x => laws_toItemS.f k x) l (fun k o i h ho => ?_) (fun k o => ?_) (fun x hx => toItem_ev x (hs x hx)) l.length 0 (List.replicate l.length []) (by omega) List.length_replicate (fun j hj => by omega))
  · unfold laws_toItemSS.f
    rw [if_pos (by omega), if_pos (by omega)]
    simp
  · rw [laws_toItemSS.l0, if_pos (by omega), if_pos (by omega), rdLII l i h]
    simp only [if_pos (show (i : Int) < (o.length : Int) by omega), wsucc i (show i < 9223372036854775807 by omega), Int.toNat_natCast]
  · rw [laws_toItemSS.l0, if_neg (by omega)]
theorem eqItemSS_ev (l : List (List Itm)) (hl : l.length ≤ 9223372036854775807) (hs : ∀ y ∈ l, y.length ≤ 9223372036854775807) : Ev (fun k => laws_eqItemSS.f k l l) true := by
  refine Ev.congr (fun k => ?_) (Gen.eq (fun k a b i => laws_eqItemSS.l0 k a b i) (fun k x => laws_eqItemS.f k x x) l (fun k i h => ?_) (fun k => ?_) (fun x hx => eqItem_ev x (hs x hx)) l.length 0 (by omega))
  · unfold laws_eqItemSS.f
    rw [if_pos rfl]
    rfl
  · rw [laws_eqItemSS.l0, if_pos (by omega), if_pos (by omega), if_pos (by omega), rdII l i h, wsucc i (by omega)]
  · rw [laws_eqItemSS.l0, if_neg (by omega)]
/-- What a statement weighs. -/
def wtStm (table : ByteArray) (cols : List LCol) (vals : List LVal) (col : ByteArray) (exp wh : List LItm) (outs : List (List LItm)) : Nat :=
  table.size + wtL wC cols + wtL wV vals + col.size + wtL wI exp + wtL wI wh + wtL wII outs
/-- What is asked of the lengths that came in. -/
def StmIn (table : ByteArray) (cols : List LCol) (vals : List LVal) (col : ByteArray) (exp wh : List LItm) (outs : List (List LItm)) : Prop :=
  table.size ≤ 9223372036854775807 ∧ (cols.length ≤ 9223372036854775807 ∧ ∀ y ∈ cols, y.f0.size ≤ 9223372036854775807) ∧ (vals.length ≤ 9223372036854775807 ∧ ∀ y ∈ vals, y.f2.size ≤ 9223372036854775807) ∧ col.size ≤ 9223372036854775807 ∧
    (exp.length ≤ 9223372036854775807 ∧ ∀ y ∈ exp, y.f2.size ≤ 9223372036854775807) ∧ (wh.length ≤ 9223372036854775807 ∧ ∀ y ∈ wh, y.f2.size ≤ 9223372036854775807) ∧ (outs.length ≤ 9223372036854775807 ∧ ∀ y ∈ outs, y.length ≤ 9223372036854775807 ∧ ∀ z ∈ y, z.f2.size ≤ 9223372036854775807)
theorem szStm_ev (kind : Int) (table : ByteArray) (cols : List LCol) (vals : List LVal) (col : ByteArray) (exp wh : List LItm) (outs : List (List LItm)) (m : Int) (h : StmIn table cols vals col exp wh outs) (h0 : 0 ≤ m) (h1 : m ≤ 1048576) :
    Ev (fun k => laws_szStm.f k kind table cols vals col exp wh outs m) (if (wtStm table cols vals col exp wh outs : Int) ≤ m then m - wtStm table cols vals col exp wh outs else -1) := by
  obtain ⟨g1, ⟨g2, g2s⟩, ⟨g3, g3s⟩, g4, ⟨g5, g5s⟩, ⟨g6, g6s⟩, ⟨g7, g7s⟩⟩ := h
  have bad : ¬ ((wtStm table cols vals col exp wh outs : Int) ≤ m) → Ev (fun _ => some (-1 : Int)) (if (wtStm table cols vals col exp wh outs : Int) ≤ m then m - wtStm table cols vals col exp wh outs else -1) := fun hb => by
    rw [if_neg hb]; exact Ev.now _
  unfold laws_szStm.f
  have n1 : (-1 : Int) < 0 := by decide
  have w1 : wrap64 (m - (table.size : Int)) = m - (table.size : Int) := w64 _ (by omega)
  simp only [w1]
  by_cases c1 : m - (table.size : Int) < 0
  · simp only [if_pos c1]; exact bad (by unfold wtStm; omega)
  simp only [if_neg c1]
  refine (szColumn_ev cols (m - (table.size : Int)) g2 g2s (by omega) (by omega)).bind ?_
  by_cases c2 : (wtL wC cols : Int) ≤ m - (table.size : Int)
  case neg => simp only [if_neg c2, if_pos n1]; exact bad (by unfold wtStm; omega)
  obtain ⟨m2, hm2⟩ : ∃ m2, m - (table.size : Int) - (wtL wC cols : Int) = m2 := ⟨_, rfl⟩
  simp only [if_pos c2, hm2, if_neg (show ¬ m2 < 0 by omega)]
  refine (szValue_ev vals m2 g3 g3s (by omega) (by omega)).bind ?_
  by_cases c3 : (wtL wV vals : Int) ≤ m2
  case neg => simp only [if_neg c3, if_pos n1]; exact bad (by unfold wtStm; omega)
  obtain ⟨m3, hm3⟩ : ∃ m3, m2 - (wtL wV vals : Int) = m3 := ⟨_, rfl⟩
  have w4 : wrap64 (m3 - (col.size : Int)) = m3 - (col.size : Int) := w64 _ (by omega)
  simp only [if_pos c3, hm3, if_neg (show ¬ m3 < 0 by omega), w4]
  by_cases c4 : m3 - (col.size : Int) < 0
  · simp only [if_pos c4]; exact bad (by unfold wtStm; omega)
  simp only [if_neg c4]
  refine (szItem_ev exp (m3 - (col.size : Int)) g5 g5s (by omega) (by omega)).bind ?_
  by_cases c5 : (wtL wI exp : Int) ≤ m3 - (col.size : Int)
  case neg => simp only [if_neg c5, if_pos n1]; exact bad (by unfold wtStm; omega)
  obtain ⟨m5, hm5⟩ : ∃ m5, m3 - (col.size : Int) - (wtL wI exp : Int) = m5 := ⟨_, rfl⟩
  simp only [if_pos c5, hm5, if_neg (show ¬ m5 < 0 by omega)]
  refine (szItem_ev wh m5 g6 g6s (by omega) (by omega)).bind ?_
  by_cases c6 : (wtL wI wh : Int) ≤ m5
  case neg => simp only [if_neg c6, if_pos n1]; exact bad (by unfold wtStm; omega)
  obtain ⟨m6, hm6⟩ : ∃ m6, m5 - (wtL wI wh : Int) = m6 := ⟨_, rfl⟩
  simp only [if_pos c6, hm6, if_neg (show ¬ m6 < 0 by omega)]
  refine (szItemSS_ev outs m6 g7 g7s (by omega) (by omega)).bind ?_
  by_cases c7 : (wtL wII outs : Int) ≤ m6
  case neg => simp only [if_neg c7, if_pos n1]; exact bad (by unfold wtStm; omega)
  simp only [if_pos c7, if_neg (show ¬ (m6 - (wtL wII outs : Int) < 0) by omega)]
  rw [if_pos (show (wtStm table cols vals col exp wh outs : Int) ≤ m by unfold wtStm; omega)]
  have e : m - (wtStm table cols vals col exp wh outs : Int) = m6 - (wtL wII outs : Int) := by unfold wtStm; omega
  rw [e]
  exact Ev.now _
theorem toStm_ev (kind : Int) (table : ByteArray) (cols : List LCol) (vals : List LVal) (col : ByteArray) (exp wh : List LItm) (outs : List (List LItm)) (h : wtStm table cols vals col exp wh outs ≤ 1048576) :
    Ev (fun k => laws_toStm.f k kind table cols vals col exp wh outs) (kind, table, cols.map cvC, vals.map cvV, col, exp.map cvI, wh.map cvI, outs.map cvII) := by
  unfold wtStm wtL at h
  unfold laws_toStm.f
  refine (toColumn_ev cols (by omega)).bind ?_
  refine (toValue_ev vals (by omega)).bind ?_
  refine (toItem_ev exp (by omega)).bind ?_
  refine (toItem_ev wh (by omega)).bind ?_
  refine (toItemSS_ev outs (by omega) (fun y hy => ?_)).bind (Ev.now _)
  have := Gen.mem_sumW wII outs y hy
  have e : wII y = y.length + Gen.sumW wI y := rfl
  omega
theorem eqStm_ev (kind : Int) (table : ByteArray) (cols : List Col) (vals : List Val) (col : ByteArray) (exp wh : List Itm) (outs : List (List Itm)) (h2 : cols.length ≤ 9223372036854775807) (h3 : vals.length ≤ 9223372036854775807) (h5 : exp.length ≤ 9223372036854775807) (h6 : wh.length ≤ 9223372036854775807) (h7 : outs.length ≤ 9223372036854775807) (h7s : ∀ y ∈ outs, y.length ≤ 9223372036854775807) :
    Ev (fun k => laws_eqStm.f k kind table cols vals col exp wh outs kind table cols vals col exp wh outs) true := by
  unfold laws_eqStm.f
  simp only [if_true]
  refine (eqColumn_ev cols h2).bind ?_
  simp only [if_true]
  refine (eqValue_ev vals h3).bind ?_
  simp only [if_true]
  refine (eqItem_ev exp h5).bind ?_
  simp only [if_true]
  refine (eqItem_ev wh h6).bind ?_
  simp only [if_true]
  refine (eqItemSS_ev outs h7 h7s).bind ?_
  simp only [if_true]
  exact Ev.now _
end Go.Proofs.YtjihphegmdfpfaaDoor.Pure
end
section
set_option linter.unusedVariables false
set_option linter.unusedSimpArgs false
namespace Go.Proofs.YtjihphegmdfpfaaDoor.Pure
open Go Go.RowKit Go.Proofs.YtjihphegmdfpfaaDoor Go.Proofs.YtjihphegmdfpfaaDoor.L Go.Proofs.YtjihphegmdfpfaaDoorW.PrintWords Go.Proofs.YtjihphegmdfpfaaDoorW.PrintMore Go.Proofs.YtjihphegmdfpfaaDoorW.PrintLast
theorem ff : ¬ (false = true) := by decide
theorem between_b (x lo hi : Int) : spec_l1Between.f x lo hi = some (decide (lo ≤ x ∧ x ≤ hi)) := by
  unfold spec_l1Between.f
  by_cases h0 : lo ≤ x
  · rw [if_pos h0]; simp [h0]
  · rw [if_neg h0]; simp [h0]
theorem spec_letter (c : Int) : spec_l4Letter.f c = some (decide (97 ≤ c) && decide (c ≤ 122)) := by
  unfold spec_l4Letter.f
  by_cases h1 : 97 ≤ c <;> by_cases h2 : c ≤ 122 <;> simp [h1, h2]
theorem spec_inner (c : Int) : spec_l4Inner.f c = some (wordByte c) := by
  unfold spec_l4Inner.f wordByte
  rw [spec_letter]
  by_cases h1 : 97 ≤ c <;> by_cases h2 : c ≤ 122 <;> by_cases h3 : 48 ≤ c <;> by_cases h4 : c ≤ 57 <;> simp [h1, h2, h3, h4]
theorem has_l0 (s : ByteArray) (l : List ByteArray) (hl : l.length ≤ 1000) (d : Nat) : ∀ i : Nat, i + d = l.length → Ev (fun k => spec_l4Has.l0 k s l (l.length : Int) (i : Int)) ((l.drop i).any fun x => decide (x.toList = s.toList)) := by
  induction d with
  | zero =>
    intro i hi
    have hd : l.drop i = [] := List.drop_eq_nil_of_le (by omega)
    rw [hd]
    refine Ev.step (f := fun _ => some false) (fun k => ?_) (Ev.now _)
    rw [spec_l4Has.l0, if_neg (by omega)]
  | succ d ih =>
    intro i hi
    have hil : i < l.length := by omega
    have hd : l.drop i = l[i] :: l.drop (i + 1) := List.drop_eq_getElem_cons hil
    rw [hd, List.any_cons]
    by_cases h : l[i].toList = s.toList
    · refine Ev.step (f := fun _ => some true) (fun k => ?_) ?_
      · rw [spec_l4Has.l0, if_pos (by omega), if_pos (by omega), if_pos (by omega), rdS l i hil, if_pos h]
      · rw [decide_eq_true h, Bool.true_or]; exact Ev.now _
    · refine Ev.step (f := fun k => spec_l4Has.l0 k s l (l.length : Int) ((i + 1 : Nat) : Int)) (fun k => ?_) ?_
      · rw [spec_l4Has.l0, if_pos (by omega), if_pos (by omega), if_pos (by omega), rdS l i hil, if_neg h, wsucc i (by omega)]
      · rw [decide_eq_false h, Bool.false_or]; exact ih (i + 1) (by omega)
/-- The reference's keywords. -/
def kwS : List ByteArray := (spec_l4Keywords.f).getD []
theorem kwS_eq : spec_l4Keywords.f = some kwS := rfl
theorem kw_sub1 : ∀ a ∈ kwS.map (fun x => x.data.toList), a ∈ kwL := by decide
theorem kw_sub2 : ∀ a ∈ kwL, a ∈ kwS.map (fun x => x.data.toList) := by decide
theorem has_kw (s : ByteArray) : (kwS.any fun x => decide (x.toList = s.toList)) = isKw s := by
  rw [Bool.eq_iff_iff]
  unfold isKw
  rw [List.any_eq_true, List.contains_iff_mem]
  constructor
  · rintro ⟨x, hx, h⟩
    have h := of_decide_eq_true h
    rw [ByteArray.toList_eq, ByteArray.toList_eq] at h
    rw [← h]
    exact kw_sub1 _ (List.mem_map_of_mem hx)
  · intro h
    obtain ⟨x, hx, e⟩ := List.mem_map.1 (kw_sub2 _ h)
    exact ⟨x, hx, decide_eq_true (by rw [ByteArray.toList_eq, ByteArray.toList_eq]; exact e)⟩
theorem name_l0 (s : ByteArray) (hs : s.size ≤ 1000) (d : Nat) : ∀ i : Nat, i + d = s.size → Ev (fun k => spec_l4Name.l0 k s (i : Int)) (allFrom wordByte s d i) := by
  induction d with
  | zero =>
    intro i hi
    exact Ev.step (f := fun _ => some true) (fun k => by rw [spec_l4Name.l0, if_neg (by omega)]) (Ev.now _)
  | succ d ih =>
    intro i hi
    rw [allFrom]
    refine Ev.step (f := fun k => if wordByte (bt s i) = true then spec_l4Name.l0 k s ((i + 1 : Nat) : Int) else some false) (fun k => ?_) ?_
    · rw [spec_l4Name.l0, if_pos (by omega), if_pos (by omega), spec_inner, Option.bind_some, wsucc i (by omega)]
    · cases hb : wordByte (bt s i) with
      | false => simp only [if_neg ff, Bool.false_and]; exact Ev.now _
      | true => simp only [if_true, Bool.true_and]; exact ih (i + 1) (by omega)
theorem spec_nm (s : ByteArray) : Ev (fun k => spec_l4Name.f k s) (nameKw s) := by
  have hbad : Ev (fun k => spec_l4Name.j0 k s true) false := Ev.step (f := fun _ => some false) (fun k => by rw [spec_l4Name.j0, if_pos rfl]) (Ev.now _)
  unfold spec_l4Name.f nameKw
  simp only [between_b, Option.bind_some, spec_letter, kwS_eq]
  by_cases h1 : 1 ≤ s.size
  · by_cases h2 : s.size ≤ 30
    · simp only [decide_eq_true (show (1 : Int) ≤ (s.size : Int) ∧ (s.size : Int) ≤ 30 by omega), if_true, if_pos (show (0 : Int) < (s.size : Int) by omega), decide_eq_true h1, decide_eq_true h2, Bool.true_and]
      cases hL : (decide (97 ≤ bt s 0) && decide (bt s 0 ≤ 122)) with
      | false => simp only [if_neg ff, Bool.false_and]; exact hbad
      | true =>
        simp only [if_true, Bool.true_and]
        have hh := has_l0 s kwS (by decide) kwS.length 0 (by omega)
        rw [List.drop_zero, has_kw] at hh
        refine Ev.bind (Ev.congr (fun k => rfl) hh) ?_
        cases hk : isKw s with
        | true => simp only [Bool.not_true, Bool.and_false]; exact hbad
        | false =>
          simp only [Bool.not_false, Bool.and_true]
          refine Ev.step (fun k => by rw [spec_l4Name.j0, if_neg ff]) ?_
          exact name_l0 s (by omega) s.size 0 (by omega)
    · simp only [decide_eq_false (show ¬ ((1 : Int) ≤ (s.size : Int) ∧ (s.size : Int) ≤ 30) by omega), if_neg ff, decide_eq_true h1, decide_eq_false h2, Bool.true_and, Bool.false_and]
      exact hbad
  · simp only [decide_eq_false (show ¬ ((1 : Int) ≤ (s.size : Int) ∧ (s.size : Int) ≤ 30) by omega), if_neg ff, decide_eq_false h1, Bool.false_and]
    exact hbad
theorem impl_nm (s : ByteArray) (hs : s.size ≤ 9223372036854775807) : impl_isName.f s = some (nameKw s) := by rw [impl_isName.f, if_pos hs]
/-- A text. -/
def textOk (s : ByteArray) : Bool := decide (s.size ≤ 200) && allFrom textByte s s.size 0
theorem impl_txt (s : ByteArray) (hs : s.size ≤ 9223372036854775807) : impl_isText.f s = some (textOk s) := by rw [impl_isText.f, if_pos hs]; rfl
theorem text_l0 (s : ByteArray) (hs : s.size ≤ 1000) (d : Nat) : ∀ i : Nat, i + d = s.size → Ev (fun k => spec_l4Text.l0 k s (i : Int)) (allFrom textByte s d i) := by
  induction d with
  | zero =>
    intro i hi
    exact Ev.step (f := fun _ => some true) (fun k => by rw [spec_l4Text.l0, if_neg (by omega)]) (Ev.now _)
  | succ d ih =>
    intro i hi
    rw [allFrom]
    have hr := bt_range s i
    have hw : wrap64 (bt s i) = bt s i := w64 _ (by omega)
    have ht : decide (32 ≤ bt s i ∧ bt s i ≤ 126) = textByte (bt s i) := by
      unfold textByte
      by_cases h1 : 32 ≤ bt s i <;> by_cases h2 : bt s i ≤ 126 <;> simp [h1, h2]
    refine Ev.step (f := fun k => if textByte (bt s i) = true then spec_l4Text.l0 k s ((i + 1 : Nat) : Int) else some false) (fun k => ?_) ?_
    · rw [spec_l4Text.l0, if_pos (by omega), if_pos (by omega), hw, between_b, ht, Option.bind_some, wsucc i (by omega)]
    · cases hb : textByte (bt s i) with
      | false => simp only [if_neg ff, Bool.false_and]; exact Ev.now _
      | true => simp only [if_true, Bool.true_and]; exact ih (i + 1) (by omega)
theorem spec_txt (s : ByteArray) : Ev (fun k => spec_l4Text.f k s) (textOk s) := by
  unfold spec_l4Text.f textOk
  by_cases h : s.size ≤ 200
  · simp only [if_neg (show ¬ (s.size : Int) > 200 by omega), decide_eq_true h, Bool.true_and]
    exact text_l0 s (by omega) s.size 0 (by omega)
  · simp only [if_pos (show (s.size : Int) > 200 by omega), decide_eq_false h, Bool.false_and]
    exact Ev.now _
def numOk (n : Int) : Bool := n != (-9223372036854775808)
/-- A value of a statement. -/
def valOk (t n : Int) (x : ByteArray) : Bool := if t = 1 then (numOk n && (x.toList == ([] : List UInt8))) else if t = 2 then (decide (n = 0) && textOk x) else false
theorem spec_val (t n : Int) (x : ByteArray) : Ev (fun k => spec_l4Value.f k t n x) (valOk t n x) := by
  unfold spec_l4Value.f valOk spec_l4Number.f numOk
  by_cases h1 : t = 1
  · simp only [if_pos h1, Option.bind_some]
    cases (n != (-9223372036854775808)) with
    | false => simp only [if_neg ff, Bool.false_and]; exact Ev.now _
    | true => simp only [if_true, Bool.true_and]; exact Ev.now _
  · by_cases h2 : t = 2
    · by_cases h3 : n = 0
      · simp only [if_neg h1, if_pos h2, if_pos h3, decide_eq_true h3, Bool.true_and]
        exact (spec_txt x).bind (Ev.now _)
      · simp only [if_neg h1, if_pos h2, if_neg h3, decide_eq_false h3, Bool.false_and]; exact Ev.now _
    · simp only [if_neg h1, if_neg h2]; exact Ev.now _
theorem impl_val (t n : Int) (x : ByteArray) (hx : x.size ≤ 9223372036854775807) : impl_valueOK.f t n x = some (valOk t n x) := by
  unfold impl_valueOK.f valOk impl_isNumber.f numOk
  rw [impl_txt x hx]
  by_cases h1 : t = 1
  · simp only [if_pos h1, Option.bind_some]
    cases (n != (-9223372036854775808)) <;> simp
  · by_cases h2 : t = 2
    · by_cases h3 : n = 0
      · simp [h1, h2, h3]
      · simp [h1, h2, h3]
    · simp [h1, h2]
/-- An item of an expression. -/
def itmOk (op n : Int) (x : ByteArray) : Bool :=
  if op = 1 then (numOk n && (x.toList == ([] : List UInt8))) else if op = 2 then (decide (n = 0) && textOk x) else if op = 3 then (decide (n = 0) && nameKw x) else (decide (4 ≤ op ∧ op ≤ 13) && (decide (n = 0) && (x.toList == ([] : List UInt8))))
def arity (op : Int) : Int := if op ≤ 3 then 0 else if op = 11 then 1 else if op = 13 then 1 else 2
theorem spec_itm (op n : Int) (x : ByteArray) : Ev (fun k => spec_l4Item.f k op n x) (itmOk op n x) := by
  unfold spec_l4Item.f itmOk spec_l4Number.f numOk
  by_cases h1 : op = 1
  · simp only [if_pos h1, Option.bind_some]
    cases (n != (-9223372036854775808)) with
    | false => simp only [if_neg ff, Bool.false_and]; exact Ev.now _
    | true => simp only [if_true, Bool.true_and]; exact Ev.now _
  · by_cases h2 : op = 2
    · by_cases hn : n = 0
      · simp only [if_neg h1, if_pos h2, if_pos hn, decide_eq_true hn, Bool.true_and]
        exact (spec_txt x).bind (Ev.now _)
      · simp only [if_neg h1, if_pos h2, if_neg hn, decide_eq_false hn, Bool.false_and]; exact Ev.now _
    · by_cases h3 : op = 3
      · by_cases hn : n = 0
        · simp only [if_neg h1, if_neg h2, if_pos h3, if_pos hn, decide_eq_true hn, Bool.true_and]
          exact (spec_nm x).bind (Ev.now _)
        · simp only [if_neg h1, if_neg h2, if_pos h3, if_neg hn, decide_eq_false hn, Bool.false_and]; exact Ev.now _
      · simp only [if_neg h1, if_neg h2, if_neg h3, between_b, Option.bind_some]
        by_cases h4 : 4 ≤ op ∧ op ≤ 13
        · by_cases hn : n = 0
          · simp only [decide_eq_true h4, if_true, if_pos hn, decide_eq_true hn, Bool.true_and]; exact Ev.now _
          · simp only [decide_eq_true h4, if_true, if_neg hn, decide_eq_false hn, Bool.true_and, Bool.false_and]; exact Ev.now _
        · simp only [decide_eq_false h4, if_neg ff, Bool.false_and]; exact Ev.now _
theorem spec_ar (op : Int) : spec_l4Arity.f op = some (arity op) := by
  unfold spec_l4Arity.f arity
  split
  · rfl
  · split
    · rfl
    · split <;> rfl
def opnds (op : Int) : Int := if op = 1 ∨ op = 2 ∨ op = 3 then 0 else if op = 11 ∨ op = 13 then 1 else if (4 ≤ op ∧ op ≤ 10) ∨ op = 12 then 2 else -1
theorem impl_opnds (op : Int) : Ev (fun k => impl_operands.f k op) (opnds op) := by
  have e0 : ∀ k, impl_operands.f k op = impl_operands.j0 k op (decide (op = 1 ∨ op = 2 ∨ op = 3)) := fun k => by
    unfold impl_operands.f
    by_cases h1 : op = 1
    · simp [h1]
    · by_cases h2 : op = 2
      · simp [h2]
      · by_cases h3 : op = 3
        · simp [h3]
        · simp only [if_neg h1, if_neg h2, decide_eq_false (show ¬ (op = 1 ∨ op = 2 ∨ op = 3) by omega), show (op == 3) = false from beq_eq_false_iff_ne.2 h3]
  refine Ev.congr e0 ?_
  unfold opnds
  by_cases h : op = 1 ∨ op = 2 ∨ op = 3
  · rw [decide_eq_true h, if_pos h]
    exact Ev.step (f := fun _ => some 0) (fun k => by rw [impl_operands.j0, if_pos rfl]) (Ev.now _)
  · rw [decide_eq_false h, if_neg h]
    refine Ev.step (f := fun k => impl_operands.j1 k op (decide (op = 11 ∨ op = 13))) (fun k => ?_) ?_
    · rw [impl_operands.j0, if_neg ff]
      by_cases h1 : op = 11
      · simp [h1]
      · rw [if_neg h1]
        congr 1
        by_cases h2 : op = 13
        · simp [h2]
        · rw [decide_eq_false (by omega)]; exact beq_eq_false_iff_ne.2 h2
    · by_cases h2 : op = 11 ∨ op = 13
      · rw [decide_eq_true h2, if_pos h2]
        exact Ev.step (f := fun _ => some 1) (fun k => by rw [impl_operands.j1, if_pos rfl]) (Ev.now _)
      · rw [decide_eq_false h2, if_neg h2]
        refine Ev.step (f := fun _ => some (if (4 ≤ op ∧ op ≤ 10) ∨ op = 12 then 2 else -1)) (fun k => ?_) (Ev.now _)
        rw [impl_operands.j1, if_neg ff]
        by_cases q : (4 ≤ op ∧ op ≤ 10) ∨ op = 12
        · rw [if_pos q]
          have : op = 4 ∨ op = 5 ∨ op = 6 ∨ op = 7 ∨ op = 8 ∨ op = 9 ∨ op = 10 ∨ op = 12 := by omega
          rcases this with rfl | rfl | rfl | rfl | rfl | rfl | rfl | rfl <;> simp
        · rw [if_neg q, if_neg (by omega), if_neg (by omega), if_neg (by omega), if_neg (by omega), if_neg (by omega), if_neg (by omega), if_neg (by omega), if_neg (by omega)]
theorem impl_itm (op n : Int) (x : ByteArray) (hx : x.size ≤ 9223372036854775807) : Ev (fun k => impl_itemOK.f k op n x) (itmOk op n x) := by
  unfold impl_itemOK.f itmOk impl_isNumber.f numOk
  simp only [impl_txt x hx, impl_nm x hx]
  by_cases h1 : op = 1
  · simp only [if_pos h1, Option.bind_some]
    cases (n != (-9223372036854775808)) with
    | false => simp only [if_neg ff, Bool.false_and]; exact Ev.now _
    | true => simp only [if_true, Bool.true_and]; exact Ev.now _
  · by_cases h2 : op = 2
    · by_cases hn : n = 0
      · simp only [if_neg h1, if_pos h2, if_pos hn, decide_eq_true hn, Bool.true_and, Option.bind_some]; exact Ev.now _
      · simp only [if_neg h1, if_pos h2, if_neg hn, decide_eq_false hn, Bool.false_and]; exact Ev.now _
    · by_cases h3 : op = 3
      · by_cases hn : n = 0
        · simp only [if_neg h1, if_neg h2, if_pos h3, if_pos hn, decide_eq_true hn, Bool.true_and, Option.bind_some]; exact Ev.now _
        · simp only [if_neg h1, if_neg h2, if_pos h3, if_neg hn, decide_eq_false hn, Bool.false_and]; exact Ev.now _
      · simp only [if_neg h1, if_neg h2, if_neg h3]
        refine (impl_opnds op).bind ?_
        have ho : (opnds op ≥ 0) ↔ (4 ≤ op ∧ op ≤ 13) := by unfold opnds; split <;> (try split) <;> (try split) <;> omega
        by_cases h4 : 4 ≤ op ∧ op ≤ 13
        · by_cases hn : n = 0
          · simp only [if_pos (ho.2 h4), decide_eq_true h4, if_pos hn, decide_eq_true hn, Bool.true_and]; exact Ev.now _
          · simp only [if_pos (ho.2 h4), decide_eq_true h4, if_neg hn, decide_eq_false hn, Bool.true_and, Bool.false_and]; exact Ev.now _
        · simp only [if_neg (fun e => h4 (ho.1 e)), decide_eq_false h4, Bool.false_and]; exact Ev.now _
/-- An expression from its item number i on, with so many operands on the stack. -/
def expRun : List Itm → Int → Bool
  | [], d => d == 1
  | t :: r, d => itmOk t.f0 t.f1 t.f2 && (if d < arity t.f0 then false else expRun r (d + (1 - arity t.f0)))
theorem arity_range (op : Int) : 0 ≤ arity op ∧ arity op ≤ 2 := by
  unfold arity
  split
  · omega
  · split
    · omega
    · split <;> omega
theorem opnds_arity (op : Int) (h : 1 ≤ op ∧ op ≤ 13) : opnds op = arity op := by
  have : op = 1 ∨ op = 2 ∨ op = 3 ∨ op = 4 ∨ op = 5 ∨ op = 6 ∨ op = 7 ∨ op = 8 ∨ op = 9 ∨ op = 10 ∨ op = 11 ∨ op = 12 ∨ op = 13 := by omega
  rcases this with rfl | rfl | rfl | rfl | rfl | rfl | rfl | rfl | rfl | rfl | rfl | rfl | rfl <;> decide
theorem itmOk_op {op n : Int} {x : ByteArray} (h : itmOk op n x = true) : 1 ≤ op ∧ op ≤ 13 := by
  unfold itmOk at h
  by_cases h1 : op = 1
  · omega
  · by_cases h2 : op = 2
    · omega
    · by_cases h3 : op = 3
      · omega
      · rw [if_neg h1, if_neg h2, if_neg h3, Bool.and_eq_true] at h
        have := of_decide_eq_true h.1
        omega
theorem spec_exp_l0 (l : List Itm) (hl : l.length ≤ 1000) (e : Nat) : ∀ (i : Nat) (d : Int), i + e = l.length → 0 ≤ d → d ≤ i → Ev (fun k => spec_l4Exp.l0 k d l (l.length : Int) (i : Int)) (expRun (l.drop i) d) := by
  induction e with
  | zero =>
    intro i d hi h0 h1
    have hd : l.drop i = [] := List.drop_eq_nil_of_le (by omega)
    rw [hd]
    exact Ev.step (f := fun _ => some (d == 1)) (fun k => by rw [spec_l4Exp.l0, if_neg (by omega)]) (Ev.now _)
  | succ e ih =>
    intro i d hi h0 h1
    have hil : i < l.length := by omega
    have hd : l.drop i = l[i] :: l.drop (i + 1) := List.drop_eq_getElem_cons hil
    have ha := arity_range l[i].f0
    have w1 : wrap64 (1 - arity l[i].f0) = 1 - arity l[i].f0 := w64 _ (by omega)
    have w2 : wrap64 (d + (1 - arity l[i].f0)) = d + (1 - arity l[i].f0) := w64 _ (by omega)
    rw [hd, expRun]
    refine Ev.step (f := fun k => (spec_l4Item.f k l[i].f0 l[i].f1 l[i].f2).bind fun t => if t = true then (if d < arity l[i].f0 then some false else spec_l4Exp.l0 k (d + (1 - arity l[i].f0)) l (l.length : Int) ((i + 1 : Nat) : Int)) else some false) (fun k => ?_) ?_
    · rw [spec_l4Exp.l0, if_pos (by omega), if_pos (by omega), if_pos (by omega), rdItm l i hil]
      simp only [spec_ar, Option.bind_some, w1, w2, wsucc i (show i < 9223372036854775807 by omega)]
    · refine (spec_itm _ _ _).bind ?_
      cases hk : itmOk l[i].f0 l[i].f1 l[i].f2 with
      | false => simp only [if_neg ff, Bool.false_and]; exact Ev.now _
      | true =>
        simp only [if_true, Bool.true_and]
        by_cases hc : d < arity l[i].f0
        · simp only [if_pos hc]; exact Ev.now _
        · simp only [if_neg hc]; exact ih (i + 1) _ (by omega) (by omega) (by omega)
theorem impl_exp_l0 (l : List Itm) (hl : l.length ≤ 1000) (hs : ∀ y ∈ l, y.f2.size ≤ 9223372036854775807) (e : Nat) : ∀ (i : Nat) (d : Int), i + e = l.length → 0 ≤ d → d ≤ i → Ev (fun k => impl_expOK.l0 k d l (l.length : Int) (i : Int)) (expRun (l.drop i) d) := by
  induction e with
  | zero =>
    intro i d hi h0 h1
    have hd : l.drop i = [] := List.drop_eq_nil_of_le (by omega)
    rw [hd]
    exact Ev.step (f := fun _ => some (d == 1)) (fun k => by rw [impl_expOK.l0, if_neg (by omega)]) (Ev.now _)
  | succ e ih =>
    intro i d hi h0 h1
    have hil : i < l.length := by omega
    have hd : l.drop i = l[i] :: l.drop (i + 1) := List.drop_eq_getElem_cons hil
    rw [hd, expRun]
    refine Ev.step (f := fun k => (impl_operands.f k l[i].f0).bind fun u => (impl_itemOK.f k l[i].f0 l[i].f1 l[i].f2).bind fun t => if t = true then (if d < u then some false else impl_expOK.l0 k (wrap64 (d + (wrap64 (1 - u)))) l (l.length : Int) ((i + 1 : Nat) : Int)) else some false) (fun k => ?_) ?_
    · rw [impl_expOK.l0, if_pos (by omega), if_pos (by omega), if_pos (by omega), rdItm l i hil, wsucc i (by omega)]
    · refine (impl_opnds _).bind ?_
      refine (impl_itm _ _ _ (hs _ (List.getElem_mem hil))).bind ?_
      cases hk : itmOk l[i].f0 l[i].f1 l[i].f2 with
      | false => simp only [if_neg ff, Bool.false_and]; exact Ev.now _
      | true =>
        have ha := arity_range l[i].f0
        have w1 : wrap64 (1 - arity l[i].f0) = 1 - arity l[i].f0 := w64 _ (by omega)
        have w2 : wrap64 (d + (1 - arity l[i].f0)) = d + (1 - arity l[i].f0) := w64 _ (by omega)
        simp only [if_true, Bool.true_and, opnds_arity _ (itmOk_op hk), w1, w2]
        by_cases hc : d < arity l[i].f0
        · simp only [if_pos hc]; exact Ev.now _
        · simp only [if_neg hc]; exact ih (i + 1) _ (by omega) (by omega) (by omega)
/-- An expression. -/
def expOk (l : List Itm) : Bool := decide (1 ≤ l.length ∧ l.length ≤ 100) && expRun l 0
theorem spec_exp (l : List Itm) : Ev (fun k => spec_l4Exp.f k l) (expOk l) := by
  unfold spec_l4Exp.f expOk
  simp only [between_b, Option.bind_some]
  by_cases h : 1 ≤ l.length ∧ l.length ≤ 100
  · simp only [decide_eq_true (show (1 : Int) ≤ (l.length : Int) ∧ (l.length : Int) ≤ 100 by omega), if_true, decide_eq_true h, Bool.true_and]
    exact spec_exp_l0 l (by omega) l.length 0 0 (by omega) (by omega) (by omega)
  · simp only [decide_eq_false (show ¬ ((1 : Int) ≤ (l.length : Int) ∧ (l.length : Int) ≤ 100) by omega), if_neg ff, decide_eq_false h, Bool.false_and]
    exact Ev.now _
theorem impl_exp (l : List Itm) (hs : ∀ y ∈ l, y.f2.size ≤ 9223372036854775807) : Ev (fun k => impl_expOK.f k l) (expOk l) := by
  have hbad : Ev (fun k => impl_expOK.j0 k l true) false := Ev.step (f := fun _ => some false) (fun k => by rw [impl_expOK.j0, if_pos rfl]) (Ev.now _)
  unfold impl_expOK.f expOk
  by_cases h1 : 1 ≤ l.length
  · by_cases h2 : l.length ≤ 100
    · simp only [if_neg (show ¬ (l.length : Int) < 1 by omega), decide_eq_false (show ¬ (l.length : Int) > 100 by omega), decide_eq_true (And.intro h1 h2), Bool.true_and]
      refine Ev.step (fun k => by rw [impl_expOK.j0, if_neg ff]) ?_
      exact impl_exp_l0 l (by omega) hs l.length 0 0 (by omega) (by omega) (by omega)
    · simp only [if_neg (show ¬ (l.length : Int) < 1 by omega), decide_eq_true (show (l.length : Int) > 100 by omega), decide_eq_false (show ¬ (1 ≤ l.length ∧ l.length ≤ 100) by omega), Bool.false_and]
      exact hbad
  · simp only [if_pos (show (l.length : Int) < 1 by omega), decide_eq_false (show ¬ (1 ≤ l.length ∧ l.length ≤ 100) by omega), Bool.false_and]
    exact hbad
def whOk (l : List Itm) : Bool := decide (l.length = 0) || expOk l
theorem spec_wh (l : List Itm) : Ev (fun k => spec_l4Where.f k l) (whOk l) := by
  unfold spec_l4Where.f whOk
  by_cases h : l.length = 0
  · simp only [if_pos (show (l.length : Int) = 0 by omega), decide_eq_true h, Bool.true_or]; exact Ev.now _
  · simp only [if_neg (show ¬ (l.length : Int) = 0 by omega), decide_eq_false h, Bool.false_or]
    exact (spec_exp l).bind (Ev.now _)
def colOk (c : Col) : Bool := nameKw c.f0 && (decide (c.f1 = 1) || decide (c.f1 = 2))
/-- The document's StmOK. -/
def stmOk (kind : Int) (table : ByteArray) (cols : List Col) (vals : List Val) (col : ByteArray) (exp wh : List Itm) (outs : List (List Itm)) : Bool :=
  nameKw table &&
    (if kind = 1 then decide (vals.length = 0) && (decide (col.toList = ([] : List UInt8)) && (decide (exp.length = 0) && (decide (outs.length = 0) && (decide (wh.length = 0) && (decide (1 ≤ cols.length ∧ cols.length ≤ 20) && cols.all colOk)))))
     else if kind = 2 then decide (cols.length = 0) && (decide (col.toList = ([] : List UInt8)) && (decide (exp.length = 0) && (decide (outs.length = 0) && (decide (wh.length = 0) && (decide (1 ≤ vals.length ∧ vals.length ≤ 20) && vals.all fun v => valOk v.f0 v.f1 v.f2)))))
     else if kind = 3 then decide (cols.length = 0) && (decide (vals.length = 0) && (decide (outs.length = 0) && (nameKw col && (expOk exp && whOk wh))))
     else if kind = 4 then decide (cols.length = 0) && (decide (vals.length = 0) && (decide (col.toList = ([] : List UInt8)) && (decide (exp.length = 0) && (decide (outs.length = 0) && whOk wh))))
     else if kind = 5 then decide (cols.length = 0) && (decide (vals.length = 0) && (decide (col.toList = ([] : List UInt8)) && (decide (exp.length = 0) && (decide (1 ≤ outs.length ∧ outs.length ≤ 20) && (outs.all expOk && whOk wh)))))
     else false)
end Go.Proofs.YtjihphegmdfpfaaDoor.Pure
end
section
set_option linter.unusedVariables false
set_option linter.unusedSimpArgs false
namespace Go.Proofs.YtjihphegmdfpfaaDoor.Pure
open Go Go.RowKit Go.Proofs.YtjihphegmdfpfaaDoor Go.Proofs.YtjihphegmdfpfaaDoor.L Go.Proofs.YtjihphegmdfpfaaDoorW.PrintWords Go.Proofs.YtjihphegmdfpfaaDoorW.PrintMore Go.Proofs.YtjihphegmdfpfaaDoorW.PrintLast
/-- Does something stand that this kind has not? -/
def bad (kind : Int) (cols : List Col) (vals : List Val) (col : ByteArray) (exp : List Itm) (outs : List (List Itm)) : Bool :=
  (decide (¬ kind = 1) && decide (¬ cols.length = 0)) || ((decide (¬ kind = 2) && decide (¬ vals.length = 0)) || ((decide (¬ kind = 3) && (decide (¬ col.toList = ([] : List UInt8)) || decide (¬ exp.length = 0))) || (decide (¬ kind = 5) && decide (¬ outs.length = 0))))
theorem ne0 {α : Type} (l : List α) : ((l.length : Int) != 0) = decide (¬ l.length = 0) := by
  by_cases h : l.length = 0
  · simp [h]
  · rw [decide_eq_true h]; exact bne_iff_ne.2 (by omega)
theorem len0 {α : Type} (l : List α) : ((l.length : Int) = 0) ↔ l.length = 0 := by omega
theorem spec_f_eq (k : Nat) (kind : Int) (table : ByteArray) (cols : List Col) (vals : List Val) (col : ByteArray) (exp wh : List Itm) (outs : List (List Itm)) :
    spec_StmOK.f k kind table cols vals col exp wh outs = (spec_l4Name.f k table).bind fun t => if t = true then spec_StmOK.j0 k kind (bad kind cols vals col exp outs) kind table cols vals col exp wh outs else some false := by
  unfold spec_StmOK.f bad
  simp only [ne0, len0]
  congr 1
  funext t
  cases t with
  | false => simp only [if_neg ff]
  | true =>
    simp only [if_true]
    by_cases h1 : kind = 1
    · subst h1
      by_cases e2 : vals.length = 0 <;> by_cases e3 : col.toList = ([] : List UInt8) <;> by_cases e4 : exp.length = 0 <;> simp [e2, e3, e4]
    · by_cases h2 : kind = 2
      · subst h2
        by_cases e1 : cols.length = 0 <;> by_cases e3 : col.toList = ([] : List UInt8) <;> by_cases e4 : exp.length = 0 <;> simp [e1, e3, e4]
      · by_cases h3 : kind = 3
        · subst h3
          by_cases e1 : cols.length = 0 <;> by_cases e2 : vals.length = 0 <;> simp [e1, e2]
        · by_cases h5 : kind = 5
          · subst h5
            by_cases e1 : cols.length = 0 <;> by_cases e2 : vals.length = 0 <;> by_cases e3 : col.toList = ([] : List UInt8) <;> by_cases e4 : exp.length = 0 <;> simp [e1, e2, e3, e4]
          · by_cases e1 : cols.length = 0 <;> by_cases e2 : vals.length = 0 <;> by_cases e3 : col.toList = ([] : List UInt8) <;> by_cases e4 : exp.length = 0 <;> simp [h1, h2, h3, h5, e1, e2, e3, e4]
theorem spec_type (t : Int) : spec_l4Type.f t = some (decide (t = 1) || decide (t = 2)) := by
  unfold spec_l4Type.f
  by_cases h : t = 1
  · simp [h]
  · rw [if_neg h, decide_eq_false h, Bool.false_or]
    by_cases h2 : t = 2
    · simp [h2]
    · rw [decide_eq_false h2, show (t == 2) = false from beq_eq_false_iff_ne.2 h2]
theorem bind_two {β : Type} (x : Option Bool) (b : Bool) (y : Option β) (z : Option β) :
    (x.bind fun t => if t = true then ((some b : Option Bool).bind fun u => if u = true then y else z) else z) = ((x.bind fun t => some (t && b)).bind fun v => if v = true then y else z) := by
  cases x with
  | none => rfl
  | some t => cases t <;> cases b <;> rfl
section
variable (table : ByteArray) (cols : List Col) (vals : List Val) (col : ByteArray) (exp wh : List Itm) (outs : List (List Itm))
theorem j0_true (kind : Int) : Ev (fun k => spec_StmOK.j0 k kind true kind table cols vals col exp wh outs) false :=
  Ev.step (f := fun _ => some false) (fun k => by rw [spec_StmOK.j0, if_pos rfl]) (Ev.now _)
theorem j1_true (kind : Int) : Ev (fun k => spec_StmOK.j1 k kind true kind table cols vals col exp wh outs) false :=
  Ev.step (f := fun _ => some false) (fun k => by rw [spec_StmOK.j1, if_pos rfl]) (Ev.now _)
theorem j0_low (kind : Int) (h : kind < 3) {r : Bool} (hr : Ev (fun k => spec_StmOK.j1 k kind (decide (¬ wh.length = 0)) kind table cols vals col exp wh outs) r) : Ev (fun k => spec_StmOK.j0 k kind false kind table cols vals col exp wh outs) r :=
  Ev.step (fun k => by rw [spec_StmOK.j0, if_neg ff, if_pos h, ne0]) hr
theorem j0_high (kind : Int) (h : ¬ kind < 3) {r : Bool} (hr : Ev (fun k => spec_StmOK.j1 k kind false kind table cols vals col exp wh outs) r) : Ev (fun k => spec_StmOK.j0 k kind false kind table cols vals col exp wh outs) r :=
  Ev.step (fun k => by rw [spec_StmOK.j0, if_neg ff, if_neg h]) hr
theorem spec_cols (hl : cols.length ≤ 1000000000) : Ev (fun k => spec_StmOK.l0 k cols (cols.length : Int) ((0 : Nat) : Int) 1 table cols vals col exp wh outs) (decide (1 ≤ cols.length ∧ cols.length ≤ 20) && cols.all colOk) := by
  by_cases h20 : cols.length ≤ 20
  · have := Gen.every (α := Col) colOk (decide (1 ≤ cols.length)) (fun k i => spec_StmOK.l0 k cols (cols.length : Int) i 1 table cols vals col exp wh outs)
      (fun k c => (spec_l4Name.f k c.f0).bind fun t => some (t && (decide (c.f1 = 1) || decide (c.f1 = 2)))) cols (fun k i h => by
        rw [spec_StmOK.l0, if_pos (by omega), if_pos (by omega), if_pos (by omega), if_neg (by omega), rdCol cols i h, wsucc i (by omega)]
        simp only [spec_type]
        exact bind_two _ _ _ _)
      (Ev.step (f := fun _ => some (decide (1 ≤ cols.length))) (fun k => by
        rw [spec_StmOK.l0, if_neg (by omega)]
        congr 1
        by_cases h : 1 ≤ cols.length
        · rw [decide_eq_true h, decide_eq_true (by omega)]
        · rw [decide_eq_false h, decide_eq_false (by omega)]) (Ev.now _))
      (fun c _ => (spec_nm c.f0).bind (Ev.now _)) cols.length 0 (by omega)
    have e : (decide (1 ≤ cols.length ∧ cols.length ≤ 20) && cols.all colOk) = ((cols.drop 0).all colOk && decide (1 ≤ cols.length)) := by
      rw [List.drop_zero, Bool.and_comm]
      by_cases h : 1 ≤ cols.length
      · rw [decide_eq_true h, decide_eq_true (And.intro h h20)]
      · rw [decide_eq_false h, decide_eq_false (fun x => h x.1)]
    rw [e]
    exact this
  · refine Ev.step (f := fun _ => some false) (fun k => ?_) ?_
    · rw [spec_StmOK.l0, if_pos (by omega), if_pos (by omega), if_pos (by omega), if_pos (by omega)]
    · rw [decide_eq_false (fun x => h20 x.2), Bool.false_and]; exact Ev.now _
theorem spec_vals (hl : vals.length ≤ 1000000000) : Ev (fun k => spec_StmOK.l1 k vals (vals.length : Int) ((0 : Nat) : Int) 2 table cols vals col exp wh outs) (decide (1 ≤ vals.length ∧ vals.length ≤ 20) && vals.all fun v => valOk v.f0 v.f1 v.f2) := by
  by_cases h20 : vals.length ≤ 20
  · have := Gen.every (α := Val) (fun v => valOk v.f0 v.f1 v.f2) (decide (1 ≤ vals.length)) (fun k i => spec_StmOK.l1 k vals (vals.length : Int) i 2 table cols vals col exp wh outs)
      (fun k v => spec_l4Value.f k v.f0 v.f1 v.f2) vals (fun k i h => by
        rw [spec_StmOK.l1, if_pos (by omega), if_pos (by omega), if_pos (by omega), if_neg (by omega), rdVal vals i h, wsucc i (by omega)])
      (Ev.step (f := fun _ => some (decide (1 ≤ vals.length))) (fun k => by
        rw [spec_StmOK.l1, if_neg (by omega)]
        congr 1
        by_cases h : 1 ≤ vals.length
        · rw [decide_eq_true h, decide_eq_true (by omega)]
        · rw [decide_eq_false h, decide_eq_false (by omega)]) (Ev.now _))
      (fun v _ => spec_val _ _ _) vals.length 0 (by omega)
    have e : (decide (1 ≤ vals.length ∧ vals.length ≤ 20) && vals.all fun v => valOk v.f0 v.f1 v.f2) = ((vals.drop 0).all (fun v => valOk v.f0 v.f1 v.f2) && decide (1 ≤ vals.length)) := by
      rw [List.drop_zero, Bool.and_comm]
      by_cases h : 1 ≤ vals.length
      · rw [decide_eq_true h, decide_eq_true (And.intro h h20)]
      · rw [decide_eq_false h, decide_eq_false (fun x => h x.1)]
    rw [e]
    exact this
  · refine Ev.step (f := fun _ => some false) (fun k => ?_) ?_
    · rw [spec_StmOK.l1, if_pos (by omega), if_pos (by omega), if_pos (by omega), if_pos (by omega)]
    · rw [decide_eq_false (fun x => h20 x.2), Bool.false_and]; exact Ev.now _
theorem spec_outs (hl : outs.length ≤ 1000000000) : Ev (fun k => spec_StmOK.l2 k outs (outs.length : Int) ((0 : Nat) : Int) 5 table cols vals col exp wh outs) (decide (1 ≤ outs.length ∧ outs.length ≤ 20) && (outs.all expOk && whOk wh)) := by
  by_cases h20 : outs.length ≤ 20
  · have := Gen.every (α := List Itm) expOk (decide (1 ≤ outs.length) && whOk wh) (fun k i => spec_StmOK.l2 k outs (outs.length : Int) i 5 table cols vals col exp wh outs)
      (fun k v => spec_l4Exp.f k v) outs (fun k i h => by
        rw [spec_StmOK.l2, if_pos (by omega), if_pos (by omega), if_pos (by omega), if_neg (by omega), rdII outs i h, wsucc i (by omega)])
      (by
        by_cases h : 1 ≤ outs.length
        · refine Ev.step (f := fun k => (spec_l4Where.f k wh).bind fun t => some t) (fun k => by rw [spec_StmOK.l2, if_neg (by omega), if_pos (by omega)]) ?_
          rw [decide_eq_true h, Bool.true_and]
          exact (spec_wh wh).bind (Ev.now _)
        · refine Ev.step (f := fun _ => some false) (fun k => by rw [spec_StmOK.l2, if_neg (by omega), if_neg (by omega)]) ?_
          rw [decide_eq_false h, Bool.false_and]
          exact Ev.now _)
      (fun v _ => spec_exp _) outs.length 0 (by omega)
    have e : (decide (1 ≤ outs.length ∧ outs.length ≤ 20) && (outs.all expOk && whOk wh)) = ((outs.drop 0).all expOk && (decide (1 ≤ outs.length) && whOk wh)) := by
      rw [List.drop_zero]
      by_cases h : 1 ≤ outs.length
      · rw [decide_eq_true h, decide_eq_true (And.intro h h20)]; simp
      · rw [decide_eq_false h, decide_eq_false (fun x => h x.1)]; simp
    rw [e]
    exact this
  · refine Ev.step (f := fun _ => some false) (fun k => ?_) ?_
    · rw [spec_StmOK.l2, if_pos (by omega), if_pos (by omega), if_pos (by omega), if_pos (by omega)]
    · rw [decide_eq_false (fun x => h20 x.2), Bool.false_and]; exact Ev.now _
theorem spec_stm (kind : Int) (h2 : cols.length ≤ 1000000000) (h3 : vals.length ≤ 1000000000) (h7 : outs.length ≤ 1000000000) :
    Ev (fun k => spec_StmOK.f k kind table cols vals col exp wh outs) (stmOk kind table cols vals col exp wh outs) := by
  refine Ev.congr (fun k => spec_f_eq k kind table cols vals col exp wh outs) ?_
  refine (spec_nm table).bind ?_
  unfold stmOk
  cases hn : nameKw table with
  | false => simp only [if_neg ff, Bool.false_and]; exact Ev.now _
  | true =>
    simp only [if_true, Bool.true_and]
    by_cases k1 : kind = 1
    · subst k1
      by_cases e2 : vals.length = 0 <;> by_cases e3 : col.toList = ([] : List UInt8) <;> by_cases e4 : exp.length = 0 <;> by_cases e5 : outs.length = 0
      all_goals
        simp only [bad, decide_not, decide_true, decide_false, Bool.not_true, Bool.not_false, Bool.false_and, Bool.true_and, Bool.or_false, Bool.false_or, Bool.true_or, Bool.or_true, Bool.and_true, Bool.and_false, if_true, ite_false, if_neg ff, show ¬ (1 : Int) = 2 by decide, show ¬ (1 : Int) = 3 by decide, show ¬ (1 : Int) = 4 by decide, show ¬ (1 : Int) = 5 by decide, e2, e3, e4, e5]
        first
        | exact j0_true table cols vals col exp wh outs 1
        | (refine j0_low table cols vals col exp wh outs 1 (by decide) ?_
           by_cases e6 : wh.length = 0
           · simp only [e6, decide_true, decide_not, Bool.not_true, Bool.true_and]
             refine Ev.step (fun k => by rw [spec_StmOK.j1, if_neg ff, if_pos rfl]) ?_
             exact spec_cols table cols vals col exp wh outs h2
           · simp only [e6, decide_false, decide_not, Bool.not_false, Bool.false_and]
             exact j1_true table cols vals col exp wh outs 1)
    by_cases k2 : kind = 2
    · subst k2
      by_cases e1 : cols.length = 0 <;> by_cases e3 : col.toList = ([] : List UInt8) <;> by_cases e4 : exp.length = 0 <;> by_cases e5 : outs.length = 0
      all_goals
        simp only [bad, decide_not, decide_true, decide_false, Bool.not_true, Bool.not_false, Bool.false_and, Bool.true_and, Bool.or_false, Bool.false_or, Bool.true_or, Bool.or_true, Bool.and_true, Bool.and_false, if_true, ite_false, if_neg ff, show ¬ (2 : Int) = 1 by decide, show ¬ (2 : Int) = 3 by decide, show ¬ (2 : Int) = 4 by decide, show ¬ (2 : Int) = 5 by decide, e1, e3, e4, e5]
        first
        | exact j0_true table cols vals col exp wh outs 2
        | (refine j0_low table cols vals col exp wh outs 2 (by decide) ?_
           by_cases e6 : wh.length = 0
           · simp only [e6, decide_true, decide_not, Bool.not_true, Bool.true_and]
             refine Ev.step (fun k => by rw [spec_StmOK.j1, if_neg ff, if_neg (by decide), if_pos rfl]) ?_
             exact spec_vals table cols vals col exp wh outs h3
           · simp only [e6, decide_false, decide_not, Bool.not_false, Bool.false_and]
             exact j1_true table cols vals col exp wh outs 2)
    by_cases k3 : kind = 3
    · subst k3
      by_cases e1 : cols.length = 0 <;> by_cases e2 : vals.length = 0 <;> by_cases e5 : outs.length = 0
      all_goals
        simp only [bad, decide_not, decide_true, decide_false, Bool.not_true, Bool.not_false, Bool.false_and, Bool.true_and, Bool.or_false, Bool.false_or, Bool.true_or, Bool.or_true, Bool.and_true, Bool.and_false, if_true, ite_false, if_neg ff, show ¬ (3 : Int) = 1 by decide, show ¬ (3 : Int) = 2 by decide, show ¬ (3 : Int) = 4 by decide, show ¬ (3 : Int) = 5 by decide, e1, e2, e5]
        first
        | exact j0_true table cols vals col exp wh outs 3
        | (refine j0_high table cols vals col exp wh outs 3 (by decide) ?_
           refine Ev.step (fun k => by rw [spec_StmOK.j1, if_neg ff, if_neg (by decide), if_neg (by decide), if_pos rfl]) ?_
           refine (spec_nm col).bind ?_
           cases nameKw col with
           | false => simp only [if_neg ff, Bool.false_and]; exact Ev.now _
           | true =>
             simp only [if_true, Bool.true_and]
             refine (spec_exp exp).bind ?_
             cases expOk exp with
             | false => simp only [if_neg ff, Bool.false_and]; exact Ev.now _
             | true => simp only [if_true, Bool.true_and]; exact (spec_wh wh).bind (Ev.now _))
    by_cases k4 : kind = 4
    · subst k4
      by_cases e1 : cols.length = 0 <;> by_cases e2 : vals.length = 0 <;> by_cases e3 : col.toList = ([] : List UInt8) <;> by_cases e4 : exp.length = 0 <;> by_cases e5 : outs.length = 0
      all_goals
        simp only [bad, decide_not, decide_true, decide_false, Bool.not_true, Bool.not_false, Bool.false_and, Bool.true_and, Bool.or_false, Bool.false_or, Bool.true_or, Bool.or_true, Bool.and_true, Bool.and_false, if_true, ite_false, if_neg ff, show ¬ (4 : Int) = 1 by decide, show ¬ (4 : Int) = 2 by decide, show ¬ (4 : Int) = 3 by decide, show ¬ (4 : Int) = 5 by decide, e1, e2, e3, e4, e5]
        first
        | exact j0_true table cols vals col exp wh outs 4
        | (refine j0_high table cols vals col exp wh outs 4 (by decide) ?_
           refine Ev.step (fun k => by rw [spec_StmOK.j1, if_neg ff, if_neg (by decide), if_neg (by decide), if_neg (by decide), if_pos rfl]) ?_
           exact (spec_wh wh).bind (Ev.now _))
    by_cases k5 : kind = 5
    · subst k5
      by_cases e1 : cols.length = 0 <;> by_cases e2 : vals.length = 0 <;> by_cases e3 : col.toList = ([] : List UInt8) <;> by_cases e4 : exp.length = 0
      all_goals
        simp only [bad, decide_not, decide_true, decide_false, Bool.not_true, Bool.not_false, Bool.false_and, Bool.true_and, Bool.or_false, Bool.false_or, Bool.true_or, Bool.or_true, Bool.and_true, Bool.and_false, if_true, ite_false, if_neg ff, show ¬ (5 : Int) = 1 by decide, show ¬ (5 : Int) = 2 by decide, show ¬ (5 : Int) = 3 by decide, show ¬ (5 : Int) = 4 by decide, e1, e2, e3, e4]
        first
        | exact j0_true table cols vals col exp wh outs 5
        | (refine j0_high table cols vals col exp wh outs 5 (by decide) ?_
           refine Ev.step (fun k => by rw [spec_StmOK.j1, if_neg ff, if_neg (by decide), if_neg (by decide), if_neg (by decide), if_neg (by decide), if_pos rfl]) ?_
           exact spec_outs table cols vals col exp wh outs h7)
    simp only [if_neg k1, if_neg k2, if_neg k3, if_neg k4, if_neg k5]
    cases hb : bad kind cols vals col exp outs with
    | true => exact j0_true table cols vals col exp wh outs kind
    | false =>
      by_cases hlt : kind < 3
      · refine j0_low table cols vals col exp wh outs kind hlt ?_
        by_cases e6 : wh.length = 0
        · simp only [e6, decide_true, decide_not, Bool.not_true]
          exact Ev.step (f := fun _ => some false) (fun k => by rw [spec_StmOK.j1, if_neg ff, if_neg k1, if_neg k2, if_neg k3, if_neg k4, if_neg k5]) (Ev.now _)
        · simp only [e6, decide_false, decide_not, Bool.not_false]
          exact j1_true table cols vals col exp wh outs kind
      · refine j0_high table cols vals col exp wh outs kind hlt ?_
        exact Ev.step (f := fun _ => some false) (fun k => by rw [spec_StmOK.j1, if_neg ff, if_neg k1, if_neg k2, if_neg k3, if_neg k4, if_neg k5]) (Ev.now _)
theorem if_and (p : Prop) [Decidable p] (b : Bool) : (if p then (some b : Option Bool) else some false) = some (decide p && b) := by
  by_cases h : p <;> simp [h]
theorem eq0 {α : Type} (l : List α) : ((l.length : Int) == 0) = decide (l.length = 0) := by
  by_cases h : l.length = 0
  · simp [h]
  · rw [decide_eq_false h]; exact beq_eq_false_iff_ne.2 (by omega)
theorem ge1 {α : Type} (l : List α) : ((l.length : Int) ≥ 1) = (1 ≤ l.length) := propext ⟨fun h => by omega, fun h => by omega⟩
theorem le20 {α : Type} (l : List α) : ((l.length : Int) ≤ 20) = (l.length ≤ 20) := propext ⟨fun h => by omega, fun h => by omega⟩
theorem len0' {α : Type} (l : List α) : ((l.length : Int) = 0) = (l.length = 0) := propext (len0 l)
theorem dand (p q : Prop) [Decidable p] [Decidable q] : decide (p ∧ q) = (decide p && decide q) := by
  by_cases h : p <;> by_cases h2 : q <;> simp [h, h2]
theorem impl_stm (kind : Int) (ht : table.size ≤ 9223372036854775807) (hc : col.size ≤ 9223372036854775807) (h2 : cols.length ≤ 1000000000) (h2s : ∀ y ∈ cols, y.f0.size ≤ 9223372036854775807) (h3 : vals.length ≤ 1000000000) (h3s : ∀ y ∈ vals, y.f2.size ≤ 9223372036854775807) (h5s : ∀ y ∈ exp, y.f2.size ≤ 9223372036854775807) (h6s : ∀ y ∈ wh, y.f2.size ≤ 9223372036854775807) (h7 : outs.length ≤ 1000000000) (h7s : ∀ y ∈ outs, ∀ z ∈ y, z.f2.size ≤ 9223372036854775807) :
    Ev (fun k => impl_StmOK.f k kind table cols vals col exp wh outs) (stmOk kind table cols vals col exp wh outs) := by
  have key : Ev (fun k => impl_StmOK.j0 k (whOk wh) kind table cols vals col exp wh outs) (stmOk kind table cols vals col exp wh outs) := by
    unfold stmOk
    refine Ev.step (fun k => by rw [impl_StmOK.j0, impl_nm table ht, Option.bind_some]) ?_
    cases hn : nameKw table with
    | false => simp only [if_neg ff, Bool.false_and]; exact Ev.now _
    | true =>
      simp only [if_true, Bool.true_and]
      by_cases k1 : kind = 1
      · simp only [if_pos k1]
        have := Gen.every (α := Col) colOk ((decide (1 ≤ cols.length) && (decide (cols.length ≤ 20) && (decide (vals.length = 0) && (decide (col.toList = ([] : List UInt8)) && (decide (exp.length = 0) && (decide (wh.length = 0) && decide (outs.length = 0))))))))
          (fun k i => impl_StmOK.l0 k (cols.length : Int) (vals.length : Int) col (exp.length : Int) (outs.length : Int) cols (cols.length : Int) i kind table cols vals col exp wh outs) (fun k c => some (colOk c)) cols (fun k i h => by
            rw [impl_StmOK.l0, if_pos (by omega), if_pos (by omega), if_pos (by omega), rdCol cols i h, impl_nm _ (h2s _ (List.getElem_mem h)), wsucc i (by omega)]
            unfold colOk
            cases nameKw cols[i].f0 with
            | false => simp
            | true =>
              by_cases a1 : cols[i].f1 = 1
              · simp [a1]
              · by_cases a2 : cols[i].f1 = 2
                · simp [a2]
                · simp [a1, a2])
          (Ev.step (f := fun _ => some _) (fun k => by
            rw [impl_StmOK.l0, if_neg (by omega)]
            simp only [eq0, ge1, le20, len0', if_and]) (Ev.now _))
          (fun c _ => Ev.now _) cols.length 0 (by omega)
        rw [List.drop_zero] at this
        refine Ev.congr (fun k => rfl) ?_
        have e : (decide (vals.length = 0) && (decide (col.toList = ([] : List UInt8)) && (decide (exp.length = 0) && (decide (outs.length = 0) && (decide (wh.length = 0) && (decide (1 ≤ cols.length ∧ cols.length ≤ 20) && cols.all colOk)))))) = (cols.all colOk && (decide (1 ≤ cols.length) && (decide (cols.length ≤ 20) && (decide (vals.length = 0) && (decide (col.toList = ([] : List UInt8)) && (decide (exp.length = 0) && (decide (wh.length = 0) && decide (outs.length = 0)))))))) := by
          rw [dand]
          cases cols.all colOk <;> cases decide (vals.length = 0) <;> cases decide (col.toList = ([] : List UInt8)) <;> cases decide (exp.length = 0) <;> cases decide (outs.length = 0) <;> cases decide (wh.length = 0) <;> simp
        rw [e]
        exact this
      by_cases k2 : kind = 2
      · simp only [if_neg k1, if_pos k2]
        have := Gen.every (α := Val) (fun v => valOk v.f0 v.f1 v.f2) ((decide (1 ≤ vals.length) && (decide (vals.length ≤ 20) && (decide (cols.length = 0) && (decide (col.toList = ([] : List UInt8)) && (decide (exp.length = 0) && (decide (wh.length = 0) && decide (outs.length = 0))))))))
          (fun k i => impl_StmOK.l1 k (cols.length : Int) (vals.length : Int) col (exp.length : Int) (outs.length : Int) vals (vals.length : Int) i kind table cols vals col exp wh outs) (fun k v => some (valOk v.f0 v.f1 v.f2)) vals (fun k i h => by
            rw [impl_StmOK.l1, if_pos (by omega), if_pos (by omega), if_pos (by omega), rdVal vals i h, impl_val _ _ _ (h3s _ (List.getElem_mem h)), wsucc i (by omega)])
          (Ev.step (f := fun _ => some _) (fun k => by
            rw [impl_StmOK.l1, if_neg (by omega)]
            simp only [eq0, ge1, le20, len0', if_and]) (Ev.now _))
          (fun c _ => Ev.now _) vals.length 0 (by omega)
        rw [List.drop_zero] at this
        have e : (decide (cols.length = 0) && (decide (col.toList = ([] : List UInt8)) && (decide (exp.length = 0) && (decide (outs.length = 0) && (decide (wh.length = 0) && (decide (1 ≤ vals.length ∧ vals.length ≤ 20) && vals.all fun v => valOk v.f0 v.f1 v.f2)))))) = ((vals.all fun v => valOk v.f0 v.f1 v.f2) && (decide (1 ≤ vals.length) && (decide (vals.length ≤ 20) && (decide (cols.length = 0) && (decide (col.toList = ([] : List UInt8)) && (decide (exp.length = 0) && (decide (wh.length = 0) && decide (outs.length = 0)))))))) := by
          rw [dand]
          cases (vals.all fun v => valOk v.f0 v.f1 v.f2) <;> cases decide (cols.length = 0) <;> cases decide (col.toList = ([] : List UInt8)) <;> cases decide (exp.length = 0) <;> cases decide (outs.length = 0) <;> cases decide (wh.length = 0) <;> simp
        rw [e]
        exact this
      by_cases k3 : kind = 3
      · simp only [if_neg k1, if_neg k2, if_pos k3, impl_nm col hc, Option.bind_some]
        cases nameKw col with
        | false => simp only [if_neg ff, Bool.false_and, Bool.and_false]; exact Ev.now _
        | true =>
          simp only [if_true, Bool.true_and]
          refine (impl_exp exp h5s).bind ?_
          cases expOk exp with
          | false => simp only [if_neg ff, Bool.false_and, Bool.and_false]; exact Ev.now _
          | true =>
            simp only [if_true, Bool.true_and, eq0, len0', if_and]
            cases whOk wh with
            | false => simp only [decide_eq_false ff, Bool.false_and, Bool.and_false]; exact Ev.now _
            | true => simp only [decide_true, Bool.true_and, Bool.and_true]; exact Ev.now _
      by_cases k4 : kind = 4
      · simp only [if_neg k1, if_neg k2, if_neg k3, if_pos k4, eq0, len0', if_and]
        cases whOk wh with
        | false => simp only [decide_eq_false ff, Bool.false_and, Bool.and_false]; exact Ev.now _
        | true => simp only [decide_true, Bool.true_and, Bool.and_true]; exact Ev.now _
      by_cases k5 : kind = 5
      · simp only [if_neg k1, if_neg k2, if_neg k3, if_neg k4, if_pos k5]
        have := Gen.every (α := List Itm) expOk ((decide (1 ≤ outs.length) && (decide (outs.length ≤ 20) && (decide (whOk wh = true) && (decide (cols.length = 0) && (decide (vals.length = 0) && (decide (col.toList = ([] : List UInt8)) && decide (exp.length = 0))))))))
          (fun k i => impl_StmOK.l2 k (whOk wh) (cols.length : Int) (vals.length : Int) col (exp.length : Int) (outs.length : Int) outs (outs.length : Int) i) (fun k v => impl_expOK.f k v) outs (fun k i h => by
            rw [impl_StmOK.l2, if_pos (by omega), if_pos (by omega), if_pos (by omega), rdII outs i h, wsucc i (by omega)])
          (Ev.step (f := fun _ => some _) (fun k => by
            rw [impl_StmOK.l2, if_neg (by omega)]
            simp only [eq0, ge1, le20, len0', if_and]) (Ev.now _))
          (fun c hc => impl_exp c (h7s c hc)) outs.length 0 (by omega)
        rw [List.drop_zero] at this
        have e : (decide (cols.length = 0) && (decide (vals.length = 0) && (decide (col.toList = ([] : List UInt8)) && (decide (exp.length = 0) && (decide (1 ≤ outs.length ∧ outs.length ≤ 20) && (outs.all expOk && whOk wh)))))) = (outs.all expOk && (decide (1 ≤ outs.length) && (decide (outs.length ≤ 20) && (decide (whOk wh = true) && (decide (cols.length = 0) && (decide (vals.length = 0) && (decide (col.toList = ([] : List UInt8)) && decide (exp.length = 0)))))))) := by
          rw [dand]
          cases outs.all expOk <;> cases whOk wh <;> cases decide (cols.length = 0) <;> cases decide (vals.length = 0) <;> cases decide (col.toList = ([] : List UInt8)) <;> cases decide (exp.length = 0) <;> simp
        rw [e]
        exact this
      simp only [if_neg k1, if_neg k2, if_neg k3, if_neg k4, if_neg k5]
      exact Ev.now _
  unfold impl_StmOK.f
  by_cases e6 : wh.length = 0
  · have : whOk wh = true := by unfold whOk; rw [decide_eq_true e6, Bool.true_or]
    simp only [if_pos ((len0 wh).2 e6)]
    rw [this] at key
    exact key
  · have : whOk wh = expOk wh := by unfold whOk; rw [decide_eq_false e6, Bool.false_or]
    simp only [if_neg (fun h => e6 ((len0 wh).1 h))]
    rw [this] at key
    exact (impl_exp wh h6s).bind key
end
end Go.Proofs.YtjihphegmdfpfaaDoor.Pure
end
section
set_option linter.unusedVariables false
set_option linter.unusedSimpArgs false
namespace Go.Proofs.YtjihphegmdfpfaaDoor
open Go.RowKit Go.Proofs.YtjihphegmdfpfaaDoorW.PrintWords
/-- The lowest bytes of v, the highest first: so many. -/
def numB : Nat → Int → List Int
  | 0, _ => []
  | n + 1, v => (v / 256 ^ n) % 256 :: numB n v
theorem numB_length (n : Nat) (v : Int) : (numB n v).length = n := by
  induction n with
  | zero => rfl
  | succ n ih => simp [numB, ih]
theorem numB_get (n : Nat) : ∀ (v : Int) (i : Nat), i < n → (numB n v)[i]? = some ((v / 256 ^ (n - 1 - i)) % 256) := by
  induction n with
  | zero => intro v i h; omega
  | succ n ih =>
    intro v i h
    cases i with
    | zero => simp [numB]
    | succ i => simp only [numB, List.getElem?_cons_succ]; rw [ih v i (by omega)]; congr 4; omega
theorem strOfNums_size (l : List Int) : (strOfNums l).size = l.length := by simp [strOfNums, ByteArray.size]
end Go.Proofs.YtjihphegmdfpfaaDoor
end
section
set_option linter.unusedVariables false
set_option linter.unusedSimpArgs false
namespace Go.Proofs.YtjihphegmdfpfaaDoor.Pure
open Go.RowKit Go.Proofs.YtjihphegmdfpfaaDoor Go.Proofs.YtjihphegmdfpfaaDoor.L Go.Proofs.YtjihphegmdfpfaaDoorW.PrintWords Go.Proofs.YtjihphegmdfpfaaDoorW.PrintLast
theorem num_l1 (d : Nat) : ∀ (j : Nat) (x1 : Int) (x5 : List Int) (i : Nat) (x : Int) (r : ByteArray), j + d = i → i ≤ 100 → x5.length < 1000 →
    Ev (fun k => spec_l1Num.l0 k x1 (x5 ++ [(x / 256 ^ d) % 256]) (wrap64 ((i : Int) - 1))) r → Ev (fun k => spec_l1Num.l1 k x1 x5 i x j) r := by
  induction d with
  | zero =>
    intro j x1 x5 i x r hj hi hl h
    refine Ev.step (f := fun k => spec_l1Num.l0 k x1 (x5 ++ [x % 256]) (wrap64 ((i : Int) - 1))) (fun k => ?_) ?_
    · rw [spec_l1Num.l1, if_neg (by omega), if_pos (by omega)]
    · simpa using h
  | succ d ih =>
    intro j x1 x5 i x r hj hi hl h
    refine Ev.step (f := fun k => spec_l1Num.l1 k x1 x5 i (x / 256) ((j + 1 : Nat) : Int)) (fun k => ?_) ?_
    · rw [spec_l1Num.l1, if_pos (by omega), show wrap64 ((j : Int) + 1) = ((j + 1 : Nat) : Int) from by unfold wrap64; omega]
    · refine ih (j + 1) x1 x5 i (x / 256) r (by omega) hi hl ?_
      rw [Int.ediv_ediv_of_nonneg (by decide), show (256 : Int) * 256 ^ d = 256 ^ (d + 1) from by rw [Int.pow_succ]; exact Int.mul_comm _ _]
      exact h
theorem num_l0 (n : Nat) : ∀ (x1 : Int) (x5 : List Int), n ≤ 100 → x5.length + n < 1000 →
    Ev (fun k => spec_l1Num.l0 k x1 x5 ((n : Int) - 1)) (strOfNums (x5 ++ numB n x1)) := by
  induction n with
  | zero =>
    intro x1 x5 _ _
    refine Ev.step (f := fun _ => some (strOfNums x5)) (fun k => ?_) ?_
    · rw [spec_l1Num.l0, if_neg (by omega)]
    · simpa [numB] using Ev.now _
  | succ n ih =>
    intro x1 x5 hn hl
    refine Ev.step (f := fun k => spec_l1Num.l1 k x1 x5 ((n + 1 : Nat) - 1) x1 0) (fun k => ?_) ?_
    · rw [spec_l1Num.l0, if_pos (by omega)]
    · have e : (((n + 1 : Nat) : Int) - 1) = (n : Int) := by omega
      rw [e]
      refine num_l1 n 0 x1 x5 n x1 _ (by omega) (by omega) (by omega) ?_
      have hw : wrap64 ((n : Int) - 1) = (n : Int) - 1 := by unfold wrap64; omega
      rw [hw]
      have := ih x1 (x5 ++ [(x1 / 256 ^ n) % 256]) (by omega) (by simp; omega)
      simpa [numB, List.append_assoc] using this
theorem spec_num (n : Nat) (v : Int) (hn : n ≤ 100) : Ev (fun k => spec_l1Num.f k n v) (strOfNums (numB n v)) := by
  have h := num_l0 n v [] hn (by simp; omega)
  refine Ev.congr (f := fun k => spec_l1Num.l0 k v [] ((n : Int) - 1)) (fun k => ?_) (by simpa using h)
  unfold spec_l1Num.f
  rw [show wrap64 ((n : Int) - 1) = (n : Int) - 1 from by unfold wrap64; omega]
theorem inum_l0 (e : Nat) : ∀ (x0 : Int) (n : Nat) (xs : List Int) (i : Nat), i + e = n → n ≤ 8 → xs.length = n → (∀ j, j < i → xs[j]? = (numB n x0)[j]?) →
    Ev (fun k => impl_number.l0 k x0 n xs n i) (strOfNums (numB n x0)) := by
  induction e with
  | zero =>
    intro x0 n xs i hi hn hl hx
    obtain rfl : i = n := by omega
    have : xs = numB i x0 := by
      apply List.ext_getElem?
      intro j
      by_cases hj : j < i
      · exact hx j hj
      · rw [List.getElem?_eq_none (by omega), List.getElem?_eq_none (by rw [numB_length]; omega)]
    subst this
    refine Ev.step (f := fun _ => some (strOfNums (numB i x0))) (fun k => ?_) (Ev.now _)
    rw [impl_number.l0, if_neg (by omega)]
  | succ e ih =>
    intro x0 n xs i hi hn hl hx
    have hw : wrap64 (8 * wrap64 (wrap64 ((n : Int) - 1) - (i : Int))) = ((8 * (n - 1 - i) : Nat) : Int) := by unfold wrap64; omega
    have hsh : shr .i64 x0 ((8 * (n - 1 - i) : Nat) : Int) = x0 / 256 ^ (n - 1 - i) := by
      unfold shr
      have hm : min ((8 * (n - 1 - i) : Nat) : Int).toNat 64 = 8 * (n - 1 - i) := by omega
      show x0 / 2 ^ min ((8 * (n - 1 - i) : Nat) : Int).toNat 64 = _
      rw [hm, Int.pow_mul]; rfl
    refine Ev.step (f := fun k => impl_number.l0 k x0 n (xs.set i ((x0 / 256 ^ (n - 1 - i)) % 256)) n ((i + 1 : Nat) : Int)) (fun k => ?_) ?_
    · rw [impl_number.l0, if_pos (by omega), hw, if_pos (by omega), if_pos (by omega), if_pos (by omega), hsh, show wrap64 ((i : Int) + 1) = ((i + 1 : Nat) : Int) from by unfold wrap64; omega]
      simp
    · refine ih x0 n _ (i + 1) (by omega) hn (by simp [hl]) (fun j hj => ?_)
      rw [List.getElem?_set]
      by_cases h : i = j
      · subst h
        rw [if_pos rfl, if_pos (by omega), numB_get n x0 i (by omega)]
      · rw [if_neg h]
        exact hx j (by omega)
theorem impl_num (n : Nat) (v : Int) (hn : n ≤ 8) : Ev (fun k => impl_number.f k v n) (strOfNums (numB n v)) := by
  have h := inum_l0 n v n (List.replicate n 0) 0 (by omega) hn (by simp) (fun j hj => by omega)
  refine Ev.congr (fun k => ?_) h
  unfold impl_number.f
  rw [if_pos (by omega), if_pos (by omega)]
  simp
end Go.Proofs.YtjihphegmdfpfaaDoor.Pure
end
