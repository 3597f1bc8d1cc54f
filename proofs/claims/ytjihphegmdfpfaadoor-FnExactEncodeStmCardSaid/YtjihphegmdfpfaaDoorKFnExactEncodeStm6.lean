/- The texts that the proof of the law FnExactEncodeStm rests on, part 6: printed functions with their contracts, words, plain laws; the last part ends in the statement itself. No condition but those that each theorem states. -/
import Derived.Test.YtjihphegmdfpfaaDoorKFnExactEncodeStm5
set_option linter.unusedVariables false
set_option linter.unusedSimpArgs false
section
namespace Go.Proofs.YtjihphegmdfpfaaDoor.L
open Go.RowKit Go.Proofs.YtjihphegmdfpfaaDoorW.PrintWords Go.Proofs.YtjihphegmdfpfaaDoorW.PrintLast Go.Proofs.YtjihphegmdfpfaaDoorW.PrintMore
attribute [local go_sem] max2_int min2_int max_two min_two max_three min_three max_four min_four
set_option linter.unusedVariables false
set_option linter.unusedSimpArgs false
def laws_eqStm.f (k : Nat) (a0_0 : Int) (a0_1 : ByteArray) (l0_2 : List (S51)) (l0_3 : List (S53)) (a0_4 : ByteArray) (l0_5 : List (S88)) (l0_6 : List (S88)) (l0_7 : List (List (S88))) (a1_0 : Int) (a1_1 : ByteArray) (l1_2 : List (S51)) (l1_3 : List (S53)) (a1_4 : ByteArray) (l1_5 : List (S88)) (l1_6 : List (S88)) (l1_7 : List (List (S88))) : Option (Bool) := if a0_0 = a1_0 then (if a0_1.toList = a1_1.toList then ((laws_eqColumnS.f k l0_2 l1_2).bind fun t337 => (if t337 = true then ((laws_eqValueS.f k l0_3 l1_3).bind fun t338 => (if t338 = true then (if a0_4.toList = a1_4.toList then ((laws_eqItemS.f k l0_5 l1_5).bind fun t339 => (if t339 = true then ((laws_eqItemS.f k l0_6 l1_6).bind fun t340 => (if t340 = true then ((laws_eqItemSS.f k l0_7 l1_7).bind fun t341 => (if t341 = true then (some true) else (some false))) else (some false))) else (some false))) else (some false)) else (some false))) else (some false))) else (some false)) else (some false)
theorem laws_eqStm.mono : ∀ a0 a1 a2 a3 a4 a5 a6 a7 a8 a9 a10 a11 a12 a13 a14 a15 k, LeO (laws_eqStm.f k a0 a1 a2 a3 a4 a5 a6 a7 a8 a9 a10 a11 a12 a13 a14 a15) (laws_eqStm.f (k + 1) a0 a1 a2 a3 a4 a5 a6 a7 a8 a9 a10 a11 a12 a13 a14 a15) := by
  intro a0 a1 a2 a3 a4 a5 a6 a7 a8 a9 a10 a11 a12 a13 a14 a15 k
  unfold laws_eqStm.f
  repeat' first
      | (with_reducible exact laws_eqColumnS.mono _ _ _)
      | (with_reducible exact laws_eqItemS.mono _ _ _)
      | (with_reducible exact laws_eqItemSS.mono _ _ _)
      | (with_reducible exact laws_eqValueS.mono _ _ _)
      | (with_reducible exact LeO.refl _)
      | (with_reducible exact LeO.none _)
      | (with_reducible refine LeO.ite ?_ ?_)
      | (with_reducible refine LeO.bind ?_ (fun _ => ?_))
      | exact laws_eqColumnS.mono _ _ _
      | exact laws_eqItemS.mono _ _ _
      | exact laws_eqItemSS.mono _ _ _
      | exact laws_eqValueS.mono _ _ _
      | exact LeO.none _
      | refine LeO.ite ?_ ?_
      | refine LeO.bind ?_ (fun _ => ?_)
set_option maxHeartbeats 8000000 in
set_option maxRecDepth 100000 in
theorem laws_eqStm.calls (k : Nat) (a0_0 : Int) (a0_1 : ByteArray) (A0_2 : Option Addr) (c0_2 : Nat) (l0_2 : List (S51)) (A0_3 : Option Addr) (c0_3 : Nat) (l0_3 : List (S53)) (a0_4 : ByteArray) (A0_5 : Option Addr) (c0_5 : Nat) (l0_5 : List (S88)) (A0_6 : Option Addr) (c0_6 : Nat) (l0_6 : List (S88)) (A0_7 : Option Addr) (c0_7 : Nat) (l0_7 : List (List (S88))) (a1_0 : Int) (a1_1 : ByteArray) (A1_2 : Option Addr) (c1_2 : Nat) (l1_2 : List (S51)) (A1_3 : Option Addr) (c1_3 : Nat) (l1_3 : List (S53)) (a1_4 : ByteArray) (A1_5 : Option Addr) (c1_5 : Nat) (l1_5 : List (S88)) (A1_6 : Option Addr) (c1_6 : Nat) (l1_6 : List (S88)) (A1_7 : Option Addr) (c1_7 : Nat) (l1_7 : List (List (S88))) (r : Bool) (w : World) (hr0_2 : Kd.C k51 w A0_2 l0_2.length l0_2) (hc0_2 : l0_2.length ≤ c0_2) (hr0_3 : Kd.C k53 w A0_3 l0_3.length l0_3) (hc0_3 : l0_3.length ≤ c0_3) (hr0_5 : Kd.C k88 w A0_5 l0_5.length l0_5) (hc0_5 : l0_5.length ≤ c0_5) (hr0_6 : Kd.C k88 w A0_6 l0_6.length l0_6) (hc0_6 : l0_6.length ≤ c0_6) (hr0_7 : Kd.C (Kd.slice 88 k88) w A0_7 l0_7.length l0_7) (hc0_7 : l0_7.length ≤ c0_7) (hr1_2 : Kd.C k51 w A1_2 l1_2.length l1_2) (hc1_2 : l1_2.length ≤ c1_2) (hr1_3 : Kd.C k53 w A1_3 l1_3.length l1_3) (hc1_3 : l1_3.length ≤ c1_3) (hr1_5 : Kd.C k88 w A1_5 l1_5.length l1_5) (hc1_5 : l1_5.length ≤ c1_5) (hr1_6 : Kd.C k88 w A1_6 l1_6.length l1_6) (hc1_6 : l1_6.length ≤ c1_6) (hr1_7 : Kd.C (Kd.slice 88 k88) w A1_7 l1_7.length l1_7) (hc1_7 : l1_7.length ≤ c1_7) (h : laws_eqStm.f k a0_0 a0_1 l0_2 l0_3 a0_4 l0_5 l0_6 l0_7 a1_0 a1_1 l1_2 l1_3 a1_4 l1_5 l1_6 l1_7 = some r) :
    Calls Tryd.prog 9 #[.agg #[.int .i64 a0_0, .string a0_1, .slice A0_2 l0_2.length c0_2, .slice A0_3 l0_3.length c0_3, .string a0_4, .slice A0_5 l0_5.length c0_5, .slice A0_6 l0_6.length c0_6, .slice A0_7 l0_7.length c0_7], .agg #[.int .i64 a1_0, .string a1_1, .slice A1_2 l1_2.length c1_2, .slice A1_3 l1_3.length c1_3, .string a1_4, .slice A1_5 l1_5.length c1_5, .slice A1_6 l1_6.length c1_6, .slice A1_7 l1_7.length c1_7]] w fun e w' => e = .returned (.bool r) ∧ Below w.heap.size w w' := by
  have hu35 := Tryd.underlying35; have HR0_2 := qK hr0_2; have HC0_2 := qK hc0_2; clear hr0_2 hc0_2; have HR0_3 := qK hr0_3; have HC0_3 := qK hc0_3; clear hr0_3 hc0_3; have HR0_5 := qK hr0_5; have HC0_5 := qK hc0_5; clear hr0_5 hc0_5; have HR0_6 := qK hr0_6; have HC0_6 := qK hc0_6; clear hr0_6 hc0_6; have HR0_7 := qK hr0_7; have HC0_7 := qK hc0_7; clear hr0_7 hc0_7; have HR1_2 := qK hr1_2; have HC1_2 := qK hc1_2; clear hr1_2 hc1_2; have HR1_3 := qK hr1_3; have HC1_3 := qK hc1_3; clear hr1_3 hc1_3; have HR1_5 := qK hr1_5; have HC1_5 := qK hc1_5; clear hr1_5 hc1_5; have HR1_6 := qK hr1_6; have HC1_6 := qK hc1_6; clear hr1_6 hc1_6; have HR1_7 := qK hr1_7; have HC1_7 := qK hc1_7; clear hr1_7 hc1_7; have HB := qK (Below.refl w.heap.size w); have H : (if a0_0 = a1_0 then (if a0_1.toList = a1_1.toList then ((laws_eqColumnS.f k l0_2 l1_2).bind fun t337 => (if t337 = true then ((laws_eqValueS.f k l0_3 l1_3).bind fun t338 => (if t338 = true then (if a0_4.toList = a1_4.toList then ((laws_eqItemS.f k l0_5 l1_5).bind fun t339 => (if t339 = true then ((laws_eqItemS.f k l0_6 l1_6).bind fun t340 => (if t340 = true then ((laws_eqItemSS.f k l0_7 l1_7).bind fun t341 => (if t341 = true then (some true) else (some false))) else (some false))) else (some false))) else (some false)) else (some false))) else (some false))) else (some false)) else (some false)) = some r := h; clear h; by_cases c3 : a0_0 = a1_0
  · rw [if_pos c3] at H; have c3b0 : (a0_0 == a1_0) = true := beq_iff_eq.mpr c3; have c3b1 : (a0_0 != a1_0) = false := bne_eq_false_iff_eq.mpr c3; clear c3; by_cases c4 : a0_1.toList = a1_1.toList
    · rw [if_pos c4] at H; have c4b0 : (a0_1.toList == a1_1.toList) = true := beq_iff_eq.mpr c4; have c4b1 : (a0_1.toList != a1_1.toList) = false := bne_eq_false_iff_eq.mpr c4; clear c4; replace H := Option.bind_eq_some_iff.mp H; obtain ⟨t337, A50, H⟩ := H; have A5 := qK A50; clear A50; by_cases c6 : t337 = true
      · subst c6; rw [if_pos rfl] at H; replace H := Option.bind_eq_some_iff.mp H; obtain ⟨t338, A70, H⟩ := H; have A7 := qK A70; clear A70; by_cases c8 : t338 = true
        · subst c8; rw [if_pos rfl] at H; by_cases c9 : a0_4.toList = a1_4.toList
          · rw [if_pos c9] at H; have c9b0 : (a0_4.toList == a1_4.toList) = true := beq_iff_eq.mpr c9; have c9b1 : (a0_4.toList != a1_4.toList) = false := bne_eq_false_iff_eq.mpr c9; clear c9; replace H := Option.bind_eq_some_iff.mp H; obtain ⟨t339, A100, H⟩ := H; have A10 := qK A100; clear A100; by_cases c11 : t339 = true
            · subst c11; rw [if_pos rfl] at H; replace H := Option.bind_eq_some_iff.mp H; obtain ⟨t340, A120, H⟩ := H; have A12 := qK A120; clear A120; by_cases c13 : t340 = true
              · subst c13; rw [if_pos rfl] at H; replace H := Option.bind_eq_some_iff.mp H; obtain ⟨t341, A140, H⟩ := H; have A14 := qK A140; clear A140; by_cases c15 : t341 = true
                · subst c15; rw [if_pos rfl] at H; obtain rfl := Option.some.inj H; go_enter Tryd.func9, Tryd.ntmps9; go_wp2_with (first | ((with_reducible refine gds (N := 2) rfl ?_); refine qbx 2 #[.int .i64 a0_0, .string a0_1, .slice A0_2 l0_2.length c0_2, .slice A0_3 l0_3.length c0_3, .string a0_4, .slice A0_5 l0_5.length c0_5, .slice A0_6 l0_6.length c0_6, .slice A0_7 l0_7.length c0_7] 35 ?_; intro gb335 hg w16 hbox hb; have BK335 := qK (hbox); have GW335 := qK ((qW : w.heap.size ≤ gb335)); have GE335 := GW335; replace HB := qHB HB hb; clear hb hbox hg) | ((with_reducible refine gds (N := 3) rfl ?_); refine qbx 3 #[.int .i64 a1_0, .string a1_1, .slice A1_2 l1_2.length c1_2, .slice A1_3 l1_3.length c1_3, .string a1_4, .slice A1_5 l1_5.length c1_5, .slice A1_6 l1_6.length c1_6, .slice A1_7 l1_7.length c1_7] 35 ?_; intro gb336 hg w17 hbox hb; have BK336 := qK (hbox); have GW336 := qK ((qW : w.heap.size ≤ gb336)); have GE336 := GW336; replace HB := qHB HB hb; have NB335_336 := qK (qlt BK335 hg); have NB336_335 := qK (qgt BK335 hg); replace BK335 := qbb BK335 hb; clear hb hbox hg; have hnb18 := NB335_336.out; have hnc18 := NB336_335.out; have hz19 := qz8 BK335.out; have hz20 := qz8 BK336.out) | ((with_reducible refine gcl (f := 33) rfl ?_); refine goesL_ (some 19) rfl rfl Tryd.func33 (by kernel_rfl) rfl #[.slice A0_2 l0_2.length c0_2, .slice A1_2 l1_2.length c1_2] rfl qA ?_; (with_reducible refine (laws_eqColumnS.calls k _ _ l0_2 _ _ l1_2 true _ ?side1 ?side2 ?side3 ?side4 A5.out).mono ?_); (case side1 => exact qC HR0_2); (case side2 => exact HC0_2.out); (case side3 => exact qC HR1_2); (case side4 => exact HC1_2.out); rintro e w21 ⟨rfl, hb⟩; refine ⟨_, rfl, ?_⟩; replace BK335 := qbb BK335 hb; replace BK336 := qbb BK336 hb; replace HB := qHB HB hb; (try clear hb); (try clear hb2); (try clear hk); (try clear hi); have hz22 := qz8 BK335.out; have hz23 := qz8 BK336.out) | ((with_reducible refine gcl (f := 34) rfl ?_); refine goesL_ (some 25) rfl rfl Tryd.func34 (by kernel_rfl) rfl #[.slice A0_3 l0_3.length c0_3, .slice A1_3 l1_3.length c1_3] rfl qA ?_; (with_reducible refine (laws_eqValueS.calls k _ _ l0_3 _ _ l1_3 true _ ?side1 ?side2 ?side3 ?side4 A7.out).mono ?_); (case side1 => exact qC HR0_3); (case side2 => exact HC0_3.out); (case side3 => exact qC HR1_3); (case side4 => exact HC1_3.out); rintro e w24 ⟨rfl, hb⟩; refine ⟨_, rfl, ?_⟩; replace BK335 := qbb BK335 hb; replace BK336 := qbb BK336 hb; replace HB := qHB HB hb; (try clear hb); (try clear hb2); (try clear hk); (try clear hi); have hz25 := qz8 BK335.out; have hz26 := qz8 BK336.out) | ((with_reducible refine gcl (f := 35) rfl ?_); refine goesL_ (some 36) rfl rfl Tryd.func35 (by kernel_rfl) rfl #[.slice A0_5 l0_5.length c0_5, .slice A1_5 l1_5.length c1_5] rfl qA ?_; (with_reducible refine (laws_eqItemS.calls k _ _ l0_5 _ _ l1_5 true _ ?side1 ?side2 ?side3 ?side4 A10.out).mono ?_); (case side1 => exact qC HR0_5); (case side2 => exact HC0_5.out); (case side3 => exact qC HR1_5); (case side4 => exact HC1_5.out); rintro e w27 ⟨rfl, hb⟩; refine ⟨_, rfl, ?_⟩; replace BK335 := qbb BK335 hb; replace BK336 := qbb BK336 hb; replace HB := qHB HB hb; (try clear hb); (try clear hb2); (try clear hk); (try clear hi); have hz28 := qz8 BK335.out; have hz29 := qz8 BK336.out) | ((with_reducible refine gcl (f := 35) rfl ?_); refine goesL_ (some 42) rfl rfl Tryd.func35 (by kernel_rfl) rfl #[.slice A0_6 l0_6.length c0_6, .slice A1_6 l1_6.length c1_6] rfl qA ?_; (with_reducible refine (laws_eqItemS.calls k _ _ l0_6 _ _ l1_6 true _ ?side1 ?side2 ?side3 ?side4 A12.out).mono ?_); (case side1 => exact qC HR0_6); (case side2 => exact HC0_6.out); (case side3 => exact qC HR1_6); (case side4 => exact HC1_6.out); rintro e w30 ⟨rfl, hb⟩; refine ⟨_, rfl, ?_⟩; replace BK335 := qbb BK335 hb; replace BK336 := qbb BK336 hb; replace HB := qHB HB hb; (try clear hb); (try clear hb2); (try clear hk); (try clear hi); have hz31 := qz8 BK335.out; have hz32 := qz8 BK336.out) | ((with_reducible refine gcl (f := 36) rfl ?_); refine goesL_ (some 48) rfl rfl Tryd.func36 (by kernel_rfl) rfl #[.slice A0_7 l0_7.length c0_7, .slice A1_7 l1_7.length c1_7] rfl qA ?_; (with_reducible refine (laws_eqItemSS.calls k _ _ l0_7 _ _ l1_7 true _ ?side1 ?side2 ?side3 ?side4 A14.out).mono ?_); (case side1 => exact qC HR0_7); (case side2 => exact HC0_7.out); (case side3 => exact qC HR1_7); (case side4 => exact HC1_7.out); rintro e w33 ⟨rfl, hb⟩; refine ⟨_, rfl, ?_⟩; replace BK335 := qbb BK335 hb; replace BK336 := qbb BK336 hb; replace HB := qHB HB hb; (try clear hb); (try clear hb2); (try clear hk); (try clear hi))); go_ret; exact ⟨qR, qB⟩
                · replace c15 := Bool.eq_false_iff.mpr c15; subst c15; rw [if_neg qff] at H; obtain rfl := Option.some.inj H; go_enter Tryd.func9, Tryd.ntmps9; go_wp2_with (first | ((with_reducible refine gds (N := 2) rfl ?_); refine qbx 2 #[.int .i64 a0_0, .string a0_1, .slice A0_2 l0_2.length c0_2, .slice A0_3 l0_3.length c0_3, .string a0_4, .slice A0_5 l0_5.length c0_5, .slice A0_6 l0_6.length c0_6, .slice A0_7 l0_7.length c0_7] 35 ?_; intro gb335 hg w34 hbox hb; have BK335 := qK (hbox); have GW335 := qK ((qW : w.heap.size ≤ gb335)); have GE335 := GW335; replace HB := qHB HB hb; clear hb hbox hg) | ((with_reducible refine gds (N := 3) rfl ?_); refine qbx 3 #[.int .i64 a1_0, .string a1_1, .slice A1_2 l1_2.length c1_2, .slice A1_3 l1_3.length c1_3, .string a1_4, .slice A1_5 l1_5.length c1_5, .slice A1_6 l1_6.length c1_6, .slice A1_7 l1_7.length c1_7] 35 ?_; intro gb336 hg w35 hbox hb; have BK336 := qK (hbox); have GW336 := qK ((qW : w.heap.size ≤ gb336)); have GE336 := GW336; replace HB := qHB HB hb; have NB335_336 := qK (qlt BK335 hg); have NB336_335 := qK (qgt BK335 hg); replace BK335 := qbb BK335 hb; clear hb hbox hg; have hnb36 := NB335_336.out; have hnc36 := NB336_335.out; have hz37 := qz8 BK335.out; have hz38 := qz8 BK336.out) | ((with_reducible refine gcl (f := 33) rfl ?_); refine goesL_ (some 19) rfl rfl Tryd.func33 (by kernel_rfl) rfl #[.slice A0_2 l0_2.length c0_2, .slice A1_2 l1_2.length c1_2] rfl qA ?_; (with_reducible refine (laws_eqColumnS.calls k _ _ l0_2 _ _ l1_2 true _ ?side1 ?side2 ?side3 ?side4 A5.out).mono ?_); (case side1 => exact qC HR0_2); (case side2 => exact HC0_2.out); (case side3 => exact qC HR1_2); (case side4 => exact HC1_2.out); rintro e w39 ⟨rfl, hb⟩; refine ⟨_, rfl, ?_⟩; replace BK335 := qbb BK335 hb; replace BK336 := qbb BK336 hb; replace HB := qHB HB hb; (try clear hb); (try clear hb2); (try clear hk); (try clear hi); have hz40 := qz8 BK335.out; have hz41 := qz8 BK336.out) | ((with_reducible refine gcl (f := 34) rfl ?_); refine goesL_ (some 25) rfl rfl Tryd.func34 (by kernel_rfl) rfl #[.slice A0_3 l0_3.length c0_3, .slice A1_3 l1_3.length c1_3] rfl qA ?_; (with_reducible refine (laws_eqValueS.calls k _ _ l0_3 _ _ l1_3 true _ ?side1 ?side2 ?side3 ?side4 A7.out).mono ?_); (case side1 => exact qC HR0_3); (case side2 => exact HC0_3.out); (case side3 => exact qC HR1_3); (case side4 => exact HC1_3.out); rintro e w42 ⟨rfl, hb⟩; refine ⟨_, rfl, ?_⟩; replace BK335 := qbb BK335 hb; replace BK336 := qbb BK336 hb; replace HB := qHB HB hb; (try clear hb); (try clear hb2); (try clear hk); (try clear hi); have hz43 := qz8 BK335.out; have hz44 := qz8 BK336.out) | ((with_reducible refine gcl (f := 35) rfl ?_); refine goesL_ (some 36) rfl rfl Tryd.func35 (by kernel_rfl) rfl #[.slice A0_5 l0_5.length c0_5, .slice A1_5 l1_5.length c1_5] rfl qA ?_; (with_reducible refine (laws_eqItemS.calls k _ _ l0_5 _ _ l1_5 true _ ?side1 ?side2 ?side3 ?side4 A10.out).mono ?_); (case side1 => exact qC HR0_5); (case side2 => exact HC0_5.out); (case side3 => exact qC HR1_5); (case side4 => exact HC1_5.out); rintro e w45 ⟨rfl, hb⟩; refine ⟨_, rfl, ?_⟩; replace BK335 := qbb BK335 hb; replace BK336 := qbb BK336 hb; replace HB := qHB HB hb; (try clear hb); (try clear hb2); (try clear hk); (try clear hi); have hz46 := qz8 BK335.out; have hz47 := qz8 BK336.out) | ((with_reducible refine gcl (f := 35) rfl ?_); refine goesL_ (some 42) rfl rfl Tryd.func35 (by kernel_rfl) rfl #[.slice A0_6 l0_6.length c0_6, .slice A1_6 l1_6.length c1_6] rfl qA ?_; (with_reducible refine (laws_eqItemS.calls k _ _ l0_6 _ _ l1_6 true _ ?side1 ?side2 ?side3 ?side4 A12.out).mono ?_); (case side1 => exact qC HR0_6); (case side2 => exact HC0_6.out); (case side3 => exact qC HR1_6); (case side4 => exact HC1_6.out); rintro e w48 ⟨rfl, hb⟩; refine ⟨_, rfl, ?_⟩; replace BK335 := qbb BK335 hb; replace BK336 := qbb BK336 hb; replace HB := qHB HB hb; (try clear hb); (try clear hb2); (try clear hk); (try clear hi); have hz49 := qz8 BK335.out; have hz50 := qz8 BK336.out) | ((with_reducible refine gcl (f := 36) rfl ?_); refine goesL_ (some 48) rfl rfl Tryd.func36 (by kernel_rfl) rfl #[.slice A0_7 l0_7.length c0_7, .slice A1_7 l1_7.length c1_7] rfl qA ?_; (with_reducible refine (laws_eqItemSS.calls k _ _ l0_7 _ _ l1_7 false _ ?side1 ?side2 ?side3 ?side4 A14.out).mono ?_); (case side1 => exact qC HR0_7); (case side2 => exact HC0_7.out); (case side3 => exact qC HR1_7); (case side4 => exact HC1_7.out); rintro e w51 ⟨rfl, hb⟩; refine ⟨_, rfl, ?_⟩; replace BK335 := qbb BK335 hb; replace BK336 := qbb BK336 hb; replace HB := qHB HB hb; (try clear hb); (try clear hb2); (try clear hk); (try clear hi))); go_ret; exact ⟨qR, qB⟩
              · replace c13 := Bool.eq_false_iff.mpr c13; subst c13; rw [if_neg qff] at H; obtain rfl := Option.some.inj H; go_enter Tryd.func9, Tryd.ntmps9; go_wp2_with (first | ((with_reducible refine gds (N := 2) rfl ?_); refine qbx 2 #[.int .i64 a0_0, .string a0_1, .slice A0_2 l0_2.length c0_2, .slice A0_3 l0_3.length c0_3, .string a0_4, .slice A0_5 l0_5.length c0_5, .slice A0_6 l0_6.length c0_6, .slice A0_7 l0_7.length c0_7] 35 ?_; intro gb335 hg w52 hbox hb; have BK335 := qK (hbox); have GW335 := qK ((qW : w.heap.size ≤ gb335)); have GE335 := GW335; replace HB := qHB HB hb; clear hb hbox hg) | ((with_reducible refine gds (N := 3) rfl ?_); refine qbx 3 #[.int .i64 a1_0, .string a1_1, .slice A1_2 l1_2.length c1_2, .slice A1_3 l1_3.length c1_3, .string a1_4, .slice A1_5 l1_5.length c1_5, .slice A1_6 l1_6.length c1_6, .slice A1_7 l1_7.length c1_7] 35 ?_; intro gb336 hg w53 hbox hb; have BK336 := qK (hbox); have GW336 := qK ((qW : w.heap.size ≤ gb336)); have GE336 := GW336; replace HB := qHB HB hb; have NB335_336 := qK (qlt BK335 hg); have NB336_335 := qK (qgt BK335 hg); replace BK335 := qbb BK335 hb; clear hb hbox hg; have hnb54 := NB335_336.out; have hnc54 := NB336_335.out; have hz55 := qz8 BK335.out; have hz56 := qz8 BK336.out) | ((with_reducible refine gcl (f := 33) rfl ?_); refine goesL_ (some 19) rfl rfl Tryd.func33 (by kernel_rfl) rfl #[.slice A0_2 l0_2.length c0_2, .slice A1_2 l1_2.length c1_2] rfl qA ?_; (with_reducible refine (laws_eqColumnS.calls k _ _ l0_2 _ _ l1_2 true _ ?side1 ?side2 ?side3 ?side4 A5.out).mono ?_); (case side1 => exact qC HR0_2); (case side2 => exact HC0_2.out); (case side3 => exact qC HR1_2); (case side4 => exact HC1_2.out); rintro e w57 ⟨rfl, hb⟩; refine ⟨_, rfl, ?_⟩; replace BK335 := qbb BK335 hb; replace BK336 := qbb BK336 hb; replace HB := qHB HB hb; (try clear hb); (try clear hb2); (try clear hk); (try clear hi); have hz58 := qz8 BK335.out; have hz59 := qz8 BK336.out) | ((with_reducible refine gcl (f := 34) rfl ?_); refine goesL_ (some 25) rfl rfl Tryd.func34 (by kernel_rfl) rfl #[.slice A0_3 l0_3.length c0_3, .slice A1_3 l1_3.length c1_3] rfl qA ?_; (with_reducible refine (laws_eqValueS.calls k _ _ l0_3 _ _ l1_3 true _ ?side1 ?side2 ?side3 ?side4 A7.out).mono ?_); (case side1 => exact qC HR0_3); (case side2 => exact HC0_3.out); (case side3 => exact qC HR1_3); (case side4 => exact HC1_3.out); rintro e w60 ⟨rfl, hb⟩; refine ⟨_, rfl, ?_⟩; replace BK335 := qbb BK335 hb; replace BK336 := qbb BK336 hb; replace HB := qHB HB hb; (try clear hb); (try clear hb2); (try clear hk); (try clear hi); have hz61 := qz8 BK335.out; have hz62 := qz8 BK336.out) | ((with_reducible refine gcl (f := 35) rfl ?_); refine goesL_ (some 36) rfl rfl Tryd.func35 (by kernel_rfl) rfl #[.slice A0_5 l0_5.length c0_5, .slice A1_5 l1_5.length c1_5] rfl qA ?_; (with_reducible refine (laws_eqItemS.calls k _ _ l0_5 _ _ l1_5 true _ ?side1 ?side2 ?side3 ?side4 A10.out).mono ?_); (case side1 => exact qC HR0_5); (case side2 => exact HC0_5.out); (case side3 => exact qC HR1_5); (case side4 => exact HC1_5.out); rintro e w63 ⟨rfl, hb⟩; refine ⟨_, rfl, ?_⟩; replace BK335 := qbb BK335 hb; replace BK336 := qbb BK336 hb; replace HB := qHB HB hb; (try clear hb); (try clear hb2); (try clear hk); (try clear hi); have hz64 := qz8 BK335.out; have hz65 := qz8 BK336.out) | ((with_reducible refine gcl (f := 35) rfl ?_); refine goesL_ (some 42) rfl rfl Tryd.func35 (by kernel_rfl) rfl #[.slice A0_6 l0_6.length c0_6, .slice A1_6 l1_6.length c1_6] rfl qA ?_; (with_reducible refine (laws_eqItemS.calls k _ _ l0_6 _ _ l1_6 false _ ?side1 ?side2 ?side3 ?side4 A12.out).mono ?_); (case side1 => exact qC HR0_6); (case side2 => exact HC0_6.out); (case side3 => exact qC HR1_6); (case side4 => exact HC1_6.out); rintro e w66 ⟨rfl, hb⟩; refine ⟨_, rfl, ?_⟩; replace BK335 := qbb BK335 hb; replace BK336 := qbb BK336 hb; replace HB := qHB HB hb; (try clear hb); (try clear hb2); (try clear hk); (try clear hi))); go_ret; exact ⟨qR, qB⟩
            · replace c11 := Bool.eq_false_iff.mpr c11; subst c11; rw [if_neg qff] at H; obtain rfl := Option.some.inj H; go_enter Tryd.func9, Tryd.ntmps9; go_wp2_with (first | ((with_reducible refine gds (N := 2) rfl ?_); refine qbx 2 #[.int .i64 a0_0, .string a0_1, .slice A0_2 l0_2.length c0_2, .slice A0_3 l0_3.length c0_3, .string a0_4, .slice A0_5 l0_5.length c0_5, .slice A0_6 l0_6.length c0_6, .slice A0_7 l0_7.length c0_7] 35 ?_; intro gb335 hg w67 hbox hb; have BK335 := qK (hbox); have GW335 := qK ((qW : w.heap.size ≤ gb335)); have GE335 := GW335; replace HB := qHB HB hb; clear hb hbox hg) | ((with_reducible refine gds (N := 3) rfl ?_); refine qbx 3 #[.int .i64 a1_0, .string a1_1, .slice A1_2 l1_2.length c1_2, .slice A1_3 l1_3.length c1_3, .string a1_4, .slice A1_5 l1_5.length c1_5, .slice A1_6 l1_6.length c1_6, .slice A1_7 l1_7.length c1_7] 35 ?_; intro gb336 hg w68 hbox hb; have BK336 := qK (hbox); have GW336 := qK ((qW : w.heap.size ≤ gb336)); have GE336 := GW336; replace HB := qHB HB hb; have NB335_336 := qK (qlt BK335 hg); have NB336_335 := qK (qgt BK335 hg); replace BK335 := qbb BK335 hb; clear hb hbox hg; have hnb69 := NB335_336.out; have hnc69 := NB336_335.out; have hz70 := qz8 BK335.out; have hz71 := qz8 BK336.out) | ((with_reducible refine gcl (f := 33) rfl ?_); refine goesL_ (some 19) rfl rfl Tryd.func33 (by kernel_rfl) rfl #[.slice A0_2 l0_2.length c0_2, .slice A1_2 l1_2.length c1_2] rfl qA ?_; (with_reducible refine (laws_eqColumnS.calls k _ _ l0_2 _ _ l1_2 true _ ?side1 ?side2 ?side3 ?side4 A5.out).mono ?_); (case side1 => exact qC HR0_2); (case side2 => exact HC0_2.out); (case side3 => exact qC HR1_2); (case side4 => exact HC1_2.out); rintro e w72 ⟨rfl, hb⟩; refine ⟨_, rfl, ?_⟩; replace BK335 := qbb BK335 hb; replace BK336 := qbb BK336 hb; replace HB := qHB HB hb; (try clear hb); (try clear hb2); (try clear hk); (try clear hi); have hz73 := qz8 BK335.out; have hz74 := qz8 BK336.out) | ((with_reducible refine gcl (f := 34) rfl ?_); refine goesL_ (some 25) rfl rfl Tryd.func34 (by kernel_rfl) rfl #[.slice A0_3 l0_3.length c0_3, .slice A1_3 l1_3.length c1_3] rfl qA ?_; (with_reducible refine (laws_eqValueS.calls k _ _ l0_3 _ _ l1_3 true _ ?side1 ?side2 ?side3 ?side4 A7.out).mono ?_); (case side1 => exact qC HR0_3); (case side2 => exact HC0_3.out); (case side3 => exact qC HR1_3); (case side4 => exact HC1_3.out); rintro e w75 ⟨rfl, hb⟩; refine ⟨_, rfl, ?_⟩; replace BK335 := qbb BK335 hb; replace BK336 := qbb BK336 hb; replace HB := qHB HB hb; (try clear hb); (try clear hb2); (try clear hk); (try clear hi); have hz76 := qz8 BK335.out; have hz77 := qz8 BK336.out) | ((with_reducible refine gcl (f := 35) rfl ?_); refine goesL_ (some 36) rfl rfl Tryd.func35 (by kernel_rfl) rfl #[.slice A0_5 l0_5.length c0_5, .slice A1_5 l1_5.length c1_5] rfl qA ?_; (with_reducible refine (laws_eqItemS.calls k _ _ l0_5 _ _ l1_5 false _ ?side1 ?side2 ?side3 ?side4 A10.out).mono ?_); (case side1 => exact qC HR0_5); (case side2 => exact HC0_5.out); (case side3 => exact qC HR1_5); (case side4 => exact HC1_5.out); rintro e w78 ⟨rfl, hb⟩; refine ⟨_, rfl, ?_⟩; replace BK335 := qbb BK335 hb; replace BK336 := qbb BK336 hb; replace HB := qHB HB hb; (try clear hb); (try clear hb2); (try clear hk); (try clear hi))); go_ret; exact ⟨qR, qB⟩
          · rw [if_neg c9] at H; have c9b0 : (a0_4.toList == a1_4.toList) = false := beq_eq_false_iff_ne.mpr c9; have c9b1 : (a0_4.toList != a1_4.toList) = true := bne_iff_ne.mpr c9; obtain rfl := Option.some.inj H; go_enter Tryd.func9, Tryd.ntmps9; go_wp2_with (first | ((with_reducible refine gds (N := 2) rfl ?_); refine qbx 2 #[.int .i64 a0_0, .string a0_1, .slice A0_2 l0_2.length c0_2, .slice A0_3 l0_3.length c0_3, .string a0_4, .slice A0_5 l0_5.length c0_5, .slice A0_6 l0_6.length c0_6, .slice A0_7 l0_7.length c0_7] 35 ?_; intro gb335 hg w79 hbox hb; have BK335 := qK (hbox); have GW335 := qK ((qW : w.heap.size ≤ gb335)); have GE335 := GW335; replace HB := qHB HB hb; clear hb hbox hg) | ((with_reducible refine gds (N := 3) rfl ?_); refine qbx 3 #[.int .i64 a1_0, .string a1_1, .slice A1_2 l1_2.length c1_2, .slice A1_3 l1_3.length c1_3, .string a1_4, .slice A1_5 l1_5.length c1_5, .slice A1_6 l1_6.length c1_6, .slice A1_7 l1_7.length c1_7] 35 ?_; intro gb336 hg w80 hbox hb; have BK336 := qK (hbox); have GW336 := qK ((qW : w.heap.size ≤ gb336)); have GE336 := GW336; replace HB := qHB HB hb; have NB335_336 := qK (qlt BK335 hg); have NB336_335 := qK (qgt BK335 hg); replace BK335 := qbb BK335 hb; clear hb hbox hg; have hnb81 := NB335_336.out; have hnc81 := NB336_335.out; have hz82 := qz8 BK335.out; have hz83 := qz8 BK336.out) | ((with_reducible refine gcl (f := 33) rfl ?_); refine goesL_ (some 19) rfl rfl Tryd.func33 (by kernel_rfl) rfl #[.slice A0_2 l0_2.length c0_2, .slice A1_2 l1_2.length c1_2] rfl qA ?_; (with_reducible refine (laws_eqColumnS.calls k _ _ l0_2 _ _ l1_2 true _ ?side1 ?side2 ?side3 ?side4 A5.out).mono ?_); (case side1 => exact qC HR0_2); (case side2 => exact HC0_2.out); (case side3 => exact qC HR1_2); (case side4 => exact HC1_2.out); rintro e w84 ⟨rfl, hb⟩; refine ⟨_, rfl, ?_⟩; replace BK335 := qbb BK335 hb; replace BK336 := qbb BK336 hb; replace HB := qHB HB hb; (try clear hb); (try clear hb2); (try clear hk); (try clear hi); have hz85 := qz8 BK335.out; have hz86 := qz8 BK336.out) | ((with_reducible refine gcl (f := 34) rfl ?_); refine goesL_ (some 25) rfl rfl Tryd.func34 (by kernel_rfl) rfl #[.slice A0_3 l0_3.length c0_3, .slice A1_3 l1_3.length c1_3] rfl qA ?_; (with_reducible refine (laws_eqValueS.calls k _ _ l0_3 _ _ l1_3 true _ ?side1 ?side2 ?side3 ?side4 A7.out).mono ?_); (case side1 => exact qC HR0_3); (case side2 => exact HC0_3.out); (case side3 => exact qC HR1_3); (case side4 => exact HC1_3.out); rintro e w87 ⟨rfl, hb⟩; refine ⟨_, rfl, ?_⟩; replace BK335 := qbb BK335 hb; replace BK336 := qbb BK336 hb; replace HB := qHB HB hb; (try clear hb); (try clear hb2); (try clear hk); (try clear hi); have hz88 := qz8 BK335.out; have hz89 := qz8 BK336.out)); go_ret; exact ⟨qR, qB⟩
        · replace c8 := Bool.eq_false_iff.mpr c8; subst c8; rw [if_neg qff] at H; obtain rfl := Option.some.inj H; go_enter Tryd.func9, Tryd.ntmps9; go_wp2_with (first | ((with_reducible refine gds (N := 2) rfl ?_); refine qbx 2 #[.int .i64 a0_0, .string a0_1, .slice A0_2 l0_2.length c0_2, .slice A0_3 l0_3.length c0_3, .string a0_4, .slice A0_5 l0_5.length c0_5, .slice A0_6 l0_6.length c0_6, .slice A0_7 l0_7.length c0_7] 35 ?_; intro gb335 hg w90 hbox hb; have BK335 := qK (hbox); have GW335 := qK ((qW : w.heap.size ≤ gb335)); have GE335 := GW335; replace HB := qHB HB hb; clear hb hbox hg) | ((with_reducible refine gds (N := 3) rfl ?_); refine qbx 3 #[.int .i64 a1_0, .string a1_1, .slice A1_2 l1_2.length c1_2, .slice A1_3 l1_3.length c1_3, .string a1_4, .slice A1_5 l1_5.length c1_5, .slice A1_6 l1_6.length c1_6, .slice A1_7 l1_7.length c1_7] 35 ?_; intro gb336 hg w91 hbox hb; have BK336 := qK (hbox); have GW336 := qK ((qW : w.heap.size ≤ gb336)); have GE336 := GW336; replace HB := qHB HB hb; have NB335_336 := qK (qlt BK335 hg); have NB336_335 := qK (qgt BK335 hg); replace BK335 := qbb BK335 hb; clear hb hbox hg; have hnb92 := NB335_336.out; have hnc92 := NB336_335.out; have hz93 := qz8 BK335.out; have hz94 := qz8 BK336.out) | ((with_reducible refine gcl (f := 33) rfl ?_); refine goesL_ (some 19) rfl rfl Tryd.func33 (by kernel_rfl) rfl #[.slice A0_2 l0_2.length c0_2, .slice A1_2 l1_2.length c1_2] rfl qA ?_; (with_reducible refine (laws_eqColumnS.calls k _ _ l0_2 _ _ l1_2 true _ ?side1 ?side2 ?side3 ?side4 A5.out).mono ?_); (case side1 => exact qC HR0_2); (case side2 => exact HC0_2.out); (case side3 => exact qC HR1_2); (case side4 => exact HC1_2.out); rintro e w95 ⟨rfl, hb⟩; refine ⟨_, rfl, ?_⟩; replace BK335 := qbb BK335 hb; replace BK336 := qbb BK336 hb; replace HB := qHB HB hb; (try clear hb); (try clear hb2); (try clear hk); (try clear hi); have hz96 := qz8 BK335.out; have hz97 := qz8 BK336.out) | ((with_reducible refine gcl (f := 34) rfl ?_); refine goesL_ (some 25) rfl rfl Tryd.func34 (by kernel_rfl) rfl #[.slice A0_3 l0_3.length c0_3, .slice A1_3 l1_3.length c1_3] rfl qA ?_; (with_reducible refine (laws_eqValueS.calls k _ _ l0_3 _ _ l1_3 false _ ?side1 ?side2 ?side3 ?side4 A7.out).mono ?_); (case side1 => exact qC HR0_3); (case side2 => exact HC0_3.out); (case side3 => exact qC HR1_3); (case side4 => exact HC1_3.out); rintro e w98 ⟨rfl, hb⟩; refine ⟨_, rfl, ?_⟩; replace BK335 := qbb BK335 hb; replace BK336 := qbb BK336 hb; replace HB := qHB HB hb; (try clear hb); (try clear hb2); (try clear hk); (try clear hi))); go_ret; exact ⟨qR, qB⟩
      · replace c6 := Bool.eq_false_iff.mpr c6; subst c6; rw [if_neg qff] at H; obtain rfl := Option.some.inj H; go_enter Tryd.func9, Tryd.ntmps9; go_wp2_with (first | ((with_reducible refine gds (N := 2) rfl ?_); refine qbx 2 #[.int .i64 a0_0, .string a0_1, .slice A0_2 l0_2.length c0_2, .slice A0_3 l0_3.length c0_3, .string a0_4, .slice A0_5 l0_5.length c0_5, .slice A0_6 l0_6.length c0_6, .slice A0_7 l0_7.length c0_7] 35 ?_; intro gb335 hg w99 hbox hb; have BK335 := qK (hbox); have GW335 := qK ((qW : w.heap.size ≤ gb335)); have GE335 := GW335; replace HB := qHB HB hb; clear hb hbox hg) | ((with_reducible refine gds (N := 3) rfl ?_); refine qbx 3 #[.int .i64 a1_0, .string a1_1, .slice A1_2 l1_2.length c1_2, .slice A1_3 l1_3.length c1_3, .string a1_4, .slice A1_5 l1_5.length c1_5, .slice A1_6 l1_6.length c1_6, .slice A1_7 l1_7.length c1_7] 35 ?_; intro gb336 hg w100 hbox hb; have BK336 := qK (hbox); have GW336 := qK ((qW : w.heap.size ≤ gb336)); have GE336 := GW336; replace HB := qHB HB hb; have NB335_336 := qK (qlt BK335 hg); have NB336_335 := qK (qgt BK335 hg); replace BK335 := qbb BK335 hb; clear hb hbox hg; have hnb101 := NB335_336.out; have hnc101 := NB336_335.out; have hz102 := qz8 BK335.out; have hz103 := qz8 BK336.out) | ((with_reducible refine gcl (f := 33) rfl ?_); refine goesL_ (some 19) rfl rfl Tryd.func33 (by kernel_rfl) rfl #[.slice A0_2 l0_2.length c0_2, .slice A1_2 l1_2.length c1_2] rfl qA ?_; (with_reducible refine (laws_eqColumnS.calls k _ _ l0_2 _ _ l1_2 false _ ?side1 ?side2 ?side3 ?side4 A5.out).mono ?_); (case side1 => exact qC HR0_2); (case side2 => exact HC0_2.out); (case side3 => exact qC HR1_2); (case side4 => exact HC1_2.out); rintro e w104 ⟨rfl, hb⟩; refine ⟨_, rfl, ?_⟩; replace BK335 := qbb BK335 hb; replace BK336 := qbb BK336 hb; replace HB := qHB HB hb; (try clear hb); (try clear hb2); (try clear hk); (try clear hi))); go_ret; exact ⟨qR, qB⟩
    · rw [if_neg c4] at H; have c4b0 : (a0_1.toList == a1_1.toList) = false := beq_eq_false_iff_ne.mpr c4; have c4b1 : (a0_1.toList != a1_1.toList) = true := bne_iff_ne.mpr c4; obtain rfl := Option.some.inj H; go_enter Tryd.func9, Tryd.ntmps9; go_wp2_with (first | ((with_reducible refine gds (N := 2) rfl ?_); refine qbx 2 #[.int .i64 a0_0, .string a0_1, .slice A0_2 l0_2.length c0_2, .slice A0_3 l0_3.length c0_3, .string a0_4, .slice A0_5 l0_5.length c0_5, .slice A0_6 l0_6.length c0_6, .slice A0_7 l0_7.length c0_7] 35 ?_; intro gb335 hg w105 hbox hb; have BK335 := qK (hbox); have GW335 := qK ((qW : w.heap.size ≤ gb335)); have GE335 := GW335; replace HB := qHB HB hb; clear hb hbox hg) | ((with_reducible refine gds (N := 3) rfl ?_); refine qbx 3 #[.int .i64 a1_0, .string a1_1, .slice A1_2 l1_2.length c1_2, .slice A1_3 l1_3.length c1_3, .string a1_4, .slice A1_5 l1_5.length c1_5, .slice A1_6 l1_6.length c1_6, .slice A1_7 l1_7.length c1_7] 35 ?_; intro gb336 hg w106 hbox hb; have BK336 := qK (hbox); have GW336 := qK ((qW : w.heap.size ≤ gb336)); have GE336 := GW336; replace HB := qHB HB hb; have NB335_336 := qK (qlt BK335 hg); have NB336_335 := qK (qgt BK335 hg); replace BK335 := qbb BK335 hb; clear hb hbox hg; have hnb107 := NB335_336.out; have hnc107 := NB336_335.out; have hz108 := qz8 BK335.out; have hz109 := qz8 BK336.out)); go_ret; exact ⟨qR, qB⟩
  · rw [if_neg c3] at H; have c3b0 : (a0_0 == a1_0) = false := beq_eq_false_iff_ne.mpr c3; have c3b1 : (a0_0 != a1_0) = true := bne_iff_ne.mpr c3; obtain rfl := Option.some.inj H; go_enter Tryd.func9, Tryd.ntmps9; go_wp2_with (first | ((with_reducible refine gds (N := 2) rfl ?_); refine qbx 2 #[.int .i64 a0_0, .string a0_1, .slice A0_2 l0_2.length c0_2, .slice A0_3 l0_3.length c0_3, .string a0_4, .slice A0_5 l0_5.length c0_5, .slice A0_6 l0_6.length c0_6, .slice A0_7 l0_7.length c0_7] 35 ?_; intro gb335 hg w110 hbox hb; have BK335 := qK (hbox); have GW335 := qK ((qW : w.heap.size ≤ gb335)); have GE335 := GW335; replace HB := qHB HB hb; clear hb hbox hg) | ((with_reducible refine gds (N := 3) rfl ?_); refine qbx 3 #[.int .i64 a1_0, .string a1_1, .slice A1_2 l1_2.length c1_2, .slice A1_3 l1_3.length c1_3, .string a1_4, .slice A1_5 l1_5.length c1_5, .slice A1_6 l1_6.length c1_6, .slice A1_7 l1_7.length c1_7] 35 ?_; intro gb336 hg w111 hbox hb; have BK336 := qK (hbox); have GW336 := qK ((qW : w.heap.size ≤ gb336)); have GE336 := GW336; replace HB := qHB HB hb; have NB335_336 := qK (qlt BK335 hg); have NB336_335 := qK (qgt BK335 hg); replace BK335 := qbb BK335 hb; clear hb hbox hg; have hnb112 := NB335_336.out; have hnc112 := NB336_335.out; have hz113 := qz8 BK335.out; have hz114 := qz8 BK336.out)); go_ret; exact ⟨qR, qB⟩
def laws_FnExactEncodeStm.f (k : Nat) (a0_0 : Int) (a0_1 : ByteArray) (l0_2 : List (S77)) (l0_3 : List (S79)) (a0_4 : ByteArray) (l0_5 : List (S82)) (l0_6 : List (S82)) (l0_7 : List (List (S82))) : Option (Bool) := (laws_szStm.f k a0_0 a0_1 l0_2 l0_3 a0_4 l0_5 l0_6 l0_7 1048576).bind fun t343 => (if t343 < 0 then (some true) else ((laws_toStm.f k a0_0 a0_1 l0_2 l0_3 a0_4 l0_5 l0_6 l0_7).bind fun bt344 => ((spec_EncodeStm.f k bt344.1 bt344.2.1 bt344.2.2.1 bt344.2.2.2.1 bt344.2.2.2.2.1 bt344.2.2.2.2.2.1 bt344.2.2.2.2.2.2.1 bt344.2.2.2.2.2.2.2).bind fun t362 => ((laws_toStm.f k a0_0 a0_1 l0_2 l0_3 a0_4 l0_5 l0_6 l0_7).bind fun bt363 => ((impl_EncodeStm.f k bt363.1 bt363.2.1 bt363.2.2.1 bt363.2.2.2.1 bt363.2.2.2.2.1 bt363.2.2.2.2.2.1 bt363.2.2.2.2.2.2.1 bt363.2.2.2.2.2.2.2).bind fun t382 => (if t382.toList = t362.toList then ((laws_toStm.f k a0_0 a0_1 l0_2 l0_3 a0_4 l0_5 l0_6 l0_7).bind fun bt383 => ((laws_eqStm.f k bt363.1 bt363.2.1 bt363.2.2.1 bt363.2.2.2.1 bt363.2.2.2.2.1 bt363.2.2.2.2.2.1 bt363.2.2.2.2.2.2.1 bt363.2.2.2.2.2.2.2 bt383.1 bt383.2.1 bt383.2.2.1 bt383.2.2.2.1 bt383.2.2.2.2.1 bt383.2.2.2.2.2.1 bt383.2.2.2.2.2.2.1 bt383.2.2.2.2.2.2.2).bind fun t401 => (if t401 = true then (some true) else (some false)))) else (some false)))))))
theorem laws_FnExactEncodeStm.mono : ∀ a0 a1 a2 a3 a4 a5 a6 a7 k, LeO (laws_FnExactEncodeStm.f k a0 a1 a2 a3 a4 a5 a6 a7) (laws_FnExactEncodeStm.f (k + 1) a0 a1 a2 a3 a4 a5 a6 a7) := by
  intro a0 a1 a2 a3 a4 a5 a6 a7 k
  unfold laws_FnExactEncodeStm.f
  repeat' first
      | (with_reducible exact impl_EncodeStm.mono _ _ _ _ _ _ _ _ _)
      | (with_reducible exact laws_eqStm.mono _ _ _ _ _ _ _ _ _ _ _ _ _ _ _ _ _)
      | (with_reducible exact laws_szStm.mono _ _ _ _ _ _ _ _ _ _)
      | (with_reducible exact laws_toStm.mono _ _ _ _ _ _ _ _ _)
      | (with_reducible exact spec_EncodeStm.mono _ _ _ _ _ _ _ _ _)
      | (with_reducible exact LeO.refl _)
      | (with_reducible exact LeO.none _)
      | (with_reducible refine LeO.ite ?_ ?_)
      | (with_reducible refine LeO.bind ?_ (fun _ => ?_))
      | exact impl_EncodeStm.mono _ _ _ _ _ _ _ _ _
      | exact laws_eqStm.mono _ _ _ _ _ _ _ _ _ _ _ _ _ _ _ _ _
      | exact laws_szStm.mono _ _ _ _ _ _ _ _ _ _
      | exact laws_toStm.mono _ _ _ _ _ _ _ _ _
      | exact spec_EncodeStm.mono _ _ _ _ _ _ _ _ _
      | exact LeO.none _
      | refine LeO.ite ?_ ?_
      | refine LeO.bind ?_ (fun _ => ?_)
set_option maxHeartbeats 8000000 in
set_option maxRecDepth 100000 in
theorem laws_FnExactEncodeStm.calls (k : Nat) (a0_0 : Int) (a0_1 : ByteArray) (A0_2 : Option Addr) (c0_2 : Nat) (l0_2 : List (S77)) (A0_3 : Option Addr) (c0_3 : Nat) (l0_3 : List (S79)) (a0_4 : ByteArray) (A0_5 : Option Addr) (c0_5 : Nat) (l0_5 : List (S82)) (A0_6 : Option Addr) (c0_6 : Nat) (l0_6 : List (S82)) (A0_7 : Option Addr) (c0_7 : Nat) (l0_7 : List (List (S82))) (r : Bool) (hT : r = true) (w : World) (hG : GOK w) (hr0_2 : Kd.C k77 w A0_2 l0_2.length l0_2) (hc0_2 : l0_2.length ≤ c0_2) (hr0_3 : Kd.C k79 w A0_3 l0_3.length l0_3) (hc0_3 : l0_3.length ≤ c0_3) (hr0_5 : Kd.C k82 w A0_5 l0_5.length l0_5) (hc0_5 : l0_5.length ≤ c0_5) (hr0_6 : Kd.C k82 w A0_6 l0_6.length l0_6) (hc0_6 : l0_6.length ≤ c0_6) (hr0_7 : Kd.C (Kd.slice 82 k82) w A0_7 l0_7.length l0_7) (hc0_7 : l0_7.length ≤ c0_7) (h : laws_FnExactEncodeStm.f k a0_0 a0_1 l0_2 l0_3 a0_4 l0_5 l0_6 l0_7 = some r) :
    Calls Tryd.prog 3 #[.agg #[.int .i64 a0_0, .string a0_1, .slice A0_2 l0_2.length c0_2, .slice A0_3 l0_3.length c0_3, .string a0_4, .slice A0_5 l0_5.length c0_5, .slice A0_6 l0_6.length c0_6, .slice A0_7 l0_7.length c0_7]] w fun e w' => e = .returned (.bool r) ∧ Below w.heap.size w w' := by
  have hu27 := Tryd.underlying27; have hu35 := Tryd.underlying35; have HR0_2 := qK hr0_2; have HC0_2 := qK hc0_2; clear hr0_2 hc0_2; have HR0_3 := qK hr0_3; have HC0_3 := qK hc0_3; clear hr0_3 hc0_3; have HR0_5 := qK hr0_5; have HC0_5 := qK hc0_5; clear hr0_5 hc0_5; have HR0_6 := qK hr0_6; have HC0_6 := qK hc0_6; clear hr0_6 hc0_6; have HR0_7 := qK hr0_7; have HC0_7 := qK hc0_7; clear hr0_7 hc0_7; have HB := qK (Below.refl w.heap.size w); have H : ((laws_szStm.f k a0_0 a0_1 l0_2 l0_3 a0_4 l0_5 l0_6 l0_7 1048576).bind fun t343 => (if t343 < 0 then (some true) else ((laws_toStm.f k a0_0 a0_1 l0_2 l0_3 a0_4 l0_5 l0_6 l0_7).bind fun bt344 => ((spec_EncodeStm.f k bt344.1 bt344.2.1 bt344.2.2.1 bt344.2.2.2.1 bt344.2.2.2.2.1 bt344.2.2.2.2.2.1 bt344.2.2.2.2.2.2.1 bt344.2.2.2.2.2.2.2).bind fun t362 => ((laws_toStm.f k a0_0 a0_1 l0_2 l0_3 a0_4 l0_5 l0_6 l0_7).bind fun bt363 => ((impl_EncodeStm.f k bt363.1 bt363.2.1 bt363.2.2.1 bt363.2.2.2.1 bt363.2.2.2.2.1 bt363.2.2.2.2.2.1 bt363.2.2.2.2.2.2.1 bt363.2.2.2.2.2.2.2).bind fun t382 => (if t382.toList = t362.toList then ((laws_toStm.f k a0_0 a0_1 l0_2 l0_3 a0_4 l0_5 l0_6 l0_7).bind fun bt383 => ((laws_eqStm.f k bt363.1 bt363.2.1 bt363.2.2.1 bt363.2.2.2.1 bt363.2.2.2.2.1 bt363.2.2.2.2.2.1 bt363.2.2.2.2.2.2.1 bt363.2.2.2.2.2.2.2 bt383.1 bt383.2.1 bt383.2.2.1 bt383.2.2.2.1 bt383.2.2.2.2.1 bt383.2.2.2.2.2.1 bt383.2.2.2.2.2.2.1 bt383.2.2.2.2.2.2.2).bind fun t401 => (if t401 = true then (some true) else (some false)))) else (some false)))))))) = some r := h; clear h; replace H := Option.bind_eq_some_iff.mp H; obtain ⟨t343, A20, H⟩ := H; have A2 := qK A20; clear A20; by_cases c3 : t343 < 0
  · rw [if_pos c3] at H; have c3b0 : decide (t343 < 0) = true := decide_eq_true c3; clear c3; obtain rfl := Option.some.inj H; go_enter Tryd.func3, Tryd.ntmps3; go_wp2_with (first | ((with_reducible refine gds (N := 1) rfl ?_); refine qbx 1 #[.int .i64 a0_0, .string a0_1, .slice A0_2 l0_2.length c0_2, .slice A0_3 l0_3.length c0_3, .string a0_4, .slice A0_5 l0_5.length c0_5, .slice A0_6 l0_6.length c0_6, .slice A0_7 l0_7.length c0_7] 27 ?_; intro gb342 hg w4 hbox hb; have BK342 := qK (hbox); have GW342 := qK ((qW : w.heap.size ≤ gb342)); have GE342 := GW342; replace HB := qHB HB hb; clear hb hbox hg; have hz5 := qz8 BK342.out) | ((with_reducible refine gcl (f := 5) rfl ?_); refine goesL_ (some 9) rfl rfl Tryd.func5 (by kernel_rfl) rfl #[.agg #[.int .i64 a0_0, .string a0_1, .slice A0_2 l0_2.length c0_2, .slice A0_3 l0_3.length c0_3, .string a0_4, .slice A0_5 l0_5.length c0_5, .slice A0_6 l0_6.length c0_6, .slice A0_7 l0_7.length c0_7], .int .i64 1048576] rfl qA ?_; (with_reducible refine (laws_szStm.calls k a0_0 a0_1 _ _ l0_2 _ _ l0_3 a0_4 _ _ l0_5 _ _ l0_6 _ _ l0_7 1048576 t343 _ ?side1 ?side2 ?side3 ?side4 ?side5 ?side6 ?side7 ?side8 ?side9 ?side10 A2.out).mono ?_); (case side1 => exact qC HR0_2); (case side2 => exact HC0_2.out); (case side3 => exact qC HR0_3); (case side4 => exact HC0_3.out); (case side5 => exact qC HR0_5); (case side6 => exact HC0_5.out); (case side7 => exact qC HR0_6); (case side8 => exact HC0_6.out); (case side9 => exact qC HR0_7); (case side10 => exact HC0_7.out); rintro e w6 ⟨rfl, hb⟩; refine ⟨_, rfl, ?_⟩; replace BK342 := qbb BK342 hb; replace HB := qHB HB hb; (try clear hb); (try clear hb2); (try clear hk); (try clear hi))); go_ret; exact ⟨qR, qB⟩
  · rw [if_neg c3] at H; have c3b0 : decide (t343 < 0) = false := decide_eq_false c3; clear c3; replace H := Option.bind_eq_some_iff.mp H; obtain ⟨⟨t344, t345, t346, t349, t352, t353, t356, t359⟩, A70, H⟩ := H; have A7 := qK A70; clear A70; replace H := Option.bind_eq_some_iff.mp H; obtain ⟨t362, A80, H⟩ := H; have A8 := qK A80; clear A80; replace H := Option.bind_eq_some_iff.mp H; obtain ⟨⟨t363, t364, t365, t368, t371, t372, t375, t378⟩, A90, H⟩ := H; have A9 := qK A90; clear A90; replace H := Option.bind_eq_some_iff.mp H; obtain ⟨t382, A100, H⟩ := H; have A10 := qK A100; clear A100; by_cases c11 : t382.toList = t362.toList
    · rw [if_pos c11] at H; have c11b0 : (t382.toList == t362.toList) = true := beq_iff_eq.mpr c11; have c11b1 : (t382.toList != t362.toList) = false := bne_eq_false_iff_eq.mpr c11; clear c11; replace H := Option.bind_eq_some_iff.mp H; obtain ⟨⟨t383, t384, t385, t388, t391, t392, t395, t398⟩, A120, H⟩ := H; have A12 := qK A120; clear A120; replace H := Option.bind_eq_some_iff.mp H; obtain ⟨t401, A130, H⟩ := H; have A13 := qK A130; clear A130; by_cases c14 : t401 = true
      · subst c14; rw [if_pos rfl] at H; obtain rfl := Option.some.inj H; go_enter Tryd.func3, Tryd.ntmps3; (try go_wp2_with (first | ((with_reducible refine gds (N := 1) rfl ?_); refine qbx 1 #[.int .i64 a0_0, .string a0_1, .slice A0_2 l0_2.length c0_2, .slice A0_3 l0_3.length c0_3, .string a0_4, .slice A0_5 l0_5.length c0_5, .slice A0_6 l0_6.length c0_6, .slice A0_7 l0_7.length c0_7] 27 ?_; intro gb342 hg w15 hbox hb; have BK342 := qK (hbox); have GW342 := qK ((qW : w.heap.size ≤ gb342)); have GE342 := GW342; replace HB := qHB HB hb; clear hb hbox hg; have hz16 := qz8 BK342.out) | ((with_reducible refine gcl (f := 5) rfl ?_); refine goesL_ (some 9) rfl rfl Tryd.func5 (by kernel_rfl) rfl #[.agg #[.int .i64 a0_0, .string a0_1, .slice A0_2 l0_2.length c0_2, .slice A0_3 l0_3.length c0_3, .string a0_4, .slice A0_5 l0_5.length c0_5, .slice A0_6 l0_6.length c0_6, .slice A0_7 l0_7.length c0_7], .int .i64 1048576] rfl qA ?_; (with_reducible refine (laws_szStm.calls k a0_0 a0_1 _ _ l0_2 _ _ l0_3 a0_4 _ _ l0_5 _ _ l0_6 _ _ l0_7 1048576 t343 _ ?side1 ?side2 ?side3 ?side4 ?side5 ?side6 ?side7 ?side8 ?side9 ?side10 A2.out).mono ?_); (case side1 => exact qC HR0_2); (case side2 => exact HC0_2.out); (case side3 => exact qC HR0_3); (case side4 => exact HC0_3.out); (case side5 => exact qC HR0_5); (case side6 => exact HC0_5.out); (case side7 => exact qC HR0_6); (case side8 => exact HC0_6.out); (case side9 => exact qC HR0_7); (case side10 => exact HC0_7.out); rintro e w17 ⟨rfl, hb⟩; refine ⟨_, rfl, ?_⟩; replace BK342 := qbb BK342 hb; replace HB := qHB HB hb; (try clear hb); (try clear hb2); (try clear hk); (try clear hi); have hz18 := qz8 BK342.out) | ((with_reducible refine gcl (f := 7) rfl ?_); refine goesL_ (some 13) rfl rfl Tryd.func7 (by kernel_rfl) rfl #[.agg #[.int .i64 a0_0, .string a0_1, .slice A0_2 l0_2.length c0_2, .slice A0_3 l0_3.length c0_3, .string a0_4, .slice A0_5 l0_5.length c0_5, .slice A0_6 l0_6.length c0_6, .slice A0_7 l0_7.length c0_7]] rfl qA ?_; (with_reducible refine (laws_toStm.calls k a0_0 a0_1 _ _ l0_2 _ _ l0_3 a0_4 _ _ l0_5 _ _ l0_6 _ _ l0_7 t344 t345 t346 t349 t352 t353 t356 t359 _ ?side1 ?side2 ?side3 ?side4 ?side5 ?side6 ?side7 ?side8 ?side9 ?side10 A7.out).mono ?_); (case side1 => exact qC HR0_2); (case side2 => exact HC0_2.out); (case side3 => exact qC HR0_3); (case side4 => exact HC0_3.out); (case side5 => exact qC HR0_5); (case side6 => exact HC0_5.out); (case side7 => exact qC HR0_6); (case side8 => exact HC0_6.out); (case side9 => exact qC HR0_7); (case side10 => exact HC0_7.out); rintro e w19 ⟨v347, v350, v354, v357, v360, rfl, ho0, ho1, ho2, ho3, ho4, hb⟩; refine ⟨_, rfl, ?_⟩; have HO348 := qK (Kd.Rlo ho0 (bsz qB)); have HO351 := qK (Kd.Rlo ho1 (bsz qB)); have HO355 := qK (Kd.Rlo ho2 (bsz qB)); have HO358 := qK (Kd.Rlo ho3 (bsz qB)); have HO361 := qK (Kd.S_lower ho4 (bsz qB)); replace BK342 := qbb BK342 hb; replace HB := qHB HB hb; (try clear hb); (try clear hb2); (try clear hk); (try clear hi); (try clear ho0); (try clear ho1); (try clear ho2); (try clear ho3); (try clear ho4); obtain ⟨Ao20, co20, eo20⟩ := Kd.R_slice HO348.out; subst eo20; obtain ⟨Ao21, co21, eo21⟩ := Kd.R_slice HO351.out; subst eo21; obtain ⟨Ao22, co22, eo22⟩ := Kd.R_slice HO355.out; subst eo22; obtain ⟨Ao23, co23, eo23⟩ := Kd.R_slice HO358.out; subst eo23; obtain ⟨Ao24, co24, eo24⟩ := Kd.S_slice HO361.out; subst eo24) | ((with_reducible refine gcl (f := 6) rfl ?_); refine goesL_ (some 14) rfl rfl Tryd.func6 (by kernel_rfl) rfl #[.agg #[.int .i64 t344, .string t345, .slice Ao20 t346.length co20, .slice Ao21 t349.length co21, .string t352, .slice Ao22 t353.length co22, .slice Ao23 t356.length co23, .slice Ao24 t359.length co24]] rfl qA ?_; (with_reducible refine (spec_EncodeStm.calls k t344 t345 _ _ t346 _ _ t349 t352 _ _ t353 _ _ t356 _ _ t359 t362 _ ?side1 ?side2 ?side3 ?side4 ?side5 ?side6 ?side7 ?side8 ?side9 ?side10 A8.out).mono ?_); (case side1 => repeat (first | exact (Kd.R_reads' HO348.out).2.2 | (with_reducible refine Kd.Cal ?_ _) | (with_reducible refine Kd.CdN ?_ _) | (with_reducible refine Kd.Cdr ?_))); (case side2 => exact (Kd.R_reads' HO348.out).2.1); (case side3 => repeat (first | exact (Kd.R_reads' HO351.out).2.2 | (with_reducible refine Kd.Cal ?_ _) | (with_reducible refine Kd.CdN ?_ _) | (with_reducible refine Kd.Cdr ?_))); (case side4 => exact (Kd.R_reads' HO351.out).2.1); (case side5 => repeat (first | exact (Kd.R_reads' HO355.out).2.2 | (with_reducible refine Kd.Cal ?_ _) | (with_reducible refine Kd.CdN ?_ _) | (with_reducible refine Kd.Cdr ?_))); (case side6 => exact (Kd.R_reads' HO355.out).2.1); (case side7 => repeat (first | exact (Kd.R_reads' HO358.out).2.2 | (with_reducible refine Kd.Cal ?_ _) | (with_reducible refine Kd.CdN ?_ _) | (with_reducible refine Kd.Cdr ?_))); (case side8 => exact (Kd.R_reads' HO358.out).2.1); (case side9 => repeat (first | exact (Kd.S_reads' HO361.out).2.2 | (with_reducible refine Kd.Cal ?_ _) | (with_reducible refine Kd.CdN ?_ _) | (with_reducible refine Kd.Cdr ?_))); (case side10 => exact (Kd.S_reads' HO361.out).2.1); rintro e w25 ⟨rfl, hb⟩; refine ⟨_, rfl, ?_⟩; replace HO348 := qK (Kd.Rbe (by (with_reducible repeat (first | apply Kd.Ral | apply Kd.RdN | apply Kd.Rdr)); exact HO348.out) hb); replace HO351 := qK (Kd.Rbe (by (with_reducible repeat (first | apply Kd.Ral | apply Kd.RdN | apply Kd.Rdr)); exact HO351.out) hb); replace HO355 := qK (Kd.Rbe (by (with_reducible repeat (first | apply Kd.Ral | apply Kd.RdN | apply Kd.Rdr)); exact HO355.out) hb); replace HO358 := qK (Kd.Rbe (by (with_reducible repeat (first | apply Kd.Ral | apply Kd.RdN | apply Kd.Rdr)); exact HO358.out) hb); replace HO361 := qK (Kd.Sbe (by (with_reducible repeat (first | apply Kd.Sal | apply Kd.SdN | apply Kd.Sdr)); exact HO361.out) hb); replace BK342 := qbb BK342 hb; replace HB := qHB HB hb; (try clear hb); (try clear hb2); (try clear hk); (try clear hi); have hz26 := qz8 BK342.out) | ((with_reducible refine gcl (f := 7) rfl ?_); refine goesL_ (some 16) rfl rfl Tryd.func7 (by kernel_rfl) rfl #[.agg #[.int .i64 a0_0, .string a0_1, .slice A0_2 l0_2.length c0_2, .slice A0_3 l0_3.length c0_3, .string a0_4, .slice A0_5 l0_5.length c0_5, .slice A0_6 l0_6.length c0_6, .slice A0_7 l0_7.length c0_7]] rfl qA ?_; (with_reducible refine (laws_toStm.calls k a0_0 a0_1 _ _ l0_2 _ _ l0_3 a0_4 _ _ l0_5 _ _ l0_6 _ _ l0_7 t363 t364 t365 t368 t371 t372 t375 t378 _ ?side1 ?side2 ?side3 ?side4 ?side5 ?side6 ?side7 ?side8 ?side9 ?side10 A9.out).mono ?_); (case side1 => exact qC HR0_2); (case side2 => exact HC0_2.out); (case side3 => exact qC HR0_3); (case side4 => exact HC0_3.out); (case side5 => exact qC HR0_5); (case side6 => exact HC0_5.out); (case side7 => exact qC HR0_6); (case side8 => exact HC0_6.out); (case side9 => exact qC HR0_7); (case side10 => exact HC0_7.out); rintro e w27 ⟨v366, v369, v373, v376, v379, rfl, ho0, ho1, ho2, ho3, ho4, hb⟩; refine ⟨_, rfl, ?_⟩; have HO367 := qK (Kd.Rlo (Kd.R_new' ho0 (Kd.R_lt (by (with_reducible repeat (first | apply Kd.Ral | apply Kd.RdN | apply Kd.Rdr)); exact HO348.out))) (bsz qB)); replace HO348 := qK (Kd.R_elder' (by (with_reducible repeat (first | apply Kd.Ral | apply Kd.RdN | apply Kd.Rdr)); exact HO348.out) (Kd.R_base ho0) hb); have HO370 := qK (Kd.Rlo (Kd.R_new' ho1 (Kd.R_lt (by (with_reducible repeat (first | apply Kd.Ral | apply Kd.RdN | apply Kd.Rdr)); exact HO351.out))) (bsz qB)); replace HO351 := qK (Kd.R_elder' (by (with_reducible repeat (first | apply Kd.Ral | apply Kd.RdN | apply Kd.Rdr)); exact HO351.out) (Kd.R_base ho1) hb); have HO374 := qK (Kd.Rlo (Kd.R_new' (Kd.R_new' ho2 (Kd.R_lt (by (with_reducible repeat (first | apply Kd.Ral | apply Kd.RdN | apply Kd.Rdr)); exact HO355.out))) (Kd.R_lt (by (with_reducible repeat (first | apply Kd.Ral | apply Kd.RdN | apply Kd.Rdr)); exact HO358.out))) (bsz qB)); have HO377 := qK (Kd.Rlo (Kd.R_new' (Kd.R_new' ho3 (Kd.R_lt (by (with_reducible repeat (first | apply Kd.Ral | apply Kd.RdN | apply Kd.Rdr)); exact HO355.out))) (Kd.R_lt (by (with_reducible repeat (first | apply Kd.Ral | apply Kd.RdN | apply Kd.Rdr)); exact HO358.out))) (bsz qB)); have HO380 := qK (Kd.S_lower (Kd.S_new' (Kd.S_new' (Kd.S_new' ho4 (Kd.R_lt (by (with_reducible repeat (first | apply Kd.Ral | apply Kd.RdN | apply Kd.Rdr)); exact HO355.out))) (Kd.R_lt (by (with_reducible repeat (first | apply Kd.Ral | apply Kd.RdN | apply Kd.Rdr)); exact HO358.out))) (Kd.S_lt (by (with_reducible repeat (first | apply Kd.Sal | apply Kd.SdN | apply Kd.Sdr)); exact HO361.out))) (bsz qB)); replace HO355 := qK (Kd.Rmo (Kd.R_told (Kd.R_told (Kd.R_old (by (with_reducible repeat (first | apply Kd.Ral | apply Kd.RdN | apply Kd.Rdr)); exact HO355.out) hb) (Kd.R_base ho2)) (Kd.R_base ho3)) (fun _ h_ => h_.1)); replace HO358 := qK (Kd.Rmo (Kd.R_told (Kd.R_told (Kd.R_old (by (with_reducible repeat (first | apply Kd.Ral | apply Kd.RdN | apply Kd.Rdr)); exact HO358.out) hb) (Kd.R_base ho2)) (Kd.R_base ho3)) (fun _ h_ => h_.1)); replace HO361 := qK (Kd.Smo (Kd.S_told (Kd.S_told (Kd.S_told (Kd.S_old (by (with_reducible repeat (first | apply Kd.Sal | apply Kd.SdN | apply Kd.Sdr)); exact HO361.out) hb) (Kd.R_base ho2)) (Kd.R_base ho3)) (Kd.S_base ho4)) (fun _ h_ => h_.1)); replace BK342 := qbb BK342 hb; replace HB := qHB HB hb; (try clear hb); (try clear hb2); (try clear hk); (try clear hi); (try clear ho0); (try clear ho1); (try clear ho2); (try clear ho3); (try clear ho4)) | ((with_reducible refine gds (N := 5) rfl ?_); refine qbx 5 #[.int .i64 0, .string (⟨#[]⟩ : ByteArray), .slice none 0 0, .slice none 0 0, .string (⟨#[]⟩ : ByteArray), .slice none 0 0, .slice none 0 0, .slice none 0 0] 35 ?_; intro gb381 hg w28 hbox hb; replace HO348 := qK (Kd.Rbe (by (with_reducible repeat (first | apply Kd.Ral | apply Kd.RdN | apply Kd.Rdr)); exact HO348.out) hb); replace HO351 := qK (Kd.Rbe (by (with_reducible repeat (first | apply Kd.Ral | apply Kd.RdN | apply Kd.Rdr)); exact HO351.out) hb); replace HO355 := qK (Kd.Rbe (by (with_reducible repeat (first | apply Kd.Ral | apply Kd.RdN | apply Kd.Rdr)); exact HO355.out) hb); replace HO358 := qK (Kd.Rbe (by (with_reducible repeat (first | apply Kd.Ral | apply Kd.RdN | apply Kd.Rdr)); exact HO358.out) hb); replace HO361 := qK (Kd.Sbe (by (with_reducible repeat (first | apply Kd.Sal | apply Kd.SdN | apply Kd.Sdr)); exact HO361.out) hb); replace HO367 := qK (Kd.Rbe (by (with_reducible repeat (first | apply Kd.Ral | apply Kd.RdN | apply Kd.Rdr)); exact HO367.out) hb); replace HO370 := qK (Kd.Rbe (by (with_reducible repeat (first | apply Kd.Ral | apply Kd.RdN | apply Kd.Rdr)); exact HO370.out) hb); replace HO374 := qK (Kd.Rbe (by (with_reducible repeat (first | apply Kd.Ral | apply Kd.RdN | apply Kd.Rdr)); exact HO374.out) hb); replace HO377 := qK (Kd.Rbe (by (with_reducible repeat (first | apply Kd.Ral | apply Kd.RdN | apply Kd.Rdr)); exact HO377.out) hb); replace HO380 := qK (Kd.Sbe (by (with_reducible repeat (first | apply Kd.Sal | apply Kd.SdN | apply Kd.Sdr)); exact HO380.out) hb); have BK381 := qK (hbox); have GW381 := qK ((qW : w.heap.size ≤ gb381)); have GE381 := GW381; replace HB := qHB HB hb; have NB342_381 := qK (qlt BK342 hg); have NB381_342 := qK (qgt BK342 hg); replace BK342 := qbb BK342 hb; clear hb hbox hg; have hnb29 := NB381_342.out; have hnc29 := NB342_381.out; have hz30 := qz8 BK381.out; obtain ⟨Ao31, co31, eo31⟩ := Kd.R_slice HO367.out; subst eo31; obtain ⟨Ao32, co32, eo32⟩ := Kd.R_slice HO370.out; subst eo32; obtain ⟨Ao33, co33, eo33⟩ := Kd.R_slice HO374.out; subst eo33; obtain ⟨Ao34, co34, eo34⟩ := Kd.R_slice HO377.out; subst eo34; obtain ⟨Ao35, co35, eo35⟩ := Kd.S_slice HO380.out; subst eo35) | ((with_reducible refine gcl (f := 8) rfl ?_); refine goesL_ (some 18) rfl rfl Tryd.func8 (by kernel_rfl) rfl #[.agg #[.int .i64 t363, .string t364, .slice Ao31 t365.length co31, .slice Ao32 t368.length co32, .string t371, .slice Ao33 t372.length co33, .slice Ao34 t375.length co34, .slice Ao35 t378.length co35]] rfl qA ?_; (with_reducible refine (impl_EncodeStm.calls k t363 t364 _ _ t365 _ _ t368 t371 _ _ t372 _ _ t375 _ _ t378 t382 _ ?side1 ?side2 ?side3 ?side4 ?side5 ?side6 ?side7 ?side8 ?side9 ?side10 ?side11 A10.out).mono ?_); (case side1 => exact GOK.below hG qB); (case side2 => refine (Kd.R_reads' (e := 51) (base := w.heap.size) (ok := fun k_ => (True ∧ some k_ ≠ (.slice Ao20 t346.length co20 : Value).ownBlock)) (n := t365.length) (c := co31) ?_).2.2; exact (by (with_reducible repeat (first | apply Kd.Ral | apply Kd.RdN | apply Kd.Rdr)); exact (Kd.Rmo (Kd.Rfa (p := ⟨gb381, 7, none⟩) (Kd.Rfa (p := ⟨gb381, 6, none⟩) (Kd.Rfa (p := ⟨gb381, 5, none⟩) (Kd.Rfa (p := ⟨gb381, 4, none⟩) (Kd.Rfa (p := ⟨gb381, 3, none⟩) (Kd.Rfa (p := ⟨gb381, 2, none⟩) (Kd.Rfa (p := ⟨gb381, 1, none⟩) (Kd.Rfa (p := ⟨gb381, 0, none⟩) (Kd.Rty HO367.out BK381.out (by decide)) (fun _ hk => hk.2) (.int .i64 t363)) (fun _ hk => hk.2) (.string t364)) (fun _ hk => hk.2) (.slice Ao31 t365.length co31)) (fun _ hk => hk.2) (.slice Ao32 t368.length co32)) (fun _ hk => hk.2) (.string t371)) (fun _ hk => hk.2) (.slice Ao33 t372.length co33)) (fun _ hk => hk.2) (.slice Ao34 t375.length co34)) (fun _ hk => hk.2) (.slice Ao35 t378.length co35)) (fun _ h_ => h_.1)))); (case side3 => exact (Kd.R_reads' HO367.out).2.1); (case side4 => refine (Kd.R_reads' (e := 53) (base := w.heap.size) (ok := fun k_ => (True ∧ some k_ ≠ (.slice Ao21 t349.length co21 : Value).ownBlock)) (n := t368.length) (c := co32) ?_).2.2; exact (by (with_reducible repeat (first | apply Kd.Ral | apply Kd.RdN | apply Kd.Rdr)); exact (Kd.Rmo (Kd.Rfa (p := ⟨gb381, 7, none⟩) (Kd.Rfa (p := ⟨gb381, 6, none⟩) (Kd.Rfa (p := ⟨gb381, 5, none⟩) (Kd.Rfa (p := ⟨gb381, 4, none⟩) (Kd.Rfa (p := ⟨gb381, 3, none⟩) (Kd.Rfa (p := ⟨gb381, 2, none⟩) (Kd.Rfa (p := ⟨gb381, 1, none⟩) (Kd.Rfa (p := ⟨gb381, 0, none⟩) (Kd.Rty HO370.out BK381.out (by decide)) (fun _ hk => hk.2) (.int .i64 t363)) (fun _ hk => hk.2) (.string t364)) (fun _ hk => hk.2) (.slice Ao31 t365.length co31)) (fun _ hk => hk.2) (.slice Ao32 t368.length co32)) (fun _ hk => hk.2) (.string t371)) (fun _ hk => hk.2) (.slice Ao33 t372.length co33)) (fun _ hk => hk.2) (.slice Ao34 t375.length co34)) (fun _ hk => hk.2) (.slice Ao35 t378.length co35)) (fun _ h_ => h_.1)))); (case side5 => exact (Kd.R_reads' HO370.out).2.1); (case side6 => refine (Kd.R_reads' (e := 88) (base := w.heap.size) (ok := fun k_ => ((some k_ ≠ (.slice Ao34 t375.length co34 : Value).ownBlock ∧ some k_ ≠ (.slice Ao22 t353.length co22 : Value).ownBlock) ∧ some k_ ≠ (.slice Ao23 t356.length co23 : Value).ownBlock)) (n := t372.length) (c := co33) ?_).2.2; exact (by (with_reducible repeat (first | apply Kd.Ral | apply Kd.RdN | apply Kd.Rdr)); exact (Kd.Rmo (Kd.Rfa (p := ⟨gb381, 7, none⟩) (Kd.Rfa (p := ⟨gb381, 6, none⟩) (Kd.Rfa (p := ⟨gb381, 5, none⟩) (Kd.Rfa (p := ⟨gb381, 4, none⟩) (Kd.Rfa (p := ⟨gb381, 3, none⟩) (Kd.Rfa (p := ⟨gb381, 2, none⟩) (Kd.Rfa (p := ⟨gb381, 1, none⟩) (Kd.Rfa (p := ⟨gb381, 0, none⟩) (Kd.Rty HO374.out BK381.out (by decide)) (fun _ hk => hk.2) (.int .i64 t363)) (fun _ hk => hk.2) (.string t364)) (fun _ hk => hk.2) (.slice Ao31 t365.length co31)) (fun _ hk => hk.2) (.slice Ao32 t368.length co32)) (fun _ hk => hk.2) (.string t371)) (fun _ hk => hk.2) (.slice Ao33 t372.length co33)) (fun _ hk => hk.2) (.slice Ao34 t375.length co34)) (fun _ hk => hk.2) (.slice Ao35 t378.length co35)) (fun _ h_ => h_.1)))); (case side7 => exact (Kd.R_reads' HO374.out).2.1); (case side8 => refine (Kd.R_reads' (e := 88) (base := w.heap.size) (ok := fun k_ => ((some k_ ≠ (.slice Ao33 t372.length co33 : Value).ownBlock ∧ some k_ ≠ (.slice Ao22 t353.length co22 : Value).ownBlock) ∧ some k_ ≠ (.slice Ao23 t356.length co23 : Value).ownBlock)) (n := t375.length) (c := co34) ?_).2.2; exact (by (with_reducible repeat (first | apply Kd.Ral | apply Kd.RdN | apply Kd.Rdr)); exact (Kd.Rmo (Kd.Rfa (p := ⟨gb381, 7, none⟩) (Kd.Rfa (p := ⟨gb381, 6, none⟩) (Kd.Rfa (p := ⟨gb381, 5, none⟩) (Kd.Rfa (p := ⟨gb381, 4, none⟩) (Kd.Rfa (p := ⟨gb381, 3, none⟩) (Kd.Rfa (p := ⟨gb381, 2, none⟩) (Kd.Rfa (p := ⟨gb381, 1, none⟩) (Kd.Rfa (p := ⟨gb381, 0, none⟩) (Kd.Rty HO377.out BK381.out (by decide)) (fun _ hk => hk.2) (.int .i64 t363)) (fun _ hk => hk.2) (.string t364)) (fun _ hk => hk.2) (.slice Ao31 t365.length co31)) (fun _ hk => hk.2) (.slice Ao32 t368.length co32)) (fun _ hk => hk.2) (.string t371)) (fun _ hk => hk.2) (.slice Ao33 t372.length co33)) (fun _ hk => hk.2) (.slice Ao34 t375.length co34)) (fun _ hk => hk.2) (.slice Ao35 t378.length co35)) (fun _ h_ => h_.1)))); (case side9 => exact (Kd.R_reads' HO377.out).2.1); (case side10 => refine (Kd.S_reads' (e := 32) (base := w.heap.size) (ok := fun k_ => ((((some k_ ≠ (.slice Ao33 t372.length co33 : Value).ownBlock ∧ some k_ ≠ (.slice Ao34 t375.length co34 : Value).ownBlock) ∧ some k_ ≠ (.slice Ao22 t353.length co22 : Value).ownBlock) ∧ some k_ ≠ (.slice Ao23 t356.length co23 : Value).ownBlock) ∧ some k_ ≠ (.slice Ao24 t359.length co24 : Value).ownBlock)) (n := t378.length) (c := co35) ?_).2.2; exact (by (with_reducible repeat (first | apply Kd.Sal | apply Kd.SdN | apply Kd.Sdr)); exact (Kd.Smo (Kd.Sfa (p := ⟨gb381, 7, none⟩) (Kd.Sfa (p := ⟨gb381, 6, none⟩) (Kd.Sfa (p := ⟨gb381, 5, none⟩) (Kd.Sfa (p := ⟨gb381, 4, none⟩) (Kd.Sfa (p := ⟨gb381, 3, none⟩) (Kd.Sfa (p := ⟨gb381, 2, none⟩) (Kd.Sfa (p := ⟨gb381, 1, none⟩) (Kd.Sfa (p := ⟨gb381, 0, none⟩) (Kd.Sty HO380.out BK381.out (by decide)) (fun _ hk => hk.2) (.int .i64 t363)) (fun _ hk => hk.2) (.string t364)) (fun _ hk => hk.2) (.slice Ao31 t365.length co31)) (fun _ hk => hk.2) (.slice Ao32 t368.length co32)) (fun _ hk => hk.2) (.string t371)) (fun _ hk => hk.2) (.slice Ao33 t372.length co33)) (fun _ hk => hk.2) (.slice Ao34 t375.length co34)) (fun _ hk => hk.2) (.slice Ao35 t378.length co35)) (fun _ h_ => h_.1)))); (case side11 => exact (Kd.S_reads' HO380.out).2.1); rintro e w36 ⟨rfl, hb⟩; refine ⟨_, rfl, ?_⟩; replace HO348 := qK (Kd.Rbe (by (with_reducible repeat (first | apply Kd.Ral | apply Kd.RdN | apply Kd.Rdr)); exact (Kd.Rmo (Kd.Rfa (p := ⟨gb381, 7, none⟩) (Kd.Rfa (p := ⟨gb381, 6, none⟩) (Kd.Rfa (p := ⟨gb381, 5, none⟩) (Kd.Rfa (p := ⟨gb381, 4, none⟩) (Kd.Rfa (p := ⟨gb381, 3, none⟩) (Kd.Rfa (p := ⟨gb381, 2, none⟩) (Kd.Rfa (p := ⟨gb381, 1, none⟩) (Kd.Rfa (p := ⟨gb381, 0, none⟩) (Kd.Rty HO348.out BK381.out (by decide)) (fun _ hk => hk.2) (.int .i64 t363)) (fun _ hk => hk.2) (.string t364)) (fun _ hk => hk.2) (.slice Ao31 t365.length co31)) (fun _ hk => hk.2) (.slice Ao32 t368.length co32)) (fun _ hk => hk.2) (.string t371)) (fun _ hk => hk.2) (.slice Ao33 t372.length co33)) (fun _ hk => hk.2) (.slice Ao34 t375.length co34)) (fun _ hk => hk.2) (.slice Ao35 t378.length co35)) (fun _ h_ => h_.1))) hb); replace HO351 := qK (Kd.Rbe (by (with_reducible repeat (first | apply Kd.Ral | apply Kd.RdN | apply Kd.Rdr)); exact (Kd.Rmo (Kd.Rfa (p := ⟨gb381, 7, none⟩) (Kd.Rfa (p := ⟨gb381, 6, none⟩) (Kd.Rfa (p := ⟨gb381, 5, none⟩) (Kd.Rfa (p := ⟨gb381, 4, none⟩) (Kd.Rfa (p := ⟨gb381, 3, none⟩) (Kd.Rfa (p := ⟨gb381, 2, none⟩) (Kd.Rfa (p := ⟨gb381, 1, none⟩) (Kd.Rfa (p := ⟨gb381, 0, none⟩) (Kd.Rty HO351.out BK381.out (by decide)) (fun _ hk => hk.2) (.int .i64 t363)) (fun _ hk => hk.2) (.string t364)) (fun _ hk => hk.2) (.slice Ao31 t365.length co31)) (fun _ hk => hk.2) (.slice Ao32 t368.length co32)) (fun _ hk => hk.2) (.string t371)) (fun _ hk => hk.2) (.slice Ao33 t372.length co33)) (fun _ hk => hk.2) (.slice Ao34 t375.length co34)) (fun _ hk => hk.2) (.slice Ao35 t378.length co35)) (fun _ h_ => h_.1))) hb); replace HO355 := qK (Kd.Rbe (by (with_reducible repeat (first | apply Kd.Ral | apply Kd.RdN | apply Kd.Rdr)); exact (Kd.Rmo (Kd.Rfa (p := ⟨gb381, 7, none⟩) (Kd.Rfa (p := ⟨gb381, 6, none⟩) (Kd.Rfa (p := ⟨gb381, 5, none⟩) (Kd.Rfa (p := ⟨gb381, 4, none⟩) (Kd.Rfa (p := ⟨gb381, 3, none⟩) (Kd.Rfa (p := ⟨gb381, 2, none⟩) (Kd.Rfa (p := ⟨gb381, 1, none⟩) (Kd.Rfa (p := ⟨gb381, 0, none⟩) (Kd.Rty HO355.out BK381.out (by decide)) (fun _ hk => hk.2) (.int .i64 t363)) (fun _ hk => hk.2) (.string t364)) (fun _ hk => hk.2) (.slice Ao31 t365.length co31)) (fun _ hk => hk.2) (.slice Ao32 t368.length co32)) (fun _ hk => hk.2) (.string t371)) (fun _ hk => hk.2) (.slice Ao33 t372.length co33)) (fun _ hk => hk.2) (.slice Ao34 t375.length co34)) (fun _ hk => hk.2) (.slice Ao35 t378.length co35)) (fun _ h_ => h_.1))) hb); replace HO358 := qK (Kd.Rbe (by (with_reducible repeat (first | apply Kd.Ral | apply Kd.RdN | apply Kd.Rdr)); exact (Kd.Rmo (Kd.Rfa (p := ⟨gb381, 7, none⟩) (Kd.Rfa (p := ⟨gb381, 6, none⟩) (Kd.Rfa (p := ⟨gb381, 5, none⟩) (Kd.Rfa (p := ⟨gb381, 4, none⟩) (Kd.Rfa (p := ⟨gb381, 3, none⟩) (Kd.Rfa (p := ⟨gb381, 2, none⟩) (Kd.Rfa (p := ⟨gb381, 1, none⟩) (Kd.Rfa (p := ⟨gb381, 0, none⟩) (Kd.Rty HO358.out BK381.out (by decide)) (fun _ hk => hk.2) (.int .i64 t363)) (fun _ hk => hk.2) (.string t364)) (fun _ hk => hk.2) (.slice Ao31 t365.length co31)) (fun _ hk => hk.2) (.slice Ao32 t368.length co32)) (fun _ hk => hk.2) (.string t371)) (fun _ hk => hk.2) (.slice Ao33 t372.length co33)) (fun _ hk => hk.2) (.slice Ao34 t375.length co34)) (fun _ hk => hk.2) (.slice Ao35 t378.length co35)) (fun _ h_ => h_.1))) hb); replace HO361 := qK (Kd.Sbe (by (with_reducible repeat (first | apply Kd.Sal | apply Kd.SdN | apply Kd.Sdr)); exact (Kd.Smo (Kd.Sfa (p := ⟨gb381, 7, none⟩) (Kd.Sfa (p := ⟨gb381, 6, none⟩) (Kd.Sfa (p := ⟨gb381, 5, none⟩) (Kd.Sfa (p := ⟨gb381, 4, none⟩) (Kd.Sfa (p := ⟨gb381, 3, none⟩) (Kd.Sfa (p := ⟨gb381, 2, none⟩) (Kd.Sfa (p := ⟨gb381, 1, none⟩) (Kd.Sfa (p := ⟨gb381, 0, none⟩) (Kd.Sty HO361.out BK381.out (by decide)) (fun _ hk => hk.2) (.int .i64 t363)) (fun _ hk => hk.2) (.string t364)) (fun _ hk => hk.2) (.slice Ao31 t365.length co31)) (fun _ hk => hk.2) (.slice Ao32 t368.length co32)) (fun _ hk => hk.2) (.string t371)) (fun _ hk => hk.2) (.slice Ao33 t372.length co33)) (fun _ hk => hk.2) (.slice Ao34 t375.length co34)) (fun _ hk => hk.2) (.slice Ao35 t378.length co35)) (fun _ h_ => h_.1))) hb); replace HO367 := qK (Kd.Rbe (by (with_reducible repeat (first | apply Kd.Ral | apply Kd.RdN | apply Kd.Rdr)); exact (Kd.Rmo (Kd.Rfa (p := ⟨gb381, 7, none⟩) (Kd.Rfa (p := ⟨gb381, 6, none⟩) (Kd.Rfa (p := ⟨gb381, 5, none⟩) (Kd.Rfa (p := ⟨gb381, 4, none⟩) (Kd.Rfa (p := ⟨gb381, 3, none⟩) (Kd.Rfa (p := ⟨gb381, 2, none⟩) (Kd.Rfa (p := ⟨gb381, 1, none⟩) (Kd.Rfa (p := ⟨gb381, 0, none⟩) (Kd.Rty HO367.out BK381.out (by decide)) (fun _ hk => hk.2) (.int .i64 t363)) (fun _ hk => hk.2) (.string t364)) (fun _ hk => hk.2) (.slice Ao31 t365.length co31)) (fun _ hk => hk.2) (.slice Ao32 t368.length co32)) (fun _ hk => hk.2) (.string t371)) (fun _ hk => hk.2) (.slice Ao33 t372.length co33)) (fun _ hk => hk.2) (.slice Ao34 t375.length co34)) (fun _ hk => hk.2) (.slice Ao35 t378.length co35)) (fun _ h_ => h_.1))) hb); replace HO370 := qK (Kd.Rbe (by (with_reducible repeat (first | apply Kd.Ral | apply Kd.RdN | apply Kd.Rdr)); exact (Kd.Rmo (Kd.Rfa (p := ⟨gb381, 7, none⟩) (Kd.Rfa (p := ⟨gb381, 6, none⟩) (Kd.Rfa (p := ⟨gb381, 5, none⟩) (Kd.Rfa (p := ⟨gb381, 4, none⟩) (Kd.Rfa (p := ⟨gb381, 3, none⟩) (Kd.Rfa (p := ⟨gb381, 2, none⟩) (Kd.Rfa (p := ⟨gb381, 1, none⟩) (Kd.Rfa (p := ⟨gb381, 0, none⟩) (Kd.Rty HO370.out BK381.out (by decide)) (fun _ hk => hk.2) (.int .i64 t363)) (fun _ hk => hk.2) (.string t364)) (fun _ hk => hk.2) (.slice Ao31 t365.length co31)) (fun _ hk => hk.2) (.slice Ao32 t368.length co32)) (fun _ hk => hk.2) (.string t371)) (fun _ hk => hk.2) (.slice Ao33 t372.length co33)) (fun _ hk => hk.2) (.slice Ao34 t375.length co34)) (fun _ hk => hk.2) (.slice Ao35 t378.length co35)) (fun _ h_ => h_.1))) hb); replace HO374 := qK (Kd.Rbe (by (with_reducible repeat (first | apply Kd.Ral | apply Kd.RdN | apply Kd.Rdr)); exact (Kd.Rmo (Kd.Rfa (p := ⟨gb381, 7, none⟩) (Kd.Rfa (p := ⟨gb381, 6, none⟩) (Kd.Rfa (p := ⟨gb381, 5, none⟩) (Kd.Rfa (p := ⟨gb381, 4, none⟩) (Kd.Rfa (p := ⟨gb381, 3, none⟩) (Kd.Rfa (p := ⟨gb381, 2, none⟩) (Kd.Rfa (p := ⟨gb381, 1, none⟩) (Kd.Rfa (p := ⟨gb381, 0, none⟩) (Kd.Rty HO374.out BK381.out (by decide)) (fun _ hk => hk.2) (.int .i64 t363)) (fun _ hk => hk.2) (.string t364)) (fun _ hk => hk.2) (.slice Ao31 t365.length co31)) (fun _ hk => hk.2) (.slice Ao32 t368.length co32)) (fun _ hk => hk.2) (.string t371)) (fun _ hk => hk.2) (.slice Ao33 t372.length co33)) (fun _ hk => hk.2) (.slice Ao34 t375.length co34)) (fun _ hk => hk.2) (.slice Ao35 t378.length co35)) (fun _ h_ => h_.1))) hb); replace HO377 := qK (Kd.Rbe (by (with_reducible repeat (first | apply Kd.Ral | apply Kd.RdN | apply Kd.Rdr)); exact (Kd.Rmo (Kd.Rfa (p := ⟨gb381, 7, none⟩) (Kd.Rfa (p := ⟨gb381, 6, none⟩) (Kd.Rfa (p := ⟨gb381, 5, none⟩) (Kd.Rfa (p := ⟨gb381, 4, none⟩) (Kd.Rfa (p := ⟨gb381, 3, none⟩) (Kd.Rfa (p := ⟨gb381, 2, none⟩) (Kd.Rfa (p := ⟨gb381, 1, none⟩) (Kd.Rfa (p := ⟨gb381, 0, none⟩) (Kd.Rty HO377.out BK381.out (by decide)) (fun _ hk => hk.2) (.int .i64 t363)) (fun _ hk => hk.2) (.string t364)) (fun _ hk => hk.2) (.slice Ao31 t365.length co31)) (fun _ hk => hk.2) (.slice Ao32 t368.length co32)) (fun _ hk => hk.2) (.string t371)) (fun _ hk => hk.2) (.slice Ao33 t372.length co33)) (fun _ hk => hk.2) (.slice Ao34 t375.length co34)) (fun _ hk => hk.2) (.slice Ao35 t378.length co35)) (fun _ h_ => h_.1))) hb); replace HO380 := qK (Kd.Sbe (by (with_reducible repeat (first | apply Kd.Sal | apply Kd.SdN | apply Kd.Sdr)); exact (Kd.Smo (Kd.Sfa (p := ⟨gb381, 7, none⟩) (Kd.Sfa (p := ⟨gb381, 6, none⟩) (Kd.Sfa (p := ⟨gb381, 5, none⟩) (Kd.Sfa (p := ⟨gb381, 4, none⟩) (Kd.Sfa (p := ⟨gb381, 3, none⟩) (Kd.Sfa (p := ⟨gb381, 2, none⟩) (Kd.Sfa (p := ⟨gb381, 1, none⟩) (Kd.Sfa (p := ⟨gb381, 0, none⟩) (Kd.Sty HO380.out BK381.out (by decide)) (fun _ hk => hk.2) (.int .i64 t363)) (fun _ hk => hk.2) (.string t364)) (fun _ hk => hk.2) (.slice Ao31 t365.length co31)) (fun _ hk => hk.2) (.slice Ao32 t368.length co32)) (fun _ hk => hk.2) (.string t371)) (fun _ hk => hk.2) (.slice Ao33 t372.length co33)) (fun _ hk => hk.2) (.slice Ao34 t375.length co34)) (fun _ hk => hk.2) (.slice Ao35 t378.length co35)) (fun _ h_ => h_.1))) hb); replace BK342 := qK (bbe (g := gb342) (o := .cells #[.int .i64 a0_0, .string a0_1, .slice A0_2 l0_2.length c0_2, .slice A0_3 l0_3.length c0_3, .string a0_4, .slice A0_5 l0_5.length c0_5, .slice A0_6 l0_6.length c0_6, .slice A0_7 l0_7.length c0_7] 27 (0, 0)) (by (with_reducible repeat (first | refine bdN ?_ _ | refine bkD ?_ | refine bkA ?_ _)); refine bfa ?_ NB342_381.out _; (with_reducible repeat (first | refine bdN ?_ _ | refine bkD ?_ | refine bkA ?_ _)); refine bfa ?_ NB342_381.out _; (with_reducible repeat (first | refine bdN ?_ _ | refine bkD ?_ | refine bkA ?_ _)); refine bfa ?_ NB342_381.out _; (with_reducible repeat (first | refine bdN ?_ _ | refine bkD ?_ | refine bkA ?_ _)); refine bfa ?_ NB342_381.out _; (with_reducible repeat (first | refine bdN ?_ _ | refine bkD ?_ | refine bkA ?_ _)); refine bfa ?_ NB342_381.out _; (with_reducible repeat (first | refine bdN ?_ _ | refine bkD ?_ | refine bkA ?_ _)); refine bfa ?_ NB342_381.out _; (with_reducible repeat (first | refine bdN ?_ _ | refine bkD ?_ | refine bkA ?_ _)); refine bfa ?_ NB342_381.out _; (with_reducible repeat (first | refine bdN ?_ _ | refine bkD ?_ | refine bkA ?_ _)); refine bfa ?_ NB342_381.out _; (with_reducible repeat (first | refine bdN ?_ _ | refine bkD ?_ | refine bkA ?_ _)); exact BK342.out) hb); replace BK381 := qK (bbe (g := gb381) (o := .cells #[.int .i64 t363, .string t364, .slice Ao31 t365.length co31, .slice Ao32 t368.length co32, .string t371, .slice Ao33 t372.length co33, .slice Ao34 t375.length co34, .slice Ao35 t378.length co35] 35 (0, 0)) (by (with_reducible repeat (first | refine bdN ?_ _ | refine bkD ?_ | refine bkA ?_ _)); refine bpu (cs := #[.int .i64 t363, .string t364, .slice Ao31 t365.length co31, .slice Ao32 t368.length co32, .string t371, .slice Ao33 t372.length co33, .slice Ao34 t375.length co34, .slice none 0 0]) ?_ 7 _ rfl; (with_reducible repeat (first | refine bdN ?_ _ | refine bkD ?_ | refine bkA ?_ _)); refine bpu (cs := #[.int .i64 t363, .string t364, .slice Ao31 t365.length co31, .slice Ao32 t368.length co32, .string t371, .slice Ao33 t372.length co33, .slice none 0 0, .slice none 0 0]) ?_ 6 _ rfl; (with_reducible repeat (first | refine bdN ?_ _ | refine bkD ?_ | refine bkA ?_ _)); refine bpu (cs := #[.int .i64 t363, .string t364, .slice Ao31 t365.length co31, .slice Ao32 t368.length co32, .string t371, .slice none 0 0, .slice none 0 0, .slice none 0 0]) ?_ 5 _ rfl; (with_reducible repeat (first | refine bdN ?_ _ | refine bkD ?_ | refine bkA ?_ _)); refine bpu (cs := #[.int .i64 t363, .string t364, .slice Ao31 t365.length co31, .slice Ao32 t368.length co32, .string (⟨#[]⟩ : ByteArray), .slice none 0 0, .slice none 0 0, .slice none 0 0]) ?_ 4 _ rfl; (with_reducible repeat (first | refine bdN ?_ _ | refine bkD ?_ | refine bkA ?_ _)); refine bpu (cs := #[.int .i64 t363, .string t364, .slice Ao31 t365.length co31, .slice none 0 0, .string (⟨#[]⟩ : ByteArray), .slice none 0 0, .slice none 0 0, .slice none 0 0]) ?_ 3 _ rfl; (with_reducible repeat (first | refine bdN ?_ _ | refine bkD ?_ | refine bkA ?_ _)); refine bpu (cs := #[.int .i64 t363, .string t364, .slice none 0 0, .slice none 0 0, .string (⟨#[]⟩ : ByteArray), .slice none 0 0, .slice none 0 0, .slice none 0 0]) ?_ 2 _ rfl; (with_reducible repeat (first | refine bdN ?_ _ | refine bkD ?_ | refine bkA ?_ _)); refine bpu (cs := #[.int .i64 t363, .string (⟨#[]⟩ : ByteArray), .slice none 0 0, .slice none 0 0, .string (⟨#[]⟩ : ByteArray), .slice none 0 0, .slice none 0 0, .slice none 0 0]) ?_ 1 _ rfl; (with_reducible repeat (first | refine bdN ?_ _ | refine bkD ?_ | refine bkA ?_ _)); refine bpu (cs := #[.int .i64 0, .string (⟨#[]⟩ : ByteArray), .slice none 0 0, .slice none 0 0, .string (⟨#[]⟩ : ByteArray), .slice none 0 0, .slice none 0 0, .slice none 0 0]) ?_ 0 _ rfl; (with_reducible repeat (first | refine bdN ?_ _ | refine bkD ?_ | refine bkA ?_ _)); exact BK381.out) hb); replace HB := qHB HB hb; (try clear hb); (try clear hb2); (try clear hk); (try clear hi)))); replace HO348 := qK (Kd.Rdr HO348.out); replace HO351 := qK (Kd.Rdr HO351.out); replace HO355 := qK (Kd.Rdr HO355.out); replace HO358 := qK (Kd.Rdr HO358.out); replace HO361 := qK (Kd.Sdr HO361.out); replace HO367 := qK (Kd.Rdr HO367.out); replace HO370 := qK (Kd.Rdr HO370.out); replace HO374 := qK (Kd.Rdr HO374.out); replace HO377 := qK (Kd.Rdr HO377.out); replace HO380 := qK (Kd.Sdr HO380.out); replace BK342 := qK (bkD BK342.out); replace BK381 := qK (bkD BK381.out); replace HB := qK (bd1 HB.out); refine start_ (n := 5) (S := fun w' => w'.cell? ⟨gb381, 0, none⟩ = some (.int .i64 t363) ∧ w'.cell? ⟨gb381, 1, none⟩ = some (.string t364) ∧ w'.cell? ⟨gb381, 2, none⟩ = some (.slice Ao31 t365.length co31) ∧ w'.cell? ⟨gb381, 3, none⟩ = some (.slice Ao32 t368.length co32) ∧ w'.cell? ⟨gb381, 4, none⟩ = some (.string t371) ∧ w'.cell? ⟨gb381, 5, none⟩ = some (.slice Ao33 t372.length co33) ∧ w'.cell? ⟨gb381, 6, none⟩ = some (.slice Ao34 t375.length co34) ∧ w'.cell? ⟨gb381, 7, none⟩ = some (.slice Ao35 t378.length co35) ∧ w'.cell? ⟨gb342, 0, none⟩ = some (.int .i64 a0_0) ∧ w'.cell? ⟨gb342, 1, none⟩ = some (.string a0_1) ∧ w'.cell? ⟨gb342, 2, none⟩ = some (.slice A0_2 l0_2.length c0_2) ∧ w'.cell? ⟨gb342, 3, none⟩ = some (.slice A0_3 l0_3.length c0_3) ∧ w'.cell? ⟨gb342, 4, none⟩ = some (.string a0_4) ∧ w'.cell? ⟨gb342, 5, none⟩ = some (.slice A0_5 l0_5.length c0_5) ∧ w'.cell? ⟨gb342, 6, none⟩ = some (.slice A0_6 l0_6.length c0_6) ∧ w'.cell? ⟨gb342, 7, none⟩ = some (.slice A0_7 l0_7.length c0_7)) (ds := []) #[false, false, false, false, false] (by kernel_rfl) rfl rfl ⟨(bce BK381.out 0).trans rfl, (bce BK381.out 1).trans rfl, (bce BK381.out 2).trans rfl, (bce BK381.out 3).trans rfl, (bce BK381.out 4).trans rfl, (bce BK381.out 5).trans rfl, (bce BK381.out 6).trans rfl, (bce BK381.out 7).trans rfl, (bce BK342.out 0).trans rfl, (bce BK342.out 1).trans rfl, (bce BK342.out 2).trans rfl, (bce BK342.out 3).trans rfl, (bce BK342.out 4).trans rfl, (bce BK342.out 5).trans rfl, (bce BK342.out 6).trans rfl, (bce BK342.out 7).trans rfl⟩ (fun hHeld => ?_); generalize w36.drew = w37 at HO348 HO351 HO355 HO358 HO361 HO367 HO370 HO374 HO377 HO380 BK342 BK381 HB hHeld ⊢; refine take_ (i := 0) (N := some 22) (v := ?_) (a' := ?_) #[true, false, false, false, false] rfl rfl (by kernel_rfl) (fun _ _ _ h => h) (Or.inl ⟨by rfl, ?_⟩) hHeld ?_ ?_; rotate_left
        · rintro w' ⟨s0, s1, s2, s3, s4, s5, s6, s7, s8, s9, s10, s11, s12, s13, s14, s15⟩; go_simp; (with_reducible rfl)
        rotate_left
        · simp only [Act.put, List.setIfInBounds_toArray, List.set_cons_zero, List.set_cons_succ, i64_w, i32_w]; rfl
        refine take_ (i := 1) (N := some 23) (v := ?_) (a' := ?_) #[true, true, false, false, false] rfl rfl (by kernel_rfl) (fun _ _ _ h => h) (Or.inl ⟨by rfl, ?_⟩) hHeld ?_ ?_; rotate_left
        · rintro w' ⟨s0, s1, s2, s3, s4, s5, s6, s7, s8, s9, s10, s11, s12, s13, s14, s15⟩; go_simp; (with_reducible rfl)
        rotate_left
        · simp only [Act.put, List.setIfInBounds_toArray, List.set_cons_zero, List.set_cons_succ, i64_w, i32_w]; rfl
        refine one_ (i := 2) (N := some 24) #[true, true, true, false, false] rfl rfl (by kernel_rfl) (by decide) (fun K hK => ?_); refine goes_ Tryd.func7 (by kernel_rfl) rfl #[.agg #[.int .i64 a0_0, .string a0_1, .slice A0_2 l0_2.length c0_2, .slice A0_3 l0_3.length c0_3, .string a0_4, .slice A0_5 l0_5.length c0_5, .slice A0_6 l0_6.length c0_6, .slice A0_7 l0_7.length c0_7]] (by rfl) rfl rfl qA ?_; (with_reducible refine (laws_toStm.calls k a0_0 a0_1 _ _ l0_2 _ _ l0_3 a0_4 _ _ l0_5 _ _ l0_6 _ _ l0_7 t383 t384 t385 t388 t391 t392 t395 t398 _ ?side1 ?side2 ?side3 ?side4 ?side5 ?side6 ?side7 ?side8 ?side9 ?side10 A12.out).mono ?_); (case side1 => exact qC HR0_2); (case side2 => exact HC0_2.out); (case side3 => exact qC HR0_3); (case side4 => exact HC0_3.out); (case side5 => exact qC HR0_5); (case side6 => exact HC0_5.out); (case side7 => exact qC HR0_6); (case side8 => exact HC0_6.out); (case side9 => exact qC HR0_7); (case side10 => exact HC0_7.out); rintro e w38 ⟨v386, v389, v393, v396, v399, rfl, ho0, ho1, ho2, ho3, ho4, hb⟩; refine ⟨_, rfl, ?_⟩; have HO387 := qK (Kd.Rlo (Kd.R_new' (Kd.R_new' ho0 (Kd.R_lt (by (with_reducible repeat (first | apply Kd.Ral | apply Kd.RdN | apply Kd.Rdr)); exact HO348.out))) (Kd.R_lt (by (with_reducible repeat (first | apply Kd.Ral | apply Kd.RdN | apply Kd.Rdr)); exact HO367.out))) (bsz qB)); replace HO348 := qK (Kd.R_elder' (by (with_reducible repeat (first | apply Kd.Ral | apply Kd.RdN | apply Kd.Rdr)); exact HO348.out) (Kd.R_base ho0) hb); replace HO367 := qK (Kd.R_elder' (by (with_reducible repeat (first | apply Kd.Ral | apply Kd.RdN | apply Kd.Rdr)); exact HO367.out) (Kd.R_base ho0) hb); have HO390 := qK (Kd.Rlo (Kd.R_new' (Kd.R_new' ho1 (Kd.R_lt (by (with_reducible repeat (first | apply Kd.Ral | apply Kd.RdN | apply Kd.Rdr)); exact HO351.out))) (Kd.R_lt (by (with_reducible repeat (first | apply Kd.Ral | apply Kd.RdN | apply Kd.Rdr)); exact HO370.out))) (bsz qB)); replace HO351 := qK (Kd.R_elder' (by (with_reducible repeat (first | apply Kd.Ral | apply Kd.RdN | apply Kd.Rdr)); exact HO351.out) (Kd.R_base ho1) hb); replace HO370 := qK (Kd.R_elder' (by (with_reducible repeat (first | apply Kd.Ral | apply Kd.RdN | apply Kd.Rdr)); exact HO370.out) (Kd.R_base ho1) hb); have HO394 := qK (Kd.Rlo (Kd.R_new' (Kd.R_new' (Kd.R_new' (Kd.R_new' ho2 (Kd.R_lt (by (with_reducible repeat (first | apply Kd.Ral | apply Kd.RdN | apply Kd.Rdr)); exact HO355.out))) (Kd.R_lt (by (with_reducible repeat (first | apply Kd.Ral | apply Kd.RdN | apply Kd.Rdr)); exact HO358.out))) (Kd.R_lt (by (with_reducible repeat (first | apply Kd.Ral | apply Kd.RdN | apply Kd.Rdr)); exact HO374.out))) (Kd.R_lt (by (with_reducible repeat (first | apply Kd.Ral | apply Kd.RdN | apply Kd.Rdr)); exact HO377.out))) (bsz qB)); have HO397 := qK (Kd.Rlo (Kd.R_new' (Kd.R_new' (Kd.R_new' (Kd.R_new' ho3 (Kd.R_lt (by (with_reducible repeat (first | apply Kd.Ral | apply Kd.RdN | apply Kd.Rdr)); exact HO355.out))) (Kd.R_lt (by (with_reducible repeat (first | apply Kd.Ral | apply Kd.RdN | apply Kd.Rdr)); exact HO358.out))) (Kd.R_lt (by (with_reducible repeat (first | apply Kd.Ral | apply Kd.RdN | apply Kd.Rdr)); exact HO374.out))) (Kd.R_lt (by (with_reducible repeat (first | apply Kd.Ral | apply Kd.RdN | apply Kd.Rdr)); exact HO377.out))) (bsz qB)); have HO400 := qK (Kd.S_lower (Kd.S_new' (Kd.S_new' (Kd.S_new' (Kd.S_new' (Kd.S_new' (Kd.S_new' ho4 (Kd.R_lt (by (with_reducible repeat (first | apply Kd.Ral | apply Kd.RdN | apply Kd.Rdr)); exact HO355.out))) (Kd.R_lt (by (with_reducible repeat (first | apply Kd.Ral | apply Kd.RdN | apply Kd.Rdr)); exact HO358.out))) (Kd.S_lt (by (with_reducible repeat (first | apply Kd.Sal | apply Kd.SdN | apply Kd.Sdr)); exact HO361.out))) (Kd.R_lt (by (with_reducible repeat (first | apply Kd.Ral | apply Kd.RdN | apply Kd.Rdr)); exact HO374.out))) (Kd.R_lt (by (with_reducible repeat (first | apply Kd.Ral | apply Kd.RdN | apply Kd.Rdr)); exact HO377.out))) (Kd.S_lt (by (with_reducible repeat (first | apply Kd.Sal | apply Kd.SdN | apply Kd.Sdr)); exact HO380.out))) (bsz qB)); replace HO355 := qK (Kd.Rmo (Kd.R_told (Kd.R_told (Kd.R_old (by (with_reducible repeat (first | apply Kd.Ral | apply Kd.RdN | apply Kd.Rdr)); exact HO355.out) hb) (Kd.R_base ho2)) (Kd.R_base ho3)) (fun _ h_ => h_.1)); replace HO358 := qK (Kd.Rmo (Kd.R_told (Kd.R_told (Kd.R_old (by (with_reducible repeat (first | apply Kd.Ral | apply Kd.RdN | apply Kd.Rdr)); exact HO358.out) hb) (Kd.R_base ho2)) (Kd.R_base ho3)) (fun _ h_ => h_.1)); replace HO361 := qK (Kd.Smo (Kd.S_told (Kd.S_told (Kd.S_told (Kd.S_old (by (with_reducible repeat (first | apply Kd.Sal | apply Kd.SdN | apply Kd.Sdr)); exact HO361.out) hb) (Kd.R_base ho2)) (Kd.R_base ho3)) (Kd.S_base ho4)) (fun _ h_ => h_.1)); replace HO374 := qK (Kd.Rmo (Kd.R_told (Kd.R_told (Kd.R_old (by (with_reducible repeat (first | apply Kd.Ral | apply Kd.RdN | apply Kd.Rdr)); exact HO374.out) hb) (Kd.R_base ho2)) (Kd.R_base ho3)) (fun _ h_ => h_.1)); replace HO377 := qK (Kd.Rmo (Kd.R_told (Kd.R_told (Kd.R_old (by (with_reducible repeat (first | apply Kd.Ral | apply Kd.RdN | apply Kd.Rdr)); exact HO377.out) hb) (Kd.R_base ho2)) (Kd.R_base ho3)) (fun _ h_ => h_.1)); replace HO380 := qK (Kd.Smo (Kd.S_told (Kd.S_told (Kd.S_told (Kd.S_old (by (with_reducible repeat (first | apply Kd.Sal | apply Kd.SdN | apply Kd.Sdr)); exact HO380.out) hb) (Kd.R_base ho2)) (Kd.R_base ho3)) (Kd.S_base ho4)) (fun _ h_ => h_.1)); replace BK342 := qbb BK342 hb; replace BK381 := qbb BK381 hb; replace HB := qHB HB hb; (try clear hb); (try clear hb2); (try clear hk); (try clear hi); (try clear ho0); (try clear ho1); (try clear ho2); (try clear ho3); (try clear ho4); obtain ⟨Ao39, co39, eo39⟩ := Kd.R_slice HO387.out; (first | subst eo39 | (injection eo39 with f1_ f2_ f3_; have f4_ := f1_.symm; have f5_ := f3_.symm; clear f1_ f2_ f3_; subst f4_; subst f5_)); obtain ⟨Ao40, co40, eo40⟩ := Kd.R_slice HO390.out; (first | subst eo40 | (injection eo40 with f1_ f2_ f3_; have f4_ := f1_.symm; have f5_ := f3_.symm; clear f1_ f2_ f3_; subst f4_; subst f5_)); obtain ⟨Ao41, co41, eo41⟩ := Kd.R_slice HO394.out; (first | subst eo41 | (injection eo41 with f1_ f2_ f3_; have f4_ := f1_.symm; have f5_ := f3_.symm; clear f1_ f2_ f3_; subst f4_; subst f5_)); obtain ⟨Ao42, co42, eo42⟩ := Kd.R_slice HO397.out; (first | subst eo42 | (injection eo42 with f1_ f2_ f3_; have f4_ := f1_.symm; have f5_ := f3_.symm; clear f1_ f2_ f3_; subst f4_; subst f5_)); obtain ⟨Ao43, co43, eo43⟩ := Kd.S_slice HO400.out; (first | subst eo43 | (injection eo43 with f1_ f2_ f3_; have f4_ := f1_.symm; have f5_ := f3_.symm; clear f1_ f2_ f3_; subst f4_; subst f5_)); refine hK.out _ _ ⟨(bce BK381.out 0).trans rfl, (bce BK381.out 1).trans rfl, (bce BK381.out 2).trans rfl, (bce BK381.out 3).trans rfl, (bce BK381.out 4).trans rfl, (bce BK381.out 5).trans rfl, (bce BK381.out 6).trans rfl, (bce BK381.out 7).trans rfl, (bce BK342.out 0).trans rfl, (bce BK342.out 1).trans rfl, (bce BK342.out 2).trans rfl, (bce BK342.out 3).trans rfl, (bce BK342.out 4).trans rfl, (bce BK342.out 5).trans rfl, (bce BK342.out 6).trans rfl, (bce BK342.out 7).trans rfl⟩ (fun hHeld => ?_); clear hK K; refine norm_ (a' := ?_) ?_ ?_; rotate_left
        · show Act.put _ (some 24) _ = _; simp only [Act.put, List.setIfInBounds_toArray, List.set_cons_zero, List.set_cons_succ, i64_w, i32_w]; rfl
        refine one_ (i := 3) (N := some 25) #[true, true, true, true, false] rfl rfl (by kernel_rfl) (by decide) (fun K hK => ?_); refine goes_ Tryd.func9 (by kernel_rfl) rfl #[.agg #[.int .i64 t363, .string t364, .slice Ao31 t365.length co31, .slice Ao32 t368.length co32, .string t371, .slice Ao33 t372.length co33, .slice Ao34 t375.length co34, .slice Ao35 t378.length co35], .agg #[.int .i64 t383, .string t384, .slice Ao39 t385.length co39, .slice Ao40 t388.length co40, .string t391, .slice Ao41 t392.length co41, .slice Ao42 t395.length co42, .slice Ao43 t398.length co43]] (by rfl) rfl rfl qA ?_; (with_reducible refine (laws_eqStm.calls k t363 t364 _ _ t365 _ _ t368 t371 _ _ t372 _ _ t375 _ _ t378 t383 t384 _ _ t385 _ _ t388 t391 _ _ t392 _ _ t395 _ _ t398 true _ ?side1 ?side2 ?side3 ?side4 ?side5 ?side6 ?side7 ?side8 ?side9 ?side10 ?side11 ?side12 ?side13 ?side14 ?side15 ?side16 ?side17 ?side18 ?side19 ?side20 A13.out).mono ?_); (case side1 => repeat (first | exact (Kd.R_reads' HO367.out).2.2 | (with_reducible refine Kd.Cal ?_ _) | (with_reducible refine Kd.CdN ?_ _) | (with_reducible refine Kd.Cdr ?_))); (case side2 => exact (Kd.R_reads' HO367.out).2.1); (case side3 => repeat (first | exact (Kd.R_reads' HO370.out).2.2 | (with_reducible refine Kd.Cal ?_ _) | (with_reducible refine Kd.CdN ?_ _) | (with_reducible refine Kd.Cdr ?_))); (case side4 => exact (Kd.R_reads' HO370.out).2.1); (case side5 => repeat (first | exact (Kd.R_reads' HO374.out).2.2 | (with_reducible refine Kd.Cal ?_ _) | (with_reducible refine Kd.CdN ?_ _) | (with_reducible refine Kd.Cdr ?_))); (case side6 => exact (Kd.R_reads' HO374.out).2.1); (case side7 => repeat (first | exact (Kd.R_reads' HO377.out).2.2 | (with_reducible refine Kd.Cal ?_ _) | (with_reducible refine Kd.CdN ?_ _) | (with_reducible refine Kd.Cdr ?_))); (case side8 => exact (Kd.R_reads' HO377.out).2.1); (case side9 => repeat (first | exact (Kd.S_reads' HO380.out).2.2 | (with_reducible refine Kd.Cal ?_ _) | (with_reducible refine Kd.CdN ?_ _) | (with_reducible refine Kd.Cdr ?_))); (case side10 => exact (Kd.S_reads' HO380.out).2.1); (case side11 => repeat (first | exact (Kd.R_reads' HO387.out).2.2 | (with_reducible refine Kd.Cal ?_ _) | (with_reducible refine Kd.CdN ?_ _) | (with_reducible refine Kd.Cdr ?_))); (case side12 => exact (Kd.R_reads' HO387.out).2.1); (case side13 => repeat (first | exact (Kd.R_reads' HO390.out).2.2 | (with_reducible refine Kd.Cal ?_ _) | (with_reducible refine Kd.CdN ?_ _) | (with_reducible refine Kd.Cdr ?_))); (case side14 => exact (Kd.R_reads' HO390.out).2.1); (case side15 => repeat (first | exact (Kd.R_reads' HO394.out).2.2 | (with_reducible refine Kd.Cal ?_ _) | (with_reducible refine Kd.CdN ?_ _) | (with_reducible refine Kd.Cdr ?_))); (case side16 => exact (Kd.R_reads' HO394.out).2.1); (case side17 => repeat (first | exact (Kd.R_reads' HO397.out).2.2 | (with_reducible refine Kd.Cal ?_ _) | (with_reducible refine Kd.CdN ?_ _) | (with_reducible refine Kd.Cdr ?_))); (case side18 => exact (Kd.R_reads' HO397.out).2.1); (case side19 => repeat (first | exact (Kd.S_reads' HO400.out).2.2 | (with_reducible refine Kd.Cal ?_ _) | (with_reducible refine Kd.CdN ?_ _) | (with_reducible refine Kd.Cdr ?_))); (case side20 => exact (Kd.S_reads' HO400.out).2.1); rintro e w44 ⟨rfl, hb⟩; refine ⟨_, rfl, ?_⟩; replace HO348 := qK (Kd.Rbe (by (with_reducible repeat (first | apply Kd.Ral | apply Kd.RdN | apply Kd.Rdr)); exact HO348.out) hb); replace HO351 := qK (Kd.Rbe (by (with_reducible repeat (first | apply Kd.Ral | apply Kd.RdN | apply Kd.Rdr)); exact HO351.out) hb); replace HO355 := qK (Kd.Rbe (by (with_reducible repeat (first | apply Kd.Ral | apply Kd.RdN | apply Kd.Rdr)); exact HO355.out) hb); replace HO358 := qK (Kd.Rbe (by (with_reducible repeat (first | apply Kd.Ral | apply Kd.RdN | apply Kd.Rdr)); exact HO358.out) hb); replace HO361 := qK (Kd.Sbe (by (with_reducible repeat (first | apply Kd.Sal | apply Kd.SdN | apply Kd.Sdr)); exact HO361.out) hb); replace HO367 := qK (Kd.Rbe (by (with_reducible repeat (first | apply Kd.Ral | apply Kd.RdN | apply Kd.Rdr)); exact HO367.out) hb); replace HO370 := qK (Kd.Rbe (by (with_reducible repeat (first | apply Kd.Ral | apply Kd.RdN | apply Kd.Rdr)); exact HO370.out) hb); replace HO374 := qK (Kd.Rbe (by (with_reducible repeat (first | apply Kd.Ral | apply Kd.RdN | apply Kd.Rdr)); exact HO374.out) hb); replace HO377 := qK (Kd.Rbe (by (with_reducible repeat (first | apply Kd.Ral | apply Kd.RdN | apply Kd.Rdr)); exact HO377.out) hb); replace HO380 := qK (Kd.Sbe (by (with_reducible repeat (first | apply Kd.Sal | apply Kd.SdN | apply Kd.Sdr)); exact HO380.out) hb); replace HO387 := qK (Kd.Rbe (by (with_reducible repeat (first | apply Kd.Ral | apply Kd.RdN | apply Kd.Rdr)); exact HO387.out) hb); replace HO390 := qK (Kd.Rbe (by (with_reducible repeat (first | apply Kd.Ral | apply Kd.RdN | apply Kd.Rdr)); exact HO390.out) hb); replace HO394 := qK (Kd.Rbe (by (with_reducible repeat (first | apply Kd.Ral | apply Kd.RdN | apply Kd.Rdr)); exact HO394.out) hb); replace HO397 := qK (Kd.Rbe (by (with_reducible repeat (first | apply Kd.Ral | apply Kd.RdN | apply Kd.Rdr)); exact HO397.out) hb); replace HO400 := qK (Kd.Sbe (by (with_reducible repeat (first | apply Kd.Sal | apply Kd.SdN | apply Kd.Sdr)); exact HO400.out) hb); replace BK342 := qbb BK342 hb; replace BK381 := qbb BK381 hb; replace HB := qHB HB hb; (try clear hb); (try clear hb2); (try clear hk); (try clear hi); refine hK.out _ _ ⟨(bce BK381.out 0).trans rfl, (bce BK381.out 1).trans rfl, (bce BK381.out 2).trans rfl, (bce BK381.out 3).trans rfl, (bce BK381.out 4).trans rfl, (bce BK381.out 5).trans rfl, (bce BK381.out 6).trans rfl, (bce BK381.out 7).trans rfl, (bce BK342.out 0).trans rfl, (bce BK342.out 1).trans rfl, (bce BK342.out 2).trans rfl, (bce BK342.out 3).trans rfl, (bce BK342.out 4).trans rfl, (bce BK342.out 5).trans rfl, (bce BK342.out 6).trans rfl, (bce BK342.out 7).trans rfl⟩ (fun hHeld => ?_); clear hK K; refine norm_ (a' := ?_) ?_ ?_; rotate_left
        · show Act.put _ (some 25) _ = _; simp only [Act.put, List.setIfInBounds_toArray, List.set_cons_zero, List.set_cons_succ, i64_w, i32_w]; rfl
        refine pure_ (i := 4) (N := some 26) (v := ?_) (a' := ?_) #[true, true, true, true, true] rfl rfl (by kernel_rfl) (fun _ _ _ h => h) (Or.inl ⟨by rfl, ?_⟩) ?_ ?_; rotate_left
        · intro w'; go_simp; (with_reducible rfl)
        rotate_left
        · simp only [Act.put, List.setIfInBounds_toArray, List.set_cons_zero, List.set_cons_succ, i64_w, i32_w]; rfl
        refine done_ (by kernel_rfl) ?_; (try go_wp2); go_ret; exact ⟨qR, qB⟩
      · replace c14 := Bool.eq_false_iff.mpr c14; subst c14; rw [if_neg qff] at H; subst hT; cases H
    · rw [if_neg c11] at H; have c11b0 : (t382.toList == t362.toList) = false := beq_eq_false_iff_ne.mpr c11; have c11b1 : (t382.toList != t362.toList) = true := bne_iff_ne.mpr c11; subst hT; cases H
end Go.Proofs.YtjihphegmdfpfaaDoor.L
end
section
set_option linter.unusedVariables false
set_option linter.unusedSimpArgs false
namespace Go.Proofs.YtjihphegmdfpfaaDoor
open Go.RowKit Go.ChangeShapes Go.WideShapes Go.Proofs.YtjihphegmdfpfaaDoorW.PrintWords
/-- Whatever reads as a datum of type t is a value of the kind d that is 'good'. -/
def Opens {α : Type} (P : Program) (t : TypeId) (d : Kd α) (good : α → Prop) : Prop :=
  ∀ (H : Type) (enc : TypeId × Value → H) (W : World) (fuel : Nat) (cs : List Value) (x : DataW H × List MemPlace),
    DataW.trod enc P W 0 (fun _ => true) true fuel t cs = some x → ∃ a, d.K W a cs ∧ good a
theorem opens_int {P : Program} {t : TypeId} {k : IntKind} (ht : P.underlying t = some (.int k)) : Opens P t (Kd.int k) (fun n => (Lit.int k n).wf = true) :=
  fun H enc W fuel cs x h => by
    obtain ⟨n, rfl, _, hw⟩ := DataW.trod_int ht h
    exact ⟨n, rfl, hw⟩
theorem opens_string {P : Program} {t : TypeId} (ht : P.underlying t = some .string) : Opens P t Kd.string (fun s => s.size ≤ maxLen) :=
  fun H enc W fuel cs x h => by
    obtain ⟨n, rfl, _, hw⟩ := DataW.trod_string ht h
    exact ⟨n, rfl, hw⟩
theorem cells_of_some {W : World} {a : Addr} {n : Nat} {cs : List Value} (h : W.cells? 0 a n = some cs) : cs.length = n ∧ ∀ i u, cs[i]? = some u → W.cell? (a.add i) = some u := by
  unfold World.cells? at h
  rw [if_pos (Nat.zero_le _)] at h
  have hl := mapM_some_length h
  rw [List.length_range] at hl
  refine ⟨hl, fun i u hu => ?_⟩
  have hi : i < n := by
    rcases Nat.lt_or_ge i n with h' | h'
    · exact h'
    · rw [List.getElem?_eq_none (by omega)] at hu; cases hu
  have := mapM_some_get h i i (by simp [hi])
  rw [this]; exact hu
theorem opens_slice {α : Type} {P : Program} {t e : TypeId} {d : Kd α} {good : α → Prop} [Inhabited α] (ht : P.underlying t = some (.slice e)) (hc : P.cellsOf e = d.sz) (he : Opens P e d good) :
    Opens P t (Kd.slice e d) (fun l => ∀ a ∈ l, good a) :=
  fun H enc W fuel cs x h => by
    rcases Go.Deep.open_slice ht h with ⟨rfl, _⟩ | ⟨a, len, cap, m, n, D, Pl, rfl, _, hlc, hm, hmm, _, hel⟩
    · exact ⟨[], ⟨none, 0, rfl, Nat.le_refl _, rfl, by simp, fun h => absurd h (by simp)⟩, fun a ha => by cases ha⟩
    · have hmc : m = cap := by simpa using hmm
      subst hmc
      have hx : ∀ i, i < len → ∃ y : α, (∃ cs', W.cells? 0 (a.add (i * P.cellsOf e)) (P.cellsOf e) = some cs' ∧ d.K W y cs') ∧ good y := fun i hi => by
        obtain ⟨cs', h1, h2⟩ := hel i (by omega)
        obtain ⟨y, hy, hg⟩ := he H enc W n cs' _ h2
        exact ⟨y, ⟨cs', h1, hy⟩, hg⟩
      obtain ⟨f, hf⟩ := Go.Deep.choose_lt hx
      have hlen : ((List.range len).map f).length = len := by simp
      refine ⟨(List.range len).map f, ⟨some a, m, by rw [hlen], by rw [hlen]; exact hlc, ?_⟩, fun y hy => ?_⟩
      · refine ⟨rfl, by rw [hlen]; unfold maxLen at hm; omega, fun _ => ⟨a, rfl, fun j p hp => ?_⟩⟩
        have hj : j < len := by
          rcases Nat.lt_or_ge j len with h' | h'
          · exact h'
          · rw [List.getElem?_eq_none (by omega)] at hp; cases hp
        have hpe : f j = p := by simpa [hj] using hp
        obtain ⟨⟨cs', h1, h2⟩, _⟩ := hf j hj
        obtain ⟨hl', hcell⟩ := cells_of_some h1
        refine ⟨cs', by rw [hl', hc], hpe ▸ h2, fun i u hu => ?_⟩
        have := hcell i u hu
        rw [Go.Deep.add_add, hc] at this
        exact this
      · obtain ⟨j, hj, rfl⟩ := List.mem_map.1 hy
        exact (hf j (List.mem_range.1 hj)).2
/-- Two cuts of a list, one behind the other. -/
theorem take_drop_add {α : Type} (cs : List α) (m n : Nat) : (cs.drop m).take n ++ cs.drop (m + n) = cs.drop m := by
  rw [← List.drop_drop]; exact List.take_append_drop n (cs.drop m)
/-- The fields from number i on, of a struct, one kind a field. -/
def OpensF {α : Type} (P : Program) (fs : Array Field) (i off : Nat) (d : Kd α) (good : α → Prop) : Prop :=
  ∀ (H : Type) (enc : TypeId × Value → H) (W : World) (n : Nat) (cs : List Value) (xs : List (DataW H × List MemPlace)), off ≤ cs.length → cs.length - off = d.sz → xs.length = fs.size →
    (∀ (j : Nat) (f : Field), fs[j]? = some f → DataW.trod enc P W 0 (fun _ => true) true n f.type ((cs.drop f.offset).take (P.cellsOf f.type)) = xs[j]?) → ∃ a, d.K W a (cs.drop off) ∧ good a
theorem opensF_last {α : Type} {P : Program} {fs : Array Field} {i off : Nat} {d : Kd α} {good : α → Prop} (f : Field) (hf : fs[i]? = some f) (ho : f.offset = off) (hc : P.cellsOf f.type = d.sz) (h : Opens P f.type d good) :
    OpensF P fs i off d good := fun H enc W n cs xs hle hl hx hg => by
  have hi : i < fs.size := by
    rcases Nat.lt_or_ge i fs.size with h' | h'
    · exact h'
    · rw [Array.getElem?_eq_none h'] at hf; cases hf
  have h1 := hg i f hf
  have hxi : xs[i]? = some (xs[i]'(by omega)) := List.getElem?_eq_getElem (by omega)
  rw [hxi, ho, hc, List.take_of_length_le (by simp; omega)] at h1
  exact h H enc W n _ _ h1
theorem opensF_cons {α β : Type} {P : Program} {fs : Array Field} {i off : Nat} {d : Kd α} {good : α → Prop} {d' : Kd β} {good' : β → Prop} (f : Field) (hf : fs[i]? = some f) (ho : f.offset = off) (hc : P.cellsOf f.type = d.sz)
    (h : Opens P f.type d good) (h' : OpensF P fs (i + 1) (off + d.sz) d' good') : OpensF P fs i off (Kd.pair d d') (fun x => good x.1 ∧ good' x.2) := fun H enc W n cs xs hle hl hx hg => by
  have hi : i < fs.size := by
    rcases Nat.lt_or_ge i fs.size with h' | h'
    · exact h'
    · rw [Array.getElem?_eq_none h'] at hf; cases hf
  have h1 := hg i f hf
  have hxi : xs[i]? = some (xs[i]'(by omega)) := List.getElem?_eq_getElem (by omega)
  rw [hxi, ho, hc] at h1
  obtain ⟨a, ha, hga⟩ := h H enc W n _ _ h1
  have hs : cs.length - off = d.sz + d'.sz := hl
  obtain ⟨b, hb, hgb⟩ := h' H enc W n cs xs (by omega) (by omega) hx hg
  exact ⟨(a, b), ⟨(cs.drop off).take d.sz, cs.drop (off + d.sz), (take_drop_add cs off d.sz).symm, ha, hb⟩, hga, hgb⟩
theorem opens_struct {α : Type} {P : Program} {t : TypeId} {fs : Array Field} {d : Kd α} {good : α → Prop} (ht : P.underlying t = some (.struct fs)) (hc : P.cellsOf t = d.sz) (h : OpensF P fs 0 0 d good) : Opens P t d good :=
  fun H enc W fuel cs x hx => by
    obtain ⟨xs, n, _, _, hl, hxl, hg⟩ := DataW.trod_struct ht hx
    have := h H enc W n cs xs (Nat.zero_le _) (by omega) hxl hg
    simpa using this
theorem len_le {α : Type} {d : Kd α} {W : World} {A : Option Addr} {l : List α} (h : d.C W A l.length l) : l.length ≤ maxLen := by
  have := h.2.1
  unfold maxLen
  omega
theorem inner_len {α : Type} {d : Kd α} {e : Nat} {W : World} {A : Option Addr} {l : List (List α)} (h : (Kd.slice e d).C W A l.length l) : ∀ y ∈ l, y.length ≤ maxLen := fun y hy => by
  obtain ⟨i, hi, rfl⟩ := List.mem_iff_getElem.1 hy
  obtain ⟨ad, c, _, _, hK, _⟩ := Kd.C_get h [] (i : Int) (by omega) (by omega)
  have e2 : l.getD (i : Int).toNat [] = l[i] := by simp [hi]
  rw [e2] at hK
  obtain ⟨A', c', _, _, hC⟩ := hK
  exact len_le hC
end Go.Proofs.YtjihphegmdfpfaaDoor
end
section
set_option linter.unusedVariables false
namespace Go.Proofs.YtjihphegmdfpfaaDoor
open Go Go.RowKit Go.ChangeShapes Go.WideShapes Go.ChangeAt Go.WideMaps Go.WideElems
theorem kw_named : Tryd.prog.globalNamed "loop.example/s02884/impl.keywords" = some 0 := by kernel_rfl
theorem kw_type : (Tryd.prog.globals[0]?).map (·.type) = some 103 := by kernel_rfl
theorem kw_atKey {H : Type} : ∀ (l : List (List UInt8)) (k : List UInt8) (z : DataW H), (DataW.map (l.map fun x => (Lit.string x, DataW.lit (.bool true)))).atKey (.string k) z = if l.contains k then .lit (.bool true) else z := by
  intro l k z
  induction l with
  | nil => rfl
  | cons x l ih =>
    have hs : (Lit.string x).sameKey (Lit.string k) = (x == k) := rfl
    simp only [DataW.atKey] at ih
    simp only [DataW.atKey, List.map_cons, List.find?_cons, hs, List.contains_cons]
    by_cases h : x = k
    · subst h
      rw [show (x == x) = true from beq_self_eq_true x]
      rfl
    · rw [show (x == k) = false from beq_eq_false_iff_ne.2 h, show (k == x) = false from beq_eq_false_iff_ne.2 (Ne.symm h), Bool.false_or]
      exact ih
theorem kw_datum {H : Type} : (Rows.laid_loop_example_s02884_impl_keywords : DataW H) = .map (kwL.map fun x => (Lit.string x, DataW.lit (.bool true))) := rfl
set_option maxRecDepth 100000 in
theorem gok_of_laid {W : World} (h : laidMetH Tryd.prog [("loop.example/s02884/impl.keywords", Rows.laid_loop_example_s02884_impl_keywords)] W) : GOK W := by
  rw [MakeChecks.laidMetH_plain _ _ _ (by kernel_rfl)] at h
  obtain ⟨ps, ⟨g0, t0, cs0, f0, p0, q0, hg0, ht0, hv0, hd0, _, _⟩, _, _⟩ := h
  obtain rfl := Option.some.inj (kw_named.symm.trans hg0)
  obtain rfl := Option.some.inj (kw_type.symm.trans ht0)
  rcases open_map Tryd.underlying103 hd0 with ⟨_, hx⟩ | ⟨bm, es, clock, m, rfl, hcs, hb, _, F, hx⟩
  · exact absurd (congrArg Prod.fst hx) (by intro e; cases e)
  simp only [Prod.mk.injEq] at hx
  have hcell : W.cell? ⟨0, 0, none⟩ = some (.map (some bm)) := by
    have := World.var?_cell hg0 hv0 0
    rw [Array.eq_one_of_toList hcs] at this
    simpa using this
  refine ⟨bm, es, clock, hcell, hb, fun w' hb' s hs => ?_⟩
  have zero : (zeroValue 4).run Tryd.prog w' = .ok (.bool false) w' := by kernel_rfl
  rcases fit_lookup (w := w') (string_law Tryd.underlying9) Tryd.underlying103 zero hb' F (keyOf_string_mk (s := s) Tryd.underlying9 (by unfold maxLen; omega)) with ⟨hrun, hat⟩ | ⟨v, y, hrun, hRv, hat, _⟩
  · have := hat (.lit (.bool false))
    rw [← hx.1, kw_datum, kw_atKey] at this
    rw [hrun]
    unfold isKw
    cases hc : kwL.contains s.data.toList with
    | false => rfl
    | true => rw [hc] at this; simp at this
  · obtain ⟨r, rfl, rfl⟩ := elemAt_bool Tryd.underlying4 hRv
    have := hat (.lit (.bool false))
    rw [← hx.1, kw_datum, kw_atKey] at this
    rw [hrun]
    unfold isKw
    cases hc : kwL.contains s.data.toList with
    | false => rw [hc] at this; simp at this; rw [← this]
    | true => rw [hc] at this; simp at this; rw [← this]
end Go.Proofs.YtjihphegmdfpfaaDoor
end
section
set_option linter.unusedVariables false
set_option linter.unusedSimpArgs false
namespace Go.Proofs.YtjihphegmdfpfaaDoor.fnExactEncodeStm
open Go.ChangeShapes Go.WideShapes Go.ChangeAt Go.RowKit Go.Proofs.YtjihphegmdfpfaaDoor Go.Proofs.YtjihphegmdfpfaaDoor.L Go.Proofs.YtjihphegmdfpfaaDoorW.PrintWords
open Go.ChangeMaps (open_string shut_string)
def good77 (x : S77) : Prop := x.f0.size ≤ maxLen ∧ (Lit.int .i64 x.f1).wf = true
instance : Inhabited S77 := ⟨z77⟩
theorem open77 : Opens Tryd.prog 77 k77 good77 := fun H enc W fuel cs x h => by
  obtain ⟨a, ha, hg⟩ := (opens_struct Tryd.underlying77 (by kernel_rfl) (opensF_cons _ rfl rfl (by kernel_rfl) (opens_string Tryd.underlying9) (opensF_last _ rfl rfl (by kernel_rfl) (opens_int Tryd.underlying3)))) H enc W fuel cs x h
  exact ⟨⟨a.1, a.2⟩, ha, hg⟩
def good79 (x : S79) : Prop := (Lit.int .i64 x.f0).wf = true ∧ (Lit.int .i64 x.f1).wf = true ∧ x.f2.size ≤ maxLen
instance : Inhabited S79 := ⟨z79⟩
theorem open79 : Opens Tryd.prog 79 k79 good79 := fun H enc W fuel cs x h => by
  obtain ⟨a, ha, hg⟩ := (opens_struct Tryd.underlying79 (by kernel_rfl) (opensF_cons _ rfl rfl (by kernel_rfl) (opens_int Tryd.underlying3) (opensF_cons _ rfl rfl (by kernel_rfl) (opens_int Tryd.underlying3) (opensF_last _ rfl rfl (by kernel_rfl) (opens_string Tryd.underlying9))))) H enc W fuel cs x h
  exact ⟨⟨a.1, a.2.1, a.2.2⟩, ha, hg⟩
def good82 (x : S82) : Prop := (Lit.int .i64 x.f0).wf = true ∧ (Lit.int .i64 x.f1).wf = true ∧ x.f2.size ≤ maxLen
instance : Inhabited S82 := ⟨z82⟩
theorem open82 : Opens Tryd.prog 82 k82 good82 := fun H enc W fuel cs x h => by
  obtain ⟨a, ha, hg⟩ := (opens_struct Tryd.underlying82 (by kernel_rfl) (opensF_cons _ rfl rfl (by kernel_rfl) (opens_int Tryd.underlying3) (opensF_cons _ rfl rfl (by kernel_rfl) (opens_int Tryd.underlying3) (opensF_last _ rfl rfl (by kernel_rfl) (opens_string Tryd.underlying9))))) H enc W fuel cs x h
  exact ⟨⟨a.1, a.2.1, a.2.2⟩, ha, hg⟩
/-- THE ONE PURE STATEMENT of the law: no memory, no Go. -/
def Pure0 : Prop := ∀ (a0_0 : Int) (a0_1 : ByteArray) (l0_2 : List (S77)) (l0_3 : List (S79)) (a0_4 : ByteArray) (l0_5 : List (S82)) (l0_6 : List (S82)) (l0_7 : List (List (S82))), (Lit.int .i64 a0_0).wf = true → a0_1.size ≤ maxLen → l0_2.length ≤ maxLen → (∀ y ∈ l0_2, good77 y) → l0_3.length ≤ maxLen → (∀ y ∈ l0_3, good79 y) → a0_4.size ≤ maxLen → l0_5.length ≤ maxLen → (∀ y ∈ l0_5, good82 y) → l0_6.length ≤ maxLen → (∀ y ∈ l0_6, good82 y) → l0_7.length ≤ maxLen → (∀ y ∈ l0_7, (∀ z ∈ y, good82 z)) → (∀ y ∈ l0_7, y.length ≤ maxLen) → ∃ k, laws_FnExactEncodeStm.f k a0_0 a0_1 l0_2 l0_3 a0_4 l0_5 l0_6 l0_7 = some true
theorem own : ownKnob Tryd.prog.godebug = none := by kernel_rfl
theorem laidOut : laidOutB Tryd.prog = true := by kernel_rfl
/-- The door's own heap meets the condition. -/
theorem door_met (os : Os) (args : Array Value) : laidMetH Tryd.prog Rows.fnExactEncodeStmRow.laid ((World.doorLaid Tryd.prog 99 os).forCall (fun _ _ => 0) ⟨#[], args, []⟩).memory :=
  laidMetH_of_parts3 (fuel := 8) (laidMet_of_run' 8 (by kernel_rfl) (by kernel_rfl)) (by kernel_rfl) (by kernel_rfl)
set_option maxRecDepth 100000 in
theorem lifted (Q : Pure0) (os : Os) (started : os.Started) (H : Type) (enc : TypeId × Value → H) :
    ReturnsInHanded {} Tryd.checked os 3 .any (fun w args => (Rows.fnExactEncodeStmSpec.pre enc Tryd.prog Tryd.f3 [] false w args ∧ laidMetH Tryd.prog Rows.fnExactEncodeStmRow.laid w) ∧ sizedMet enc Tryd.prog Tryd.f3 (OpenSpec.ofChange Rows.fnExactEncodeStmSpec) false w args) (Rows.fnExactEncodeStmSpec.post enc Tryd.prog Tryd.f3 false true false false) := by
  refine returnsInHanded_of_change_and (C := Tryd.checked) (X := fun w _ => laidMetH Tryd.prog Rows.fnExactEncodeStmRow.laid w) (fun _ _ _ hh h => h.of_heap hh) own started (by kernel_rfl) Tryd.func3
    (ChangeSpec.witness_shaped (enc := enc) (C := Tryd.checked) (os := os) (X := fun w _ => laidMetH Tryd.prog Rows.fnExactEncodeStmRow.laid w) false (World.doorLaid Tryd.prog 99 os) #[.agg #[.int .i64 0, .string ByteArray.empty, .slice none 0 0, .slice none 0 0, .string ByteArray.empty, .slice none 0 0, .slice none 0 0, .slice none 0 0]] 8 rfl (World.shaped_of_RefB (by kernel_rfl) (by kernel_rfl)) (by kernel_rfl) (by kernel_rfl) (by kernel_rfl) (door_met os _)) ?_
  intro W base args ds gs before hval0 hW _ _ hL _
  have hval : ∀ (j : Nat) t v, Tryd.f3.params[j]? = some t → args[j]? = some v → Value.okWide Tryd.prog W .any base t v := hval0
  have hW' := hW
  obtain ⟨p, q, hA0, hV, rfl, hfz, hnd⟩ := hW
  have hA : DataW.TrodAll enc Tryd.prog W 0 (fun _ => true) true Tryd.f3.params.toList args.toList ds p := hA0
  rw [Tryd.params3] at hA hval
  obtain ⟨v0, vs0, d0, ds0, p0, q0, hargs, rfl, rfl, h0, r0⟩ := trodAll_cons hA
  obtain ⟨rfl, rfl, rfl⟩ := trodAll_nil r0
  obtain rfl : args = #[v0] := by cases args; simp_all
  have hV' := hV
  obtain ⟨g_, t_, cs_, fuel_, dg1, p_, rfl, _⟩ := trodVars_one hV'
  have hG := gok_of_laid hL
  have k0 := h0
  have lt0 : ∀ x ∈ p0, x.block < W.heap.size := by obtain ⟨m, hm⟩ := k0; exact DataW.trod_lt m _ _ _ hm
  obtain ⟨cs0, rfl, hsz0⟩ := okWide_struct Tryd.underlying27 (hval 0 27 v0 rfl rfl)
  obtain ⟨fuel0, hf0⟩ := h0
  obtain ⟨x0, hK0, hg0⟩ := (opens_struct Tryd.underlying27 (by kernel_rfl) (opensF_cons _ rfl rfl (by kernel_rfl) (opens_int Tryd.underlying3) (opensF_cons _ rfl rfl (by kernel_rfl) (opens_string Tryd.underlying9) (opensF_cons _ rfl rfl (by kernel_rfl) (opens_slice Tryd.underlying22 (by kernel_rfl) open77) (opensF_cons _ rfl rfl (by kernel_rfl) (opens_slice Tryd.underlying23 (by kernel_rfl) open79) (opensF_cons _ rfl rfl (by kernel_rfl) (opens_string Tryd.underlying9) (opensF_cons _ rfl rfl (by kernel_rfl) (opens_slice Tryd.underlying24 (by kernel_rfl) open82) (opensF_cons _ rfl rfl (by kernel_rfl) (opens_slice Tryd.underlying24 (by kernel_rfl) open82) (opensF_last _ rfl rfl (by kernel_rfl) (opens_slice Tryd.underlying25 (by kernel_rfl) (opens_slice Tryd.underlying24 (by kernel_rfl) open82))))))))))) H enc W fuel0 cs0.toList _ (by simpa [Value.cells] using hf0)
  obtain ⟨e7_, f7_, hcs0, rfl, ⟨e6_, f6_, rfl, rfl, ⟨e5_, f5_, rfl, ⟨A0_2, c0_2, rfl, hc0_2, hr0_2⟩, ⟨e4_, f4_, rfl, ⟨A0_3, c0_3, rfl, hc0_3, hr0_3⟩, ⟨e3_, f3_, rfl, rfl, ⟨e2_, f2_, rfl, ⟨A0_5, c0_5, rfl, hc0_5, hr0_5⟩, ⟨e1_, f1_, rfl, ⟨A0_6, c0_6, rfl, hc0_6, hr0_6⟩, ⟨A0_7, c0_7, rfl, hc0_7, hr0_7⟩⟩⟩⟩⟩⟩⟩⟩ := hK0
  obtain rfl : cs0 = #[.int .i64 x0.1, .string x0.2.1, .slice A0_2 x0.2.2.1.length c0_2, .slice A0_3 x0.2.2.2.1.length c0_3, .string x0.2.2.2.2.1, .slice A0_5 x0.2.2.2.2.2.1.length c0_5, .slice A0_6 x0.2.2.2.2.2.2.1.length c0_6, .slice A0_7 x0.2.2.2.2.2.2.2.length c0_7] := by
    have h_ := congrArg List.toArray hcs0
    simpa using h_
  clear hcs0 hsz0
  clear hA0 hval0
  obtain ⟨k, hk⟩ := Q (x0.1) (x0.2.1) (x0.2.2.1) (x0.2.2.2.1) (x0.2.2.2.2.1) (x0.2.2.2.2.2.1) (x0.2.2.2.2.2.2.1) (x0.2.2.2.2.2.2.2) hg0.1 hg0.2.1 (len_le hr0_2) hg0.2.2.1 (len_le hr0_3) hg0.2.2.2.1 hg0.2.2.2.2.1 (len_le hr0_5) hg0.2.2.2.2.2.1 (len_le hr0_6) hg0.2.2.2.2.2.2.1 (len_le hr0_7) hg0.2.2.2.2.2.2.2 (inner_len hr0_7)
  refine (laws_FnExactEncodeStm.calls k (x0.1) (x0.2.1) A0_2 c0_2 (x0.2.2.1) A0_3 c0_3 (x0.2.2.2.1) (x0.2.2.2.2.1) A0_5 c0_5 (x0.2.2.2.2.2.1) A0_6 c0_6 (x0.2.2.2.2.2.2.1) A0_7 c0_7 (x0.2.2.2.2.2.2.2) true rfl W hG hr0_2 hc0_2 hr0_3 hc0_3 hr0_5 hc0_5 hr0_6 hc0_6 hr0_7 hc0_7 hk).mono fun e W' he => ?_
  obtain ⟨rfl, bel0⟩ := he
  have bel : Below W.heap.size W W' := bel0
  exact ⟨_, rfl, _, _, _, [], _, _, hW', trodAll_mk1 (shut_bool Tryd.underlying4 _), (trodAll_cons_mk (Below.trod laidOut (by kernel_rfl) (of_decide_eq_true (by kernel_rfl)) k0 bel lt0) trodAll_mk0), Below.trodVars laidOut bel (by kernel_rfl) hV, bel.frame _, fun h => by cases h⟩
theorem over (Q : Pure0) : Rows.fnExactEncodeStmRow.holds Tryd.pinned (OpenSpec.ofChange Rows.fnExactEncodeStmSpec) :=
  OpenClaim.holds_of_wide 3 Tryd.f3 rfl rfl rfl rfl rfl rfl rfl ⟨rfl, rfl, rfl, rfl, rfl⟩ rfl rfl rfl rfl rfl (by kernel_rfl) Tryd.func3 (by kernel_rfl)
    (of_decide_eq_true (by kernel_rfl)) (by unfold Func.isWrapper; first | (rw [if_pos (by decide +kernel)]; kernel_rfl) | (rw [if_neg (by decide +kernel)]; exact ⟨rfl, rfl⟩))
    (fun os started H enc _ => lifted Q os started H enc)
/-- The tied card. -/
theorem card (Q : Pure0) : Rows.FnExactEncodeStmCardSaid :=
  Claim7.holds_tied_plain_at .later [] [.mapped] true (true, "f56a2c1c8eb66cf458e65581aaa40e526b4d1a9770ea9c3f6fe3b7baf59b329e") false (over Q) (fun _ h => by cases h) (by kernel_rfl) (fun _ h => by cases h) fnExactEncodeStm_row_tie rfl ⟨rfl, rfl⟩ (by kernel_rfl) rfl
    (fun f fn hf hfn => by
      obtain rfl : f = 3 := Option.some.inj ((show Tryd.prog.funcNamed "loop.example/s02884/laws.FnExactEncodeStm" = some 3 by kernel_rfl).symm.trans hf) |>.symm
      obtain rfl : fn = Tryd.f3 := (Option.some.inj (Tryd.func3.symm.trans hfn)).symm
      refine ⟨by kernel_rfl, fun j t ht => ?_⟩
      rw [Tryd.params3] at ht
      have ha : (#[27] : Array TypeId).all (fun t => !Tryd.prog.wantsStandIn t) = true := by kernel_rfl
      have h1 := (Array.all_eq_true_iff_forall_mem.1 ha) t (Array.mem_of_getElem? ht)
      have h2 : Tryd.prog.wantsStandIn t = false := by simpa using h1
      exact h2)
    (by kernel_rfl)
end Go.Proofs.YtjihphegmdfpfaaDoor.fnExactEncodeStm
end
section
set_option linter.unusedVariables false
namespace Go.Proofs.YtjihphegmdfpfaaDoor.Pure
open Go Go.RowKit Go.Proofs.YtjihphegmdfpfaaDoor Go.Proofs.YtjihphegmdfpfaaDoorW.PrintWords
theorem w64 (x : Int) (h : -9223372036854775808 ≤ x ∧ x ≤ 9223372036854775807) : wrap64 x = x := by unfold wrap64; omega
theorem wsucc (i : Nat) (h : i < 9223372036854775807) : wrap64 ((i : Int) + 1) = ((i + 1 : Nat) : Int) := by unfold wrap64; omega
theorem rdS (l : List ByteArray) (i : Nat) (h : i < l.length) : rdOf ByteArray.empty l (i : Int) = l[i] := by
  simp [rdOf, List.getD, h]
end Go.Proofs.YtjihphegmdfpfaaDoor.Pure
end
section
set_option linter.unusedVariables false
set_option linter.unusedSimpArgs false
namespace Go.Proofs.YtjihphegmdfpfaaDoor.Gen
open Go Go.RowKit Go.Proofs.YtjihphegmdfpfaaDoor Go.Proofs.YtjihphegmdfpfaaDoorW.PrintWords
/-- The sum of the elements' weights. -/
def sumW {α : Type} (w : α → Nat) (l : List α) : Nat := (l.map w).sum
theorem sumW_drop {α : Type} (w : α → Nat) (l : List α) (i : Nat) (h : i < l.length) : sumW w (l.drop i) = w l[i] + sumW w (l.drop (i + 1)) := by
  rw [show l.drop i = l[i] :: l.drop (i + 1) from List.drop_eq_getElem_cons h]
  rfl
theorem mem_sumW {α : Type} (w : α → Nat) (l : List α) (x : α) (h : x ∈ l) : w x ≤ sumW w l := by
  induction l with
  | nil => cases h
  | cons y l ih =>
    have e : sumW w (y :: l) = w y + sumW w l := rfl
    rcases List.mem_cons.1 h with rfl | h
    · omega
    · have := ih h; omega
theorem sz {α : Type} (w : α → Nat) (F : Nat → List α → Int → Int → Option Int) (E : Nat → α → Int → Option Int) (l : List α) (B : Int)
    (hs : ∀ k a (i : Nat) (h : i < l.length), F (k + 1) l a (i : Int) = (E k l[i] a).bind fun t => if t < 0 then some (-1) else F k l t ((i + 1 : Nat) : Int))
    (hz : ∀ k a, F (k + 1) l a (l.length : Int) = some a)
    (hE : ∀ x ∈ l, ∀ a, 0 ≤ a → a ≤ B → Ev (fun k => E k x a) (if (w x : Int) ≤ a then a - w x else -1)) (d : Nat) :
    ∀ (i : Nat) (a : Int), i + d = l.length → 0 ≤ a → a ≤ B → Ev (fun k => F k l a (i : Int)) (if (sumW w (l.drop i) : Int) ≤ a then a - sumW w (l.drop i) else -1) := by
  induction d with
  | zero =>
    intro i a hi h0 h1
    have hd : l.drop i = [] := List.drop_eq_nil_of_le (by omega)
    obtain rfl : i = l.length := by omega
    refine Ev.step (f := fun _ => some a) (fun k => hz k a) ?_
    rw [hd]
    have e : sumW w ([] : List α) = 0 := rfl
    rw [e, if_pos (by omega)]
    simpa using Ev.now a
  | succ d ih =>
    intro i a hi h0 h1
    have hil : i < l.length := by omega
    have hsum := sumW_drop w l i hil
    refine Ev.step (fun k => hs k a i hil) ?_
    refine (hE _ (List.getElem_mem hil) a h0 h1).bind ?_
    by_cases hc : (w l[i] : Int) ≤ a
    · simp only [if_pos hc, if_neg (show ¬ (a - (w l[i] : Int) < 0) by omega)]
      have := ih (i + 1) (a - (w l[i] : Int)) (by omega) (by omega) (by omega)
      have e1 : ((sumW w (l.drop (i + 1)) : Int) ≤ a - (w l[i] : Int)) ↔ ((sumW w (l.drop i) : Int) ≤ a) := by rw [hsum]; omega
      have e2 : a - (w l[i] : Int) - (sumW w (l.drop (i + 1)) : Int) = a - (sumW w (l.drop i) : Int) := by rw [hsum]; omega
      rw [e2] at this
      simpa only [e1] using this
    · simp only [if_neg hc, if_pos (show (-1 : Int) < 0 by decide)]
      rw [if_neg (by rw [hsum]; omega)]
      exact Ev.now _
theorem copy {α β : Type} (cv : α → β) (F : Nat → List α → List β → Int → Option (List β)) (E : Nat → α → Option β) (l : List α)
    (hs : ∀ k o (i : Nat) (h : i < l.length), o.length = l.length → F (k + 1) l o (i : Int) = (E k l[i]).bind fun t => F k l (o.set i t) ((i + 1 : Nat) : Int))
    (hz : ∀ k o, F (k + 1) l o (l.length : Int) = some o)
    (hE : ∀ x ∈ l, Ev (fun k => E k x) (cv x)) (d : Nat) :
    ∀ (i : Nat) (o : List β), i + d = l.length → o.length = l.length → (∀ j, j < i → o[j]? = (l.map cv)[j]?) → Ev (fun k => F k l o (i : Int)) (l.map cv) := by
  induction d with
  | zero =>
    intro i o hi ho hx
    have e : o = l.map cv := by
      apply List.ext_getElem?
      intro j
      by_cases hj : j < i
      · exact hx j hj
      · rw [List.getElem?_eq_none (by omega), List.getElem?_eq_none (by rw [List.length_map]; omega)]
    obtain rfl : i = l.length := by omega
    rw [← e]
    exact Ev.step (f := fun _ => some o) (fun k => hz k o) (Ev.now _)
  | succ d ih =>
    intro i o hi ho hx
    have hil : i < l.length := by omega
    refine Ev.step (fun k => hs k o i hil ho) ?_
    refine (hE _ (List.getElem_mem hil)).bind ?_
    refine ih (i + 1) (o.set i (cv l[i])) (by omega) (by rw [List.length_set]; exact ho) (fun j hj => ?_)
    rw [List.getElem?_set]
    by_cases h : i = j
    · subst h; simp [hil, ho]
    · rw [if_neg h]; exact hx j (by omega)
theorem eq {α : Type} (F : Nat → List α → List α → Int → Option Bool) (E : Nat → α → Option Bool) (l : List α)
    (hs : ∀ k (i : Nat) (h : i < l.length), F (k + 1) l l (i : Int) = (E k l[i]).bind fun t => if t = true then F k l l ((i + 1 : Nat) : Int) else some false)
    (hz : ∀ k, F (k + 1) l l (l.length : Int) = some true)
    (hE : ∀ x ∈ l, Ev (fun k => E k x) true) (d : Nat) : ∀ (i : Nat), i + d = l.length → Ev (fun k => F k l l (i : Int)) true := by
  induction d with
  | zero =>
    intro i hi
    obtain rfl : i = l.length := by omega
    exact Ev.step (f := fun _ => some true) (fun k => hz k) (Ev.now _)
  | succ d ih =>
    intro i hi
    have hil : i < l.length := by omega
    refine Ev.step (fun k => hs k i hil) ?_
    refine (hE _ (List.getElem_mem hil)).bind ?_
    simp only [if_true]
    exact ih (i + 1) (by omega)
theorem every {α : Type} (p : α → Bool) (r : Bool) (F : Nat → Int → Option Bool) (E : Nat → α → Option Bool) (l : List α)
    (hs : ∀ k (i : Nat) (h : i < l.length), F (k + 1) (i : Int) = (E k l[i]).bind fun t => if t = true then F k ((i + 1 : Nat) : Int) else some false)
    (hz : Ev (fun k => F k (l.length : Int)) r)
    (hE : ∀ x ∈ l, Ev (fun k => E k x) (p x)) (d : Nat) : ∀ (i : Nat), i + d = l.length → Ev (fun k => F k (i : Int)) ((l.drop i).all p && r) := by
  induction d with
  | zero =>
    intro i hi
    have hd : l.drop i = [] := List.drop_eq_nil_of_le (by omega)
    obtain rfl : i = l.length := by omega
    rw [hd]
    exact hz
  | succ d ih =>
    intro i hi
    have hil : i < l.length := by omega
    have hd : l.drop i = l[i] :: l.drop (i + 1) := List.drop_eq_getElem_cons hil
    refine Ev.step (fun k => hs k i hil) ?_
    refine (hE _ (List.getElem_mem hil)).bind ?_
    rw [hd, List.all_cons]
    cases hp : p l[i] with
    | false => simp only [Bool.false_and, if_neg (show ¬ (false = true) by decide)]; exact Ev.now _
    | true => simp only [if_true, Bool.true_and]; exact ih (i + 1) (by omega)
end Go.Proofs.YtjihphegmdfpfaaDoor.Gen
end
section
set_option linter.unusedVariables false
set_option linter.unusedSimpArgs false
namespace Go.Proofs.YtjihphegmdfpfaaDoor.Pure
open Go Go.RowKit Go.Proofs.YtjihphegmdfpfaaDoor Go.Proofs.YtjihphegmdfpfaaDoor.L Go.Proofs.YtjihphegmdfpfaaDoorW.PrintWords Go.Proofs.YtjihphegmdfpfaaDoorW.PrintMore Go.Proofs.YtjihphegmdfpfaaDoorW.PrintLast
abbrev LCol := S77
abbrev LVal := S79
abbrev LItm := S82
abbrev Col := S51
abbrev Val := S53
abbrev Itm := S88
def cvC (x : LCol) : Col := ⟨x.f0, x.f1⟩
def cvV (x : LVal) : Val := ⟨x.f0, x.f1, x.f2⟩
def cvI (x : LItm) : Itm := ⟨x.f0, x.f1, x.f2⟩
def wC (x : LCol) : Nat := x.f0.size
def wV (x : LVal) : Nat := x.f2.size
def wI (x : LItm) : Nat := x.f2.size
def wtL {α : Type} (w : α → Nat) (l : List α) : Nat := l.length + Gen.sumW w l
theorem rdLC (l : List LCol) (i : Nat) (h : i < l.length) : rd_T77 l (i : Int) = l[i] := by simp [rd_T77, h]
theorem rdLV (l : List LVal) (i : Nat) (h : i < l.length) : rd_T79 l (i : Int) = l[i] := by simp [rd_T79, h]
theorem rdLI (l : List LItm) (i : Nat) (h : i < l.length) : rd_T82 l (i : Int) = l[i] := by simp [rd_T82, h]
theorem rdCol (l : List Col) (i : Nat) (h : i < l.length) : rd_T51 l (i : Int) = l[i] := by simp [rd_T51, h]
theorem rdVal (l : List Val) (i : Nat) (h : i < l.length) : rd_T53 l (i : Int) = l[i] := by simp [rd_T53, h]
theorem rdItm (l : List Itm) (i : Nat) (h : i < l.length) : rd_T88 l (i : Int) = l[i] := by simp [rd_T88, h]
theorem rdLII (l : List (List LItm)) (i : Nat) (h : i < l.length) : rd_L5 l (i : Int) = l[i] := by simp [rd_L5, h]
theorem rdII (l : List (List Itm)) (i : Nat) (h : i < l.length) : rd_L9 l (i : Int) = l[i] := by simp [rd_L9, h]
theorem szf {α : Type} (w : α → Nat) (F : Nat → List α → Int → Int → Option Int) (G : Nat → Option Int) (l : List α) (a : Int) (hl : l.length ≤ 9223372036854775807) (h0 : 0 ≤ a) (h1 : a ≤ 1048576)
    (hG : ∀ k, G k = if (wrap64 (a - (l.length : Int))) < 0 then some (-1) else F k l (wrap64 (a - (l.length : Int))) 0)
    (h : ∀ b, 0 ≤ b → b ≤ 1048576 → Ev (fun k => F k l b ((0 : Nat) : Int)) (if (Gen.sumW w (l.drop 0) : Int) ≤ b then b - Gen.sumW w (l.drop 0) else -1)) :
    Ev G (if (wtL w l : Int) ≤ a then a - wtL w l else -1) := by
  refine Ev.congr hG ?_
  simp only [w64 (a - (l.length : Int)) (by omega)]
  by_cases hc : a - (l.length : Int) < 0
  · simp only [if_pos hc]
    rw [if_neg (by unfold wtL; omega)]
    exact Ev.now _
  · simp only [if_neg hc]
    have h := h (a - (l.length : Int)) (by omega) (by omega)
    simp only [List.drop_zero] at h
    have e1 : ((Gen.sumW w l : Int) ≤ a - (l.length : Int)) ↔ ((wtL w l : Int) ≤ a) := by unfold wtL; omega
    have e2 : a - (l.length : Int) - (Gen.sumW w l : Int) = a - (wtL w l : Int) := by unfold wtL; omega
    rw [e2] at h
    simp only [e1] at h
    exact h
theorem szColumn_ev (l : List LCol) (a : Int) (hl : l.length ≤ 9223372036854775807) (hs : ∀ y ∈ l, y.f0.size ≤ 9223372036854775807) (h0 : 0 ≤ a) (h1 : a ≤ 1048576) :
    Ev (fun k => laws_szColumnS.f k l a) (if (wtL wC l : Int) ≤ a then a - wtL wC l else -1) := by
  refine szf wC (fun k l a i => laws_szColumnS.l0 k l a i) _ l a (by omega) h0 h1 (fun k => rfl) (fun b hb0 hb1 => ?_)
  refine Gen.sz wC (fun k l a i => laws_szColumnS.l0 k l a i) (fun k x a => laws_szColumn.f x.f0 x.f1 a) l 1048576 (fun k a i h => ?_) (fun k a => ?_) (fun x hx a h0 h1 => ?_) l.length 0 b (by omega) hb0 hb1
  · rw [laws_szColumnS.l0, if_pos (by omega), if_pos (by omega), rdLC l i h, wsucc i (by omega)]
  · rw [laws_szColumnS.l0, if_neg (by omega)]
  · have := hs x hx
    unfold laws_szColumn.f
    rw [w64 (a - (x.f0.size : Int)) (by omega)]
    by_cases hc : a - (x.f0.size : Int) < 0
    · rw [if_pos hc, if_neg (show ¬ ((wC x : Nat) : Int) ≤ a by unfold wC; omega)]; exact Ev.now _
    · rw [if_neg hc, if_pos (show ((wC x : Nat) : Int) ≤ a by unfold wC; omega)]; exact Ev.now _
theorem toColumn_ev (l : List LCol) (hl : l.length ≤ 1048576) : Ev (fun k => laws_toColumnS.f k l) (l.map cvC) := by
  refine Ev.congr (fun k => ?_) (Gen.copy cvC (fun k l o i => laws_toColumnS.l0 k l o i) (fun k x => some (cvC x)) l (fun k o i h ho => ?_) (fun k o => ?_) (fun x hx => Ev.now _) l.length 0 (List.replicate l.length z51) (by omega) List.length_replicate (fun j hj => by omega))
  · unfold laws_toColumnS.f
    rw [if_pos (by omega), if_pos (by omega)]
    simp
  · rw [laws_toColumnS.l0, if_pos (by omega), if_pos (by omega), rdLC l i h]
    unfold laws_toColumn.f
    rw [Option.bind_some, if_pos (by omega), wsucc i (by omega)]
    rfl
  · rw [laws_toColumnS.l0, if_neg (by omega)]
theorem eqColumn_ev (l : List Col) (hl : l.length ≤ 9223372036854775807) : Ev (fun k => laws_eqColumnS.f k l l) true := by
  refine Ev.congr (fun k => ?_) (Gen.eq (fun k a b i => laws_eqColumnS.l0 k a b i) (fun k x => some true) l (fun k i h => ?_) (fun k => ?_) (fun x hx => Ev.now _) l.length 0 (by omega))
  · unfold laws_eqColumnS.f
    rw [if_pos rfl]
    rfl
  · rw [laws_eqColumnS.l0, if_pos (by omega), if_pos (by omega), if_pos (by omega), wsucc i (by omega)]
    unfold laws_eqColumn.f
    simp only [if_true]
  · rw [laws_eqColumnS.l0, if_neg (by omega)]
theorem szValue_ev (l : List LVal) (a : Int) (hl : l.length ≤ 9223372036854775807) (hs : ∀ y ∈ l, y.f2.size ≤ 9223372036854775807) (h0 : 0 ≤ a) (h1 : a ≤ 1048576) :
    Ev (fun k => laws_szValueS.f k l a) (if (wtL wV l : Int) ≤ a then a - wtL wV l else -1) := by
  refine szf wV (fun k l a i => laws_szValueS.l0 k l a i) _ l a (by omega) h0 h1 (fun k => rfl) (fun b hb0 hb1 => ?_)
  refine Gen.sz wV (fun k l a i => laws_szValueS.l0 k l a i) (fun k x a => laws_szValue.f x.f0 x.f1 x.f2 a) l 1048576 (fun k a i h => ?_) (fun k a => ?_) (fun x hx a h0 h1 => ?_) l.length 0 b (by omega) hb0 hb1
  · rw [laws_szValueS.l0, if_pos (by omega), if_pos (by omega), rdLV l i h, wsucc i (by omega)]
  · rw [laws_szValueS.l0, if_neg (by omega)]
  · have := hs x hx
    unfold laws_szValue.f
    rw [w64 (a - (x.f2.size : Int)) (by omega)]
    by_cases hc : a - (x.f2.size : Int) < 0
    · rw [if_pos hc, if_neg (show ¬ ((wV x : Nat) : Int) ≤ a by unfold wV; omega)]; exact Ev.now _
    · rw [if_neg hc, if_pos (show ((wV x : Nat) : Int) ≤ a by unfold wV; omega)]; exact Ev.now _
theorem toValue_ev (l : List LVal) (hl : l.length ≤ 1048576) : Ev (fun k => laws_toValueS.f k l) (l.map cvV) := by
  refine Ev.congr (fun k => ?_) (Gen.copy cvV (fun k l o i => laws_toValueS.l0 k l o i) (fun k x => some (cvV x)) l (fun k o i h ho => ?_) (fun k o => ?_) (fun x hx => Ev.now _) l.length 0 (List.replicate l.length z53) (by omega) List.length_replicate (fun j hj => by omega))
  · unfold laws_toValueS.f
    rw [if_pos (by omega), if_pos (by omega)]
    simp
  · rw [laws_toValueS.l0, if_pos (by omega), if_pos (by omega), rdLV l i h]
    unfold laws_toValue.f
    rw [Option.bind_some, if_pos (by omega), wsucc i (by omega)]
    rfl
  · rw [laws_toValueS.l0, if_neg (by omega)]
theorem eqValue_ev (l : List Val) (hl : l.length ≤ 9223372036854775807) : Ev (fun k => laws_eqValueS.f k l l) true := by
  refine Ev.congr (fun k => ?_) (Gen.eq (fun k a b i => laws_eqValueS.l0 k a b i) (fun k x => some true) l (fun k i h => ?_) (fun k => ?_) (fun x hx => Ev.now _) l.length 0 (by omega))
  · unfold laws_eqValueS.f
    rw [if_pos rfl]
    rfl
  · rw [laws_eqValueS.l0, if_pos (by omega), if_pos (by omega), if_pos (by omega), wsucc i (by omega)]
    unfold laws_eqValue.f
    simp only [if_true]
  · rw [laws_eqValueS.l0, if_neg (by omega)]
theorem szItem_ev (l : List LItm) (a : Int) (hl : l.length ≤ 9223372036854775807) (hs : ∀ y ∈ l, y.f2.size ≤ 9223372036854775807) (h0 : 0 ≤ a) (h1 : a ≤ 1048576) :
    Ev (fun k => laws_szItemS.f k l a) (if (wtL wI l : Int) ≤ a then a - wtL wI l else -1) := by
  refine szf wI (fun k l a i => laws_szItemS.l0 k l a i) _ l a (by omega) h0 h1 (fun k => rfl) (fun b hb0 hb1 => ?_)
  refine Gen.sz wI (fun k l a i => laws_szItemS.l0 k l a i) (fun k x a => laws_szItem.f x.f0 x.f1 x.f2 a) l 1048576 (fun k a i h => ?_) (fun k a => ?_) (fun x hx a h0 h1 => ?_) l.length 0 b (by omega) hb0 hb1
  · rw [laws_szItemS.l0, if_pos (by omega), if_pos (by omega), rdLI l i h, wsucc i (by omega)]
  · rw [laws_szItemS.l0, if_neg (by omega)]
  · have := hs x hx
    unfold laws_szItem.f
    rw [w64 (a - (x.f2.size : Int)) (by omega)]
    by_cases hc : a - (x.f2.size : Int) < 0
    · rw [if_pos hc, if_neg (show ¬ ((wI x : Nat) : Int) ≤ a by unfold wI; omega)]; exact Ev.now _
    · rw [if_neg hc, if_pos (show ((wI x : Nat) : Int) ≤ a by unfold wI; omega)]; exact Ev.now _
theorem toItem_ev (l : List LItm) (hl : l.length ≤ 1048576) : Ev (fun k => laws_toItemS.f k l) (l.map cvI) := by
  refine Ev.congr (fun k => ?_) (Gen.copy cvI (fun k l o i => laws_toItemS.l0 k l o i) (fun k x => some (cvI x)) l (fun k o i h ho => ?_) (fun k o => ?_) (fun x hx => Ev.now _) l.length 0 (List.replicate l.length z88) (by omega) List.length_replicate (fun j hj => by omega))
  · unfold laws_toItemS.f
    rw [if_pos (by omega), if_pos (by omega)]
    simp
  · rw [laws_toItemS.l0, if_pos (by omega), if_pos (by omega), rdLI l i h]
    unfold laws_toItem.f
    rw [Option.bind_some, if_pos (by omega), wsucc i (by omega)]
    rfl
  · rw [laws_toItemS.l0, if_neg (by omega)]
theorem eqItem_ev (l : List Itm) (hl : l.length ≤ 9223372036854775807) : Ev (fun k => laws_eqItemS.f k l l) true := by
  refine Ev.congr (fun k => ?_) (Gen.eq (fun k a b i => laws_eqItemS.l0 k a b i) (fun k x => some true) l (fun k i h => ?_) (fun k => ?_) (fun x hx => Ev.now _) l.length 0 (by omega))
  · unfold laws_eqItemS.f
    rw [if_pos rfl]
    rfl
  · rw [laws_eqItemS.l0, if_pos (by omega), if_pos (by omega), if_pos (by omega), wsucc i (by omega)]
    unfold laws_eqItem.f
    simp only [if_true]
  · rw [laws_eqItemS.l0, if_neg (by omega)]
def wII (l : List LItm) : Nat := wtL wI l
def cvII (l : List LItm) : List Itm := l.map cvI
theorem szItemSS_ev (l : List (List LItm)) (a : Int) (hl : l.length ≤ 9223372036854775807) (hs : ∀ y ∈ l, y.length ≤ 9223372036854775807 ∧ ∀ z ∈ y, z.f2.size ≤ 9223372036854775807) (h0 : 0 ≤ a) (h1 : a ≤ 1048576) :
    Ev (fun k => laws_szItemSS.f k l a) (if (wtL wII l : Int) ≤ a then a - wtL wII l else -1) := by
  refine szf wII (fun k l a i => laws_szItemSS.l0 k l a i) _ l a (by omega) h0 h1 (fun k => rfl) (fun b hb0 hb1 => ?_)
  refine Gen.sz wII (fun k l a i => laws_szItemSS.l0 k l a i) (fun k x a => laws_szItemS.f k x a) l 1048576 (fun k a i h => ?_) (fun k a => ?_) (fun x hx a h0 h1 => ?_) l.length 0 b (by omega) hb0 hb1
  · rw [laws_szItemSS.l0, if_pos (by omega), if_pos (by omega), rdLII l i h, wsucc i (by omega)]
  · rw [laws_szItemSS.l0, if_neg (by omega)]
  · exact szItem_ev x a (hs x hx).1 (hs x hx).2 h0 h1
theorem toItemSS_ev (l : List (List LItm)) (hl : l.length ≤ 1048576) (hs : ∀ y ∈ l, y.length ≤ 1048576) : Ev (fun k => laws_toItemSS.f k l) (l.map cvII) := by
  refine Ev.congr (fun k => ?_) (Gen.copy cvII (fun k l o i => laws_toItemSS.l0 k l o i) (fun k x => laws_toItemS.f k x) l (fun k o i h ho => ?_) (fun k o => ?_) (fun x hx => toItem_ev x (hs x hx)) l.length 0 (List.replicate l.length []) (by omega) List.length_replicate (fun j hj => by omega))
  · unfold laws_toItemSS.f
    rw [if_pos (by omega), if_pos (by omega)]
    simp
  · rw [laws_toItemSS.l0, if_pos (by omega), if_pos (by omega), rdLII l i h]
    simp only [if_pos (show (i : Int) < (o.length : Int) by omega), wsucc i (show i < 9223372036854775807 by omega), Int.toNat_natCast]
  · rw [laws_toItemSS.l0, if_neg (by omega)]
theorem eqItemSS_ev (l : List (List Itm)) (hl : l.length ≤ 9223372036854775807) (hs : ∀ y ∈ l, y.length ≤ 9223372036854775807) : Ev (fun k => laws_eqItemSS.f k l l) true := by
  refine Ev.congr (fun k => ?_) (Gen.eq (fun k a b i => laws_eqItemSS.l0 k a b i) (fun k x => laws_eqItemS.f k x x) l (fun k i h => ?_) (fun k => ?_) (fun x hx => eqItem_ev x (hs x hx)) l.length 0 (by omega))
  · unfold laws_eqItemSS.f
    rw [if_pos rfl]
    rfl
  · rw [laws_eqItemSS.l0, if_pos (by omega), if_pos (by omega), if_pos (by omega), rdII l i h, wsucc i (by omega)]
  · rw [laws_eqItemSS.l0, if_neg (by omega)]
/-- What a statement weighs. -/
def wtStm (table : ByteArray) (cols : List LCol) (vals : List LVal) (col : ByteArray) (exp wh : List LItm) (outs : List (List LItm)) : Nat :=
  table.size + wtL wC cols + wtL wV vals + col.size + wtL wI exp + wtL wI wh + wtL wII outs
/-- What is asked of the lengths that came in. -/
def StmIn (table : ByteArray) (cols : List LCol) (vals : List LVal) (col : ByteArray) (exp wh : List LItm) (outs : List (List LItm)) : Prop :=
  table.size ≤ 9223372036854775807 ∧ (cols.length ≤ 9223372036854775807 ∧ ∀ y ∈ cols, y.f0.size ≤ 9223372036854775807) ∧ (vals.length ≤ 9223372036854775807 ∧ ∀ y ∈ vals, y.f2.size ≤ 9223372036854775807) ∧ col.size ≤ 9223372036854775807 ∧
    (exp.length ≤ 9223372036854775807 ∧ ∀ y ∈ exp, y.f2.size ≤ 9223372036854775807) ∧ (wh.length ≤ 9223372036854775807 ∧ ∀ y ∈ wh, y.f2.size ≤ 9223372036854775807) ∧ (outs.length ≤ 9223372036854775807 ∧ ∀ y ∈ outs, y.length ≤ 9223372036854775807 ∧ ∀ z ∈ y, z.f2.size ≤ 9223372036854775807)
theorem szStm_ev (kind : Int) (table : ByteArray) (cols : List LCol) (vals : List LVal) (col : ByteArray) (exp wh : List LItm) (outs : List (List LItm)) (m : Int) (h : StmIn table cols vals col exp wh outs) (h0 : 0 ≤ m) (h1 : m ≤ 1048576) :
    Ev (fun k => laws_szStm.f k kind table cols vals col exp wh outs m) (if (wtStm table cols vals col exp wh outs : Int) ≤ m then m - wtStm table cols vals col exp wh outs else -1) := by
  obtain ⟨g1, ⟨g2, g2s⟩, ⟨g3, g3s⟩, g4, ⟨g5, g5s⟩, ⟨g6, g6s⟩, ⟨g7, g7s⟩⟩ := h
  have bad : ¬ ((wtStm table cols vals col exp wh outs : Int) ≤ m) → Ev (fun _ => some (-1 : Int)) (if (wtStm table cols vals col exp wh outs : Int) ≤ m then m - wtStm table cols vals col exp wh outs else -1) := fun hb => by
    rw [if_neg hb]; exact Ev.now _
  unfold laws_szStm.f
  have n1 : (-1 : Int) < 0 := by decide
  have w1 : wrap64 (m - (table.size : Int)) = m - (table.size : Int) := w64 _ (by omega)
  simp only [w1]
  by_cases c1 : m - (table.size : Int) < 0
  · simp only [if_pos c1]; exact bad (by unfold wtStm; omega)
  simp only [if_neg c1]
  refine (szColumn_ev cols (m - (table.size : Int)) g2 g2s (by omega) (by omega)).bind ?_
  by_cases c2 : (wtL wC cols : Int) ≤ m - (table.size : Int)
  case neg => simp only [if_neg c2, if_pos n1]; exact bad (by unfold wtStm; omega)
  obtain ⟨m2, hm2⟩ : ∃ m2, m - (table.size : Int) - (wtL wC cols : Int) = m2 := ⟨_, rfl⟩
  simp only [if_pos c2, hm2, if_neg (show ¬ m2 < 0 by omega)]
  refine (szValue_ev vals m2 g3 g3s (by omega) (by omega)).bind ?_
  by_cases c3 : (wtL wV vals : Int) ≤ m2
  case neg => simp only [if_neg c3, if_pos n1]; exact bad (by unfold wtStm; omega)
  obtain ⟨m3, hm3⟩ : ∃ m3, m2 - (wtL wV vals : Int) = m3 := ⟨_, rfl⟩
  have w4 : wrap64 (m3 - (col.size : Int)) = m3 - (col.size : Int) := w64 _ (by omega)
  simp only [if_pos c3, hm3, if_neg (show ¬ m3 < 0 by omega), w4]
  by_cases c4 : m3 - (col.size : Int) < 0
  · simp only [if_pos c4]; exact bad (by unfold wtStm; omega)
  simp only [if_neg c4]
  refine (szItem_ev exp (m3 - (col.size : Int)) g5 g5s (by omega) (by omega)).bind ?_
  by_cases c5 : (wtL wI exp : Int) ≤ m3 - (col.size : Int)
  case neg => simp only [if_neg c5, if_pos n1]; exact bad (by unfold wtStm; omega)
  obtain ⟨m5, hm5⟩ : ∃ m5, m3 - (col.size : Int) - (wtL wI exp : Int) = m5 := ⟨_, rfl⟩
  simp only [if_pos c5, hm5, if_neg (show ¬ m5 < 0 by omega)]
  refine (szItem_ev wh m5 g6 g6s (by omega) (by omega)).bind ?_
  by_cases c6 : (wtL wI wh : Int) ≤ m5
  case neg => simp only [if_neg c6, if_pos n1]; exact bad (by unfold wtStm; omega)
  obtain ⟨m6, hm6⟩ : ∃ m6, m5 - (wtL wI wh : Int) = m6 := ⟨_, rfl⟩
  simp only [if_pos c6, hm6, if_neg (show ¬ m6 < 0 by omega)]
  refine (szItemSS_ev outs m6 g7 g7s (by omega) (by omega)).bind ?_
  by_cases c7 : (wtL wII outs : Int) ≤ m6
  case neg => simp only [if_neg c7, if_pos n1]; exact bad (by unfold wtStm; omega)
  simp only [if_pos c7, if_neg (show ¬ (m6 - (wtL wII outs : Int) < 0) by omega)]
  rw [if_pos (show (wtStm table cols vals col exp wh outs : Int) ≤ m by unfold wtStm; omega)]
  have e : m - (wtStm table cols vals col exp wh outs : Int) = m6 - (wtL wII outs : Int) := by unfold wtStm; omega
  rw [e]
  exact Ev.now _
theorem toStm_ev (kind : Int) (table : ByteArray) (cols : List LCol) (vals : List LVal) (col : ByteArray) (exp wh : List LItm) (outs : List (List LItm)) (h : wtStm table cols vals col exp wh outs ≤ 1048576) :
    Ev (fun k => laws_toStm.f k kind table cols vals col exp wh outs) (kind, table, cols.map cvC, vals.map cvV, col, exp.map cvI, wh.map cvI, outs.map cvII) := by
  unfold wtStm wtL at h
  unfold laws_toStm.f
  refine (toColumn_ev cols (by omega)).bind ?_
  refine (toValue_ev vals (by omega)).bind ?_
  refine (toItem_ev exp (by omega)).bind ?_
  refine (toItem_ev wh (by omega)).bind ?_
  refine (toItemSS_ev outs (by omega) (fun y hy => ?_)).bind (Ev.now _)
  have := Gen.mem_sumW wII outs y hy
  have e : wII y = y.length + Gen.sumW wI y := rfl
  omega
theorem eqStm_ev (kind : Int) (table : ByteArray) (cols : List Col) (vals : List Val) (col : ByteArray) (exp wh : List Itm) (outs : List (List Itm)) (h2 : cols.length ≤ 9223372036854775807) (h3 : vals.length ≤ 9223372036854775807) (h5 : exp.length ≤ 9223372036854775807) (h6 : wh.length ≤ 9223372036854775807) (h7 : outs.length ≤ 9223372036854775807) (h7s : ∀ y ∈ outs, y.length ≤ 9223372036854775807) :
    Ev (fun k => laws_eqStm.f k kind table cols vals col exp wh outs kind table cols vals col exp wh outs) true := by
  unfold laws_eqStm.f
  simp only [if_true]
  refine (eqColumn_ev cols h2).bind ?_
  simp only [if_true]
  refine (eqValue_ev vals h3).bind ?_
  simp only [if_true]
  refine (eqItem_ev exp h5).bind ?_
  simp only [if_true]
  refine (eqItem_ev wh h6).bind ?_
  simp only [if_true]
  refine (eqItemSS_ev outs h7 h7s).bind ?_
  simp only [if_true]
  exact Ev.now _
end Go.Proofs.YtjihphegmdfpfaaDoor.Pure
end
section
set_option linter.unusedVariables false
set_option linter.unusedSimpArgs false
namespace Go.Proofs.YtjihphegmdfpfaaDoor.Pure
open Go Go.RowKit Go.Proofs.YtjihphegmdfpfaaDoor Go.Proofs.YtjihphegmdfpfaaDoor.L Go.Proofs.YtjihphegmdfpfaaDoorW.PrintWords Go.Proofs.YtjihphegmdfpfaaDoorW.PrintMore Go.Proofs.YtjihphegmdfpfaaDoorW.PrintLast
theorem ff : ¬ (false = true) := by decide
theorem between_b (x lo hi : Int) : spec_l1Between.f x lo hi = some (decide (lo ≤ x ∧ x ≤ hi)) := by
  unfold spec_l1Between.f
  by_cases h0 : lo ≤ x
  · rw [if_pos h0]; simp [h0]
  · rw [if_neg h0]; simp [h0]
theorem spec_letter (c : Int) : spec_l4Letter.f c = some (decide (97 ≤ c) && decide (c ≤ 122)) := by
  unfold spec_l4Letter.f
  by_cases h1 : 97 ≤ c <;> by_cases h2 : c ≤ 122 <;> simp [h1, h2]
theorem spec_inner (c : Int) : spec_l4Inner.f c = some (wordByte c) := by
  unfold spec_l4Inner.f wordByte
  rw [spec_letter]
  by_cases h1 : 97 ≤ c <;> by_cases h2 : c ≤ 122 <;> by_cases h3 : 48 ≤ c <;> by_cases h4 : c ≤ 57 <;> simp [h1, h2, h3, h4]
theorem has_l0 (s : ByteArray) (l : List ByteArray) (hl : l.length ≤ 1000) (d : Nat) : ∀ i : Nat, i + d = l.length → Ev (fun k => spec_l4Has.l0 k s l (l.length : Int) (i : Int)) ((l.drop i).any fun x => decide (x.toList = s.toList)) := by
  induction d with
  | zero =>
    intro i hi
    have hd : l.drop i = [] := List.drop_eq_nil_of_le (by omega)
    rw [hd]
    refine Ev.step (f := fun _ => some false) (fun k => ?_) (Ev.now _)
    rw [spec_l4Has.l0, if_neg (by omega)]
  | succ d ih =>
    intro i hi
    have hil : i < l.length := by omega
    have hd : l.drop i = l[i] :: l.drop (i + 1) := List.drop_eq_getElem_cons hil
    rw [hd, List.any_cons]
    by_cases h : l[i].toList = s.toList
    · refine Ev.step (f := fun _ => some true) (fun k => ?_) ?_
      · rw [spec_l4Has.l0, if_pos (by omega), if_pos (by omega), if_pos (by omega), rdS l i hil, if_pos h]
      · rw [decide_eq_true h, Bool.true_or]; exact Ev.now _
    · refine Ev.step (f := fun k => spec_l4Has.l0 k s l (l.length : Int) ((i + 1 : Nat) : Int)) (fun k => ?_) ?_
      · rw [spec_l4Has.l0, if_pos (by omega), if_pos (by omega), if_pos (by omega), rdS l i hil, if_neg h, wsucc i (by omega)]
      · rw [decide_eq_false h, Bool.false_or]; exact ih (i + 1) (by omega)
/-- The reference's keywords. -/
def kwS : List ByteArray := (spec_l4Keywords.f).getD []
theorem kwS_eq : spec_l4Keywords.f = some kwS := rfl
theorem kw_sub1 : ∀ a ∈ kwS.map (fun x => x.data.toList), a ∈ kwL := by decide
theorem kw_sub2 : ∀ a ∈ kwL, a ∈ kwS.map (fun x => x.data.toList) := by decide
theorem has_kw (s : ByteArray) : (kwS.any fun x => decide (x.toList = s.toList)) = isKw s := by
  rw [Bool.eq_iff_iff]
  unfold isKw
  rw [List.any_eq_true, List.contains_iff_mem]
  constructor
  · rintro ⟨x, hx, h⟩
    have h := of_decide_eq_true h
    rw [ByteArray.toList_eq, ByteArray.toList_eq] at h
    rw [← h]
    exact kw_sub1 _ (List.mem_map_of_mem hx)
  · intro h
    obtain ⟨x, hx, e⟩ := List.mem_map.1 (kw_sub2 _ h)
    exact ⟨x, hx, decide_eq_true (by rw [ByteArray.toList_eq, ByteArray.toList_eq]; exact e)⟩
theorem name_l0 (s : ByteArray) (hs : s.size ≤ 1000) (d : Nat) : ∀ i : Nat, i + d = s.size → Ev (fun k => spec_l4Name.l0 k s (i : Int)) (allFrom wordByte s d i) := by
  induction d with
  | zero =>
    intro i hi
    exact Ev.step (f := fun _ => some true) (fun k => by rw [spec_l4Name.l0, if_neg (by omega)]) (Ev.now _)
  | succ d ih =>
    intro i hi
    rw [allFrom]
    refine Ev.step (f := fun k => if wordByte (bt s i) = true then spec_l4Name.l0 k s ((i + 1 : Nat) : Int) else some false) (fun k => ?_) ?_
    · rw [spec_l4Name.l0, if_pos (by omega), if_pos (by omega), spec_inner, Option.bind_some, wsucc i (by omega)]
    · cases hb : wordByte (bt s i) with
      | false => simp only [if_neg ff, Bool.false_and]; exact Ev.now _
      | true => simp only [if_true, Bool.true_and]; exact ih (i + 1) (by omega)
theorem spec_nm (s : ByteArray) : Ev (fun k => spec_l4Name.f k s) (nameKw s) := by
  have hbad : Ev (fun k => spec_l4Name.j0 k s true) false := Ev.step (f := fun _ => some false) (fun k => by rw [spec_l4Name.j0, if_pos rfl]) (Ev.now _)
  unfold spec_l4Name.f nameKw
  simp only [between_b, Option.bind_some, spec_letter, kwS_eq]
  by_cases h1 : 1 ≤ s.size
  · by_cases h2 : s.size ≤ 30
    · simp only [decide_eq_true (show (1 : Int) ≤ (s.size : Int) ∧ (s.size : Int) ≤ 30 by omega), if_true, if_pos (show (0 : Int) < (s.size : Int) by omega), decide_eq_true h1, decide_eq_true h2, Bool.true_and]
      cases hL : (decide (97 ≤ bt s 0) && decide (bt s 0 ≤ 122)) with
      | false => simp only [if_neg ff, Bool.false_and]; exact hbad
      | true =>
        simp only [if_true, Bool.true_and]
        have hh := has_l0 s kwS (by decide) kwS.length 0 (by omega)
        rw [List.drop_zero, has_kw] at hh
        refine Ev.bind (Ev.congr (fun k => rfl) hh) ?_
        cases hk : isKw s with
        | true => simp only [Bool.not_true, Bool.and_false]; exact hbad
        | false =>
          simp only [Bool.not_false, Bool.and_true]
          refine Ev.step (fun k => by rw [spec_l4Name.j0, if_neg ff]) ?_
          exact name_l0 s (by omega) s.size 0 (by omega)
    · simp only [decide_eq_false (show ¬ ((1 : Int) ≤ (s.size : Int) ∧ (s.size : Int) ≤ 30) by omega), if_neg ff, decide_eq_true h1, decide_eq_false h2, Bool.true_and, Bool.false_and]
      exact hbad
  · simp only [decide_eq_false (show ¬ ((1 : Int) ≤ (s.size : Int) ∧ (s.size : Int) ≤ 30) by omega), if_neg ff, decide_eq_false h1, Bool.false_and]
    exact hbad
theorem impl_nm (s : ByteArray) (hs : s.size ≤ 9223372036854775807) : impl_isName.f s = some (nameKw s) := by rw [impl_isName.f, if_pos hs]
/-- A text. -/
def textOk (s : ByteArray) : Bool := decide (s.size ≤ 200) && allFrom textByte s s.size 0
theorem impl_txt (s : ByteArray) (hs : s.size ≤ 9223372036854775807) : impl_isText.f s = some (textOk s) := by rw [impl_isText.f, if_pos hs]; rfl
theorem text_l0 (s : ByteArray) (hs : s.size ≤ 1000) (d : Nat) : ∀ i : Nat, i + d = s.size → Ev (fun k => spec_l4Text.l0 k s (i : Int)) (allFrom textByte s d i) := by
  induction d with
  | zero =>
    intro i hi
    exact Ev.step (f := fun _ => some true) (fun k => by rw [spec_l4Text.l0, if_neg (by omega)]) (Ev.now _)
  | succ d ih =>
    intro i hi
    rw [allFrom]
    have hr := bt_range s i
    have hw : wrap64 (bt s i) = bt s i := w64 _ (by omega)
    have ht : decide (32 ≤ bt s i ∧ bt s i ≤ 126) = textByte (bt s i) := by
      unfold textByte
      by_cases h1 : 32 ≤ bt s i <;> by_cases h2 : bt s i ≤ 126 <;> simp [h1, h2]
    refine Ev.step (f := fun k => if textByte (bt s i) = true then spec_l4Text.l0 k s ((i + 1 : Nat) : Int) else some false) (fun k => ?_) ?_
    · rw [spec_l4Text.l0, if_pos (by omega), if_pos (by omega), hw, between_b, ht, Option.bind_some, wsucc i (by omega)]
    · cases hb : textByte (bt s i) with
      | false => simp only [if_neg ff, Bool.false_and]; exact Ev.now _
      | true => simp only [if_true, Bool.true_and]; exact ih (i + 1) (by omega)
theorem spec_txt (s : ByteArray) : Ev (fun k => spec_l4Text.f k s) (textOk s) := by
  unfold spec_l4Text.f textOk
  by_cases h : s.size ≤ 200
  · simp only [if_neg (show ¬ (s.size : Int) > 200 by omega), decide_eq_true h, Bool.true_and]
    exact text_l0 s (by omega) s.size 0 (by omega)
  · simp only [if_pos (show (s.size : Int) > 200 by omega), decide_eq_false h, Bool.false_and]
    exact Ev.now _
def numOk (n : Int) : Bool := n != (-9223372036854775808)
/-- A value of a statement. -/
def valOk (t n : Int) (x : ByteArray) : Bool := if t = 1 then (numOk n && (x.toList == ([] : List UInt8))) else if t = 2 then (decide (n = 0) && textOk x) else false
theorem spec_val (t n : Int) (x : ByteArray) : Ev (fun k => spec_l4Value.f k t n x) (valOk t n x) := by
  unfold spec_l4Value.f valOk spec_l4Number.f numOk
  by_cases h1 : t = 1
  · simp only [if_pos h1, Option.bind_some]
    cases (n != (-9223372036854775808)) with
    | false => simp only [if_neg ff, Bool.false_and]; exact Ev.now _
    | true => simp only [if_true, Bool.true_and]; exact Ev.now _
  · by_cases h2 : t = 2
    · by_cases h3 : n = 0
      · simp only [if_neg h1, if_pos h2, if_pos h3, decide_eq_true h3, Bool.true_and]
        exact (spec_txt x).bind (Ev.now _)
      · simp only [if_neg h1, if_pos h2, if_neg h3, decide_eq_false h3, Bool.false_and]; exact Ev.now _
    · simp only [if_neg h1, if_neg h2]; exact Ev.now _
theorem impl_val (t n : Int) (x : ByteArray) (hx : x.size ≤ 9223372036854775807) : impl_valueOK.f t n x = some (valOk t n x) := by
  unfold impl_valueOK.f valOk impl_isNumber.f numOk
  rw [impl_txt x hx]
  by_cases h1 : t = 1
  · simp only [if_pos h1, Option.bind_some]
    cases (n != (-9223372036854775808)) <;> simp
  · by_cases h2 : t = 2
    · by_cases h3 : n = 0
      · simp [h1, h2, h3]
      · simp [h1, h2, h3]
    · simp [h1, h2]
/-- An item of an expression. -/
def itmOk (op n : Int) (x : ByteArray) : Bool :=
  if op = 1 then (numOk n && (x.toList == ([] : List UInt8))) else if op = 2 then (decide (n = 0) && textOk x) else if op = 3 then (decide (n = 0) && nameKw x) else (decide (4 ≤ op ∧ op ≤ 13) && (decide (n = 0) && (x.toList == ([] : List UInt8))))
def arity (op : Int) : Int := if op ≤ 3 then 0 else if op = 11 then 1 else if op = 13 then 1 else 2
theorem spec_itm (op n : Int) (x : ByteArray) : Ev (fun k => spec_l4Item.f k op n x) (itmOk op n x) := by
  unfold spec_l4Item.f itmOk spec_l4Number.f numOk
  by_cases h1 : op = 1
  · simp only [if_pos h1, Option.bind_some]
    cases (n != (-9223372036854775808)) with
    | false => simp only [if_neg ff, Bool.false_and]; exact Ev.now _
    | true => simp only [if_true, Bool.true_and]; exact Ev.now _
  · by_cases h2 : op = 2
    · by_cases hn : n = 0
      · simp only [if_neg h1, if_pos h2, if_pos hn, decide_eq_true hn, Bool.true_and]
        exact (spec_txt x).bind (Ev.now _)
      · simp only [if_neg h1, if_pos h2, if_neg hn, decide_eq_false hn, Bool.false_and]; exact Ev.now _
    · by_cases h3 : op = 3
      · by_cases hn : n = 0
        · simp only [if_neg h1, if_neg h2, if_pos h3, if_pos hn, decide_eq_true hn, Bool.true_and]
          exact (spec_nm x).bind (Ev.now _)
        · simp only [if_neg h1, if_neg h2, if_pos h3, if_neg hn, decide_eq_false hn, Bool.false_and]; exact Ev.now _
      · simp only [if_neg h1, if_neg h2, if_neg h3, between_b, Option.bind_some]
        by_cases h4 : 4 ≤ op ∧ op ≤ 13
        · by_cases hn : n = 0
          · simp only [decide_eq_true h4, if_true, if_pos hn, decide_eq_true hn, Bool.true_and]; exact Ev.now _
          · simp only [decide_eq_true h4, if_true, if_neg hn, decide_eq_false hn, Bool.true_and, Bool.false_and]; exact Ev.now _
        · simp only [decide_eq_false h4, if_neg ff, Bool.false_and]; exact Ev.now _
theorem spec_ar (op : Int) : spec_l4Arity.f op = some (arity op) := by
  unfold spec_l4Arity.f arity
  split
  · rfl
  · split
    · rfl
    · split <;> rfl
def opnds (op : Int) : Int := if op = 1 ∨ op = 2 ∨ op = 3 then 0 else if op = 11 ∨ op = 13 then 1 else if (4 ≤ op ∧ op ≤ 10) ∨ op = 12 then 2 else -1
theorem impl_opnds (op : Int) : Ev (fun k => impl_operands.f k op) (opnds op) := by
  have e0 : ∀ k, impl_operands.f k op = impl_operands.j0 k op (decide (op = 1 ∨ op = 2 ∨ op = 3)) := fun k => by
    unfold impl_operands.f
    by_cases h1 : op = 1
    · simp [h1]
    · by_cases h2 : op = 2
      · simp [h2]
      · by_cases h3 : op = 3
        · simp [h3]
        · simp only [if_neg h1, if_neg h2, decide_eq_false (show ¬ (op = 1 ∨ op = 2 ∨ op = 3) by omega), show (op == 3) = false from beq_eq_false_iff_ne.2 h3]
  refine Ev.congr e0 ?_
  unfold opnds
  by_cases h : op = 1 ∨ op = 2 ∨ op = 3
  · rw [decide_eq_true h, if_pos h]
    exact Ev.step (f := fun _ => some 0) (fun k => by rw [impl_operands.j0, if_pos rfl]) (Ev.now _)
  · rw [decide_eq_false h, if_neg h]
    refine Ev.step (f := fun k => impl_operands.j1 k op (decide (op = 11 ∨ op = 13))) (fun k => ?_) ?_
    · rw [impl_operands.j0, if_neg ff]
      by_cases h1 : op = 11
      · simp [h1]
      · rw [if_neg h1]
        congr 1
        by_cases h2 : op = 13
        · simp [h2]
        · rw [decide_eq_false (by omega)]; exact beq_eq_false_iff_ne.2 h2
    · by_cases h2 : op = 11 ∨ op = 13
      · rw [decide_eq_true h2, if_pos h2]
        exact Ev.step (f := fun _ => some 1) (fun k => by rw [impl_operands.j1, if_pos rfl]) (Ev.now _)
      · rw [decide_eq_false h2, if_neg h2]
        refine Ev.step (f := fun _ => some (if (4 ≤ op ∧ op ≤ 10) ∨ op = 12 then 2 else -1)) (fun k => ?_) (Ev.now _)
        rw [impl_operands.j1, if_neg ff]
        by_cases q : (4 ≤ op ∧ op ≤ 10) ∨ op = 12
        · rw [if_pos q]
          have : op = 4 ∨ op = 5 ∨ op = 6 ∨ op = 7 ∨ op = 8 ∨ op = 9 ∨ op = 10 ∨ op = 12 := by omega
          rcases this with rfl | rfl | rfl | rfl | rfl | rfl | rfl | rfl <;> simp
        · rw [if_neg q, if_neg (by omega), if_neg (by omega), if_neg (by omega), if_neg (by omega), if_neg (by omega), if_neg (by omega), if_neg (by omega), if_neg (by omega)]
theorem impl_itm (op n : Int) (x : ByteArray) (hx : x.size ≤ 9223372036854775807) : Ev (fun k => impl_itemOK.f k op n x) (itmOk op n x) := by
  unfold impl_itemOK.f itmOk impl_isNumber.f numOk
  simp only [impl_txt x hx, impl_nm x hx]
  by_cases h1 : op = 1
  · simp only [if_pos h1, Option.bind_some]
    cases (n != (-9223372036854775808)) with
    | false => simp only [if_neg ff, Bool.false_and]; exact Ev.now _
    | true => simp only [if_true, Bool.true_and]; exact Ev.now _
  · by_cases h2 : op = 2
    · by_cases hn : n = 0
      · simp only [if_neg h1, if_pos h2, if_pos hn, decide_eq_true hn, Bool.true_and, Option.bind_some]; exact Ev.now _
      · simp only [if_neg h1, if_pos h2, if_neg hn, decide_eq_false hn, Bool.false_and]; exact Ev.now _
    · by_cases h3 : op = 3
      · by_cases hn : n = 0
        · simp only [if_neg h1, if_neg h2, if_pos h3, if_pos hn, decide_eq_true hn, Bool.true_and, Option.bind_some]; exact Ev.now _
        · simp only [if_neg h1, if_neg h2, if_pos h3, if_neg hn, decide_eq_false hn, Bool.false_and]; exact Ev.now _
      · simp only [if_neg h1, if_neg h2, if_neg h3]
        refine (impl_opnds op).bind ?_
        have ho : (opnds op ≥ 0) ↔ (4 ≤ op ∧ op ≤ 13) := by unfold opnds; split <;> (try split) <;> (try split) <;> omega
        by_cases h4 : 4 ≤ op ∧ op ≤ 13
        · by_cases hn : n = 0
          · simp only [if_pos (ho.2 h4), decide_eq_true h4, if_pos hn, decide_eq_true hn, Bool.true_and]; exact Ev.now _
          · simp only [if_pos (ho.2 h4), decide_eq_true h4, if_neg hn, decide_eq_false hn, Bool.true_and, Bool.false_and]; exact Ev.now _
        · simp only [if_neg (fun e => h4 (ho.1 e)), decide_eq_false h4, Bool.false_and]; exact Ev.now _
/-- An expression from its item number i on, with so many operands on the stack. -/
def expRun : List Itm → Int → Bool
  | [], d => d == 1
  | t :: r, d => itmOk t.f0 t.f1 t.f2 && (if d < arity t.f0 then false else expRun r (d + (1 - arity t.f0)))
theorem arity_range (op : Int) : 0 ≤ arity op ∧ arity op ≤ 2 := by
  unfold arity
  split
  · omega
  · split
    · omega
    · split <;> omega
theorem opnds_arity (op : Int) (h : 1 ≤ op ∧ op ≤ 13) : opnds op = arity op := by
  have : op = 1 ∨ op = 2 ∨ op = 3 ∨ op = 4 ∨ op = 5 ∨ op = 6 ∨ op = 7 ∨ op = 8 ∨ op = 9 ∨ op = 10 ∨ op = 11 ∨ op = 12 ∨ op = 13 := by omega
  rcases this with rfl | rfl | rfl | rfl | rfl | rfl | rfl | rfl | rfl | rfl | rfl | rfl | rfl <;> decide
theorem itmOk_op {op n : Int} {x : ByteArray} (h : itmOk op n x = true) : 1 ≤ op ∧ op ≤ 13 := by
  unfold itmOk at h
  by_cases h1 : op = 1
  · omega
  · by_cases h2 : op = 2
    · omega
    · by_cases h3 : op = 3
      · omega
      · rw [if_neg h1, if_neg h2, if_neg h3, Bool.and_eq_true] at h
        have := of_decide_eq_true h.1
        omega
theorem spec_exp_l0 (l : List Itm) (hl : l.length ≤ 1000) (e : Nat) : ∀ (i : Nat) (d : Int), i + e = l.length → 0 ≤ d → d ≤ i → Ev (fun k => spec_l4Exp.l0 k d l (l.length : Int) (i : Int)) (expRun (l.drop i) d) := by
  induction e with
  | zero =>
    intro i d hi h0 h1
    have hd : l.drop i = [] := List.drop_eq_nil_of_le (by omega)
    rw [hd]
    exact Ev.step (f := fun _ => some (d == 1)) (fun k => by rw [spec_l4Exp.l0, if_neg (by omega)]) (Ev.now _)
  | succ e ih =>
    intro i d hi h0 h1
    have hil : i < l.length := by omega
    have hd : l.drop i = l[i] :: l.drop (i + 1) := List.drop_eq_getElem_cons hil
    have ha := arity_range l[i].f0
    have w1 : wrap64 (1 - arity l[i].f0) = 1 - arity l[i].f0 := w64 _ (by omega)
    have w2 : wrap64 (d + (1 - arity l[i].f0)) = d + (1 - arity l[i].f0) := w64 _ (by omega)
    rw [hd, expRun]
    refine Ev.step (f := fun k => (spec_l4Item.f k l[i].f0 l[i].f1 l[i].f2).bind fun t => if t = true then (if d < arity l[i].f0 then some false else spec_l4Exp.l0 k (d + (1 - arity l[i].f0)) l (l.length : Int) ((i + 1 : Nat) : Int)) else some false) (fun k => ?_) ?_
    · rw [spec_l4Exp.l0, if_pos (by omega), if_pos (by omega), if_pos (by omega), rdItm l i hil]
      simp only [spec_ar, Option.bind_some, w1, w2, wsucc i (show i < 9223372036854775807 by omega)]
    · refine (spec_itm _ _ _).bind ?_
      cases hk : itmOk l[i].f0 l[i].f1 l[i].f2 with
      | false => simp only [if_neg ff, Bool.false_and]; exact Ev.now _
      | true =>
        simp only [if_true, Bool.true_and]
        by_cases hc : d < arity l[i].f0
        · simp only [if_pos hc]; exact Ev.now _
        · simp only [if_neg hc]; exact ih (i + 1) _ (by omega) (by omega) (by omega)
theorem impl_exp_l0 (l : List Itm) (hl : l.length ≤ 1000) (hs : ∀ y ∈ l, y.f2.size ≤ 9223372036854775807) (e : Nat) : ∀ (i : Nat) (d : Int), i + e = l.length → 0 ≤ d → d ≤ i → Ev (fun k => impl_expOK.l0 k d l (l.length : Int) (i : Int)) (expRun (l.drop i) d) := by
  induction e with
  | zero =>
    intro i d hi h0 h1
    have hd : l.drop i = [] := List.drop_eq_nil_of_le (by omega)
    rw [hd]
    exact Ev.step (f := fun _ => some (d == 1)) (fun k => by rw [impl_expOK.l0, if_neg (by omega)]) (Ev.now _)
  | succ e ih =>
    intro i d hi h0 h1
    have hil : i < l.length := by omega
    have hd : l.drop i = l[i] :: l.drop (i + 1) := List.drop_eq_getElem_cons hil
    rw [hd, expRun]
    refine Ev.step (f := fun k => (impl_operands.f k l[i].f0).bind fun u => (impl_itemOK.f k l[i].f0 l[i].f1 l[i].f2).bind fun t => if t = true then (if d < u then some false else impl_expOK.l0 k (wrap64 (d + (wrap64 (1 - u)))) l (l.length : Int) ((i + 1 : Nat) : Int)) else some false) (fun k => ?_) ?_
    · rw [impl_expOK.l0, if_pos (by omega), if_pos (by omega), if_pos (by omega), rdItm l i hil, wsucc i (by omega)]
    · refine (impl_opnds _).bind ?_
      refine (impl_itm _ _ _ (hs _ (List.getElem_mem hil))).bind ?_
      cases hk : itmOk l[i].f0 l[i].f1 l[i].f2 with
      | false => simp only [if_neg ff, Bool.false_and]; exact Ev.now _
      | true =>
        have ha := arity_range l[i].f0
        have w1 : wrap64 (1 - arity l[i].f0) = 1 - arity l[i].f0 := w64 _ (by omega)
        have w2 : wrap64 (d + (1 - arity l[i].f0)) = d + (1 - arity l[i].f0) := w64 _ (by omega)
        simp only [if_true, Bool.true_and, opnds_arity _ (itmOk_op hk), w1, w2]
        by_cases hc : d < arity l[i].f0
        · simp only [if_pos hc]; exact Ev.now _
        · simp only [if_neg hc]; exact ih (i + 1) _ (by omega) (by omega) (by omega)
/-- An expression. -/
def expOk (l : List Itm) : Bool := decide (1 ≤ l.length ∧ l.length ≤ 100) && expRun l 0
theorem spec_exp (l : List Itm) : Ev (fun k => spec_l4Exp.f k l) (expOk l) := by
  unfold spec_l4Exp.f expOk
  simp only [between_b, Option.bind_some]
  by_cases h : 1 ≤ l.length ∧ l.length ≤ 100
  · simp only [decide_eq_true (show (1 : Int) ≤ (l.length : Int) ∧ (l.length : Int) ≤ 100 by omega), if_true, decide_eq_true h, Bool.true_and]
    exact spec_exp_l0 l (by omega) l.length 0 0 (by omega) (by omega) (by omega)
  · simp only [decide_eq_false (show ¬ ((1 : Int) ≤ (l.length : Int) ∧ (l.length : Int) ≤ 100) by omega), if_neg ff, decide_eq_false h, Bool.false_and]
    exact Ev.now _
theorem impl_exp (l : List Itm) (hs : ∀ y ∈ l, y.f2.size ≤ 9223372036854775807) : Ev (fun k => impl_expOK.f k l) (expOk l) := by
  have hbad : Ev (fun k => impl_expOK.j0 k l true) false := Ev.step (f := fun _ => some false) (fun k => by rw [impl_expOK.j0, if_pos rfl]) (Ev.now _)
  unfold impl_expOK.f expOk
  by_cases h1 : 1 ≤ l.length
  · by_cases h2 : l.length ≤ 100
    · simp only [if_neg (show ¬ (l.length : Int) < 1 by omega), decide_eq_false (show ¬ (l.length : Int) > 100 by omega), decide_eq_true (And.intro h1 h2), Bool.true_and]
      refine Ev.step (fun k => by rw [impl_expOK.j0, if_neg ff]) ?_
      exact impl_exp_l0 l (by omega) hs l.length 0 0 (by omega) (by omega) (by omega)
    · simp only [if_neg (show ¬ (l.length : Int) < 1 by omega), decide_eq_true (show (l.length : Int) > 100 by omega), decide_eq_false (show ¬ (1 ≤ l.length ∧ l.length ≤ 100) by omega), Bool.false_and]
      exact hbad
  · simp only [if_pos (show (l.length : Int) < 1 by omega), decide_eq_false (show ¬ (1 ≤ l.length ∧ l.length ≤ 100) by omega), Bool.false_and]
    exact hbad
def whOk (l : List Itm) : Bool := decide (l.length = 0) || expOk l
theorem spec_wh (l : List Itm) : Ev (fun k => spec_l4Where.f k l) (whOk l) := by
  unfold spec_l4Where.f whOk
  by_cases h : l.length = 0
  · simp only [if_pos (show (l.length : Int) = 0 by omega), decide_eq_true h, Bool.true_or]; exact Ev.now _
  · simp only [if_neg (show ¬ (l.length : Int) = 0 by omega), decide_eq_false h, Bool.false_or]
    exact (spec_exp l).bind (Ev.now _)
def colOk (c : Col) : Bool := nameKw c.f0 && (decide (c.f1 = 1) || decide (c.f1 = 2))
/-- The document's StmOK. -/
def stmOk (kind : Int) (table : ByteArray) (cols : List Col) (vals : List Val) (col : ByteArray) (exp wh : List Itm) (outs : List (List Itm)) : Bool :=
  nameKw table &&
    (if kind = 1 then decide (vals.length = 0) && (decide (col.toList = ([] : List UInt8)) && (decide (exp.length = 0) && (decide (outs.length = 0) && (decide (wh.length = 0) && (decide (1 ≤ cols.length ∧ cols.length ≤ 20) && cols.all colOk)))))
     else if kind = 2 then decide (cols.length = 0) && (decide (col.toList = ([] : List UInt8)) && (decide (exp.length = 0) && (decide (outs.length = 0) && (decide (wh.length = 0) && (decide (1 ≤ vals.length ∧ vals.length ≤ 20) && vals.all fun v => valOk v.f0 v.f1 v.f2)))))
     else if kind = 3 then decide (cols.length = 0) && (decide (vals.length = 0) && (decide (outs.length = 0) && (nameKw col && (expOk exp && whOk wh))))
     else if kind = 4 then decide (cols.length = 0) && (decide (vals.length = 0) && (decide (col.toList = ([] : List UInt8)) && (decide (exp.length = 0) && (decide (outs.length = 0) && whOk wh))))
     else if kind = 5 then decide (cols.length = 0) && (decide (vals.length = 0) && (decide (col.toList = ([] : List UInt8)) && (decide (exp.length = 0) && (decide (1 ≤ outs.length ∧ outs.length ≤ 20) && (outs.all expOk && whOk wh)))))
     else false)
end Go.Proofs.YtjihphegmdfpfaaDoor.Pure
end
section
set_option linter.unusedVariables false
set_option linter.unusedSimpArgs false
namespace Go.Proofs.YtjihphegmdfpfaaDoor.Pure
open Go Go.RowKit Go.Proofs.YtjihphegmdfpfaaDoor Go.Proofs.YtjihphegmdfpfaaDoor.L Go.Proofs.YtjihphegmdfpfaaDoorW.PrintWords Go.Proofs.YtjihphegmdfpfaaDoorW.PrintMore Go.Proofs.YtjihphegmdfpfaaDoorW.PrintLast
/-- Does something stand that this kind has not? -/
def bad (kind : Int) (cols : List Col) (vals : List Val) (col : ByteArray) (exp : List Itm) (outs : List (List Itm)) : Bool :=
  (decide (¬ kind = 1) && decide (¬ cols.length = 0)) || ((decide (¬ kind = 2) && decide (¬ vals.length = 0)) || ((decide (¬ kind = 3) && (decide (¬ col.toList = ([] : List UInt8)) || decide (¬ exp.length = 0))) || (decide (¬ kind = 5) && decide (¬ outs.length = 0))))
theorem ne0 {α : Type} (l : List α) : ((l.length : Int) != 0) = decide (¬ l.length = 0) := by
  by_cases h : l.length = 0
  · simp [h]
  · rw [decide_eq_true h]; exact bne_iff_ne.2 (by omega)
theorem len0 {α : Type} (l : List α) : ((l.length : Int) = 0) ↔ l.length = 0 := by omega
theorem spec_f_eq (k : Nat) (kind : Int) (table : ByteArray) (cols : List Col) (vals : List Val) (col : ByteArray) (exp wh : List Itm) (outs : List (List Itm)) :
    spec_StmOK.f k kind table cols vals col exp wh outs = (spec_l4Name.f k table).bind fun t => if t = true then spec_StmOK.j0 k kind (bad kind cols vals col exp outs) kind table cols vals col exp wh outs else some false := by
  unfold spec_StmOK.f bad
  simp only [ne0, len0]
  congr 1
  funext t
  cases t with
  | false => simp only [if_neg ff]
  | true =>
    simp only [if_true]
    by_cases h1 : kind = 1
    · subst h1
      by_cases e2 : vals.length = 0 <;> by_cases e3 : col.toList = ([] : List UInt8) <;> by_cases e4 : exp.length = 0 <;> simp [e2, e3, e4]
    · by_cases h2 : kind = 2
      · subst h2
        by_cases e1 : cols.length = 0 <;> by_cases e3 : col.toList = ([] : List UInt8) <;> by_cases e4 : exp.length = 0 <;> simp [e1, e3, e4]
      · by_cases h3 : kind = 3
        · subst h3
          by_cases e1 : cols.length = 0 <;> by_cases e2 : vals.length = 0 <;> simp [e1, e2]
        · by_cases h5 : kind = 5
          · subst h5
            by_cases e1 : cols.length = 0 <;> by_cases e2 : vals.length = 0 <;> by_cases e3 : col.toList = ([] : List UInt8) <;> by_cases e4 : exp.length = 0 <;> simp [e1, e2, e3, e4]
          · by_cases e1 : cols.length = 0 <;> by_cases e2 : vals.length = 0 <;> by_cases e3 : col.toList = ([] : List UInt8) <;> by_cases e4 : exp.length = 0 <;> simp [h1, h2, h3, h5, e1, e2, e3, e4]
theorem spec_type (t : Int) : spec_l4Type.f t = some (decide (t = 1) || decide (t = 2)) := by
  unfold spec_l4Type.f
  by_cases h : t = 1
  · simp [h]
  · rw [if_neg h, decide_eq_false h, Bool.false_or]
    by_cases h2 : t = 2
    · simp [h2]
    · rw [decide_eq_false h2, show (t == 2) = false from beq_eq_false_iff_ne.2 h2]
theorem bind_two {β : Type} (x : Option Bool) (b : Bool) (y : Option β) (z : Option β) :
    (x.bind fun t => if t = true then ((some b : Option Bool).bind fun u => if u = true then y else z) else z) = ((x.bind fun t => some (t && b)).bind fun v => if v = true then y else z) := by
  cases x with
  | none => rfl
  | some t => cases t <;> cases b <;> rfl
section
variable (table : ByteArray) (cols : List Col) (vals : List Val) (col : ByteArray) (exp wh : List Itm) (outs : List (List Itm))
theorem j0_true (kind : Int) : Ev (fun k => spec_StmOK.j0 k kind true kind table cols vals col exp wh outs) false :=
  Ev.step (f := fun _ => some false) (fun k => by rw [spec_StmOK.j0, if_pos rfl]) (Ev.now _)
theorem j1_true (kind : Int) : Ev (fun k => spec_StmOK.j1 k kind true kind table cols vals col exp wh outs) false :=
  Ev.step (f := fun _ => some false) (fun k => by rw [spec_StmOK.j1, if_pos rfl]) (Ev.now _)
theorem j0_low (kind : Int) (h : kind < 3) {r : Bool} (hr : Ev (fun k => spec_StmOK.j1 k kind (decide (¬ wh.length = 0)) kind table cols vals col exp wh outs) r) : Ev (fun k => spec_StmOK.j0 k kind false kind table cols vals col exp wh outs) r :=
  Ev.step (fun k => by rw [spec_StmOK.j0, if_neg ff, if_pos h, ne0]) hr
theorem j0_high (kind : Int) (h : ¬ kind < 3) {r : Bool} (hr : Ev (fun k => spec_StmOK.j1 k kind false kind table cols vals col exp wh outs) r) : Ev (fun k => spec_StmOK.j0 k kind false kind table cols vals col exp wh outs) r :=
  Ev.step (fun k => by rw [spec_StmOK.j0, if_neg ff, if_neg h]) hr
theorem spec_cols (hl : cols.length ≤ 1000000000) : Ev (fun k => spec_StmOK.l0 k cols (cols.length : Int) ((0 : Nat) : Int) 1 table cols vals col exp wh outs) (decide (1 ≤ cols.length ∧ cols.length ≤ 20) && cols.all colOk) := by
  by_cases h20 : cols.length ≤ 20
  · have := Gen.every (α := Col) colOk (decide (1 ≤ cols.length)) (fun k i => spec_StmOK.l0 k cols (cols.length : Int) i 1 table cols vals col exp wh outs)
      (fun k c => (spec_l4Name.f k c.f0).bind fun t => some (t && (decide (c.f1 = 1) || decide (c.f1 = 2)))) cols (fun k i h => by
        rw [spec_StmOK.l0, if_pos (by omega), if_pos (by omega), if_pos (by omega), if_neg (by omega), rdCol cols i h, wsucc i (by omega)]
        simp only [spec_type]
        exact bind_two _ _ _ _)
      (Ev.step (f := fun _ => some (decide (1 ≤ cols.length))) (fun k => by
        rw [spec_StmOK.l0, if_neg (by omega)]
        congr 1
        by_cases h : 1 ≤ cols.length
        · rw [decide_eq_true h, decide_eq_true (by omega)]
        · rw [decide_eq_false h, decide_eq_false (by omega)]) (Ev.now _))
      (fun c _ => (spec_nm c.f0).bind (Ev.now _)) cols.length 0 (by omega)
    have e : (decide (1 ≤ cols.length ∧ cols.length ≤ 20) && cols.all colOk) = ((cols.drop 0).all colOk && decide (1 ≤ cols.length)) := by
      rw [List.drop_zero, Bool.and_comm]
      by_cases h : 1 ≤ cols.length
      · rw [decide_eq_true h, decide_eq_true (And.intro h h20)]
      · rw [decide_eq_false h, decide_eq_false (fun x => h x.1)]
    rw [e]
    exact this
  · refine Ev.step (f := fun _ => some false) (fun k => ?_) ?_
    · rw [spec_StmOK.l0, if_pos (by omega), if_pos (by omega), if_pos (by omega), if_pos (by omega)]
    · rw [decide_eq_false (fun x => h20 x.2), Bool.false_and]; exact Ev.now _
theorem spec_vals (hl : vals.length ≤ 1000000000) : Ev (fun k => spec_StmOK.l1 k vals (vals.length : Int) ((0 : Nat) : Int) 2 table cols vals col exp wh outs) (decide (1 ≤ vals.length ∧ vals.length ≤ 20) && vals.all fun v => valOk v.f0 v.f1 v.f2) := by
  by_cases h20 : vals.length ≤ 20
  · have := Gen.every (α := Val) (fun v => valOk v.f0 v.f1 v.f2) (decide (1 ≤ vals.length)) (fun k i => spec_StmOK.l1 k vals (vals.length : Int) i 2 table cols vals col exp wh outs)
      (fun k v => spec_l4Value.f k v.f0 v.f1 v.f2) vals (fun k i h => by
        rw [spec_StmOK.l1, if_pos (by omega), if_pos (by omega), if_pos (by omega), if_neg (by omega), rdVal vals i h, wsucc i (by omega)])
      (Ev.step (f := fun _ => some (decide (1 ≤ vals.length))) (fun k => by
        rw [spec_StmOK.l1, if_neg (by omega)]
        congr 1
        by_cases h : 1 ≤ vals.length
        · rw [decide_eq_true h, decide_eq_true (by omega)]
        · rw [decide_eq_false h, decide_eq_false (by omega)]) (Ev.now _))
      (fun v _ => spec_val _ _ _) vals.length 0 (by omega)
    have e : (decide (1 ≤ vals.length ∧ vals.length ≤ 20) && vals.all fun v => valOk v.f0 v.f1 v.f2) = ((vals.drop 0).all (fun v => valOk v.f0 v.f1 v.f2) && decide (1 ≤ vals.length)) := by
      rw [List.drop_zero, Bool.and_comm]
      by_cases h : 1 ≤ vals.length
      · rw [decide_eq_true h, decide_eq_true (And.intro h h20)]
      · rw [decide_eq_false h, decide_eq_false (fun x => h x.1)]
    rw [e]
    exact this
  · refine Ev.step (f := fun _ => some false) (fun k => ?_) ?_
    · rw [spec_StmOK.l1, if_pos (by omega), if_pos (by omega), if_pos (by omega), if_pos (by omega)]
    · rw [decide_eq_false (fun x => h20 x.2), Bool.false_and]; exact Ev.now _
theorem spec_outs (hl : outs.length ≤ 1000000000) : Ev (fun k => spec_StmOK.l2 k outs (outs.length : Int) ((0 : Nat) : Int) 5 table cols vals col exp wh outs) (decide (1 ≤ outs.length ∧ outs.length ≤ 20) && (outs.all expOk && whOk wh)) := by
  by_cases h20 : outs.length ≤ 20
  · have := Gen.every (α := List Itm) expOk (decide (1 ≤ outs.length) && whOk wh) (fun k i => spec_StmOK.l2 k outs (outs.length : Int) i 5 table cols vals col exp wh outs)
      (fun k v => spec_l4Exp.f k v) outs (fun k i h => by
        rw [spec_StmOK.l2, if_pos (by omega), if_pos (by omega), if_pos (by omega), if_neg (by omega), rdII outs i h, wsucc i (by omega)])
      (by
        by_cases h : 1 ≤ outs.length
        · refine Ev.step (f := fun k => (spec_l4Where.f k wh).bind fun t => some t) (fun k => by rw [spec_StmOK.l2, if_neg (by omega), if_pos (by omega)]) ?_
          rw [decide_eq_true h, Bool.true_and]
          exact (spec_wh wh).bind (Ev.now _)
        · refine Ev.step (f := fun _ => some false) (fun k => by rw [spec_StmOK.l2, if_neg (by omega), if_neg (by omega)]) ?_
          rw [decide_eq_false h, Bool.false_and]
          exact Ev.now _)
      (fun v _ => spec_exp _) outs.length 0 (by omega)
    have e : (decide (1 ≤ outs.length ∧ outs.length ≤ 20) && (outs.all expOk && whOk wh)) = ((outs.drop 0).all expOk && (decide (1 ≤ outs.length) && whOk wh)) := by
      rw [List.drop_zero]
      by_cases h : 1 ≤ outs.length
      · rw [decide_eq_true h, decide_eq_true (And.intro h h20)]; simp
      · rw [decide_eq_false h, decide_eq_false (fun x => h x.1)]; simp
    rw [e]
    exact this
  · refine Ev.step (f := fun _ => some false) (fun k => ?_) ?_
    · rw [spec_StmOK.l2, if_pos (by omega), if_pos (by omega), if_pos (by omega), if_pos (by omega)]
    · rw [decide_eq_false (fun x => h20 x.2), Bool.false_and]; exact Ev.now _
theorem spec_stm (kind : Int) (h2 : cols.length ≤ 1000000000) (h3 : vals.length ≤ 1000000000) (h7 : outs.length ≤ 1000000000) :
    Ev (fun k => spec_StmOK.f k kind table cols vals col exp wh outs) (stmOk kind table cols vals col exp wh outs) := by
  refine Ev.congr (fun k => spec_f_eq k kind table cols vals col exp wh outs) ?_
  refine (spec_nm table).bind ?_
  unfold stmOk
  cases hn : nameKw table with
  | false => simp only [if_neg ff, Bool.false_and]; exact Ev.now _
  | true =>
    simp only [if_true, Bool.true_and]
    by_cases k1 : kind = 1
    · subst k1
      by_cases e2 : vals.length = 0 <;> by_cases e3 : col.toList = ([] : List UInt8) <;> by_cases e4 : exp.length = 0 <;> by_cases e5 : outs.length = 0
      all_goals
        simp only [bad, decide_not, decide_true, decide_false, Bool.not_true, Bool.not_false, Bool.false_and, Bool.true_and, Bool.or_false, Bool.false_or, Bool.true_or, Bool.or_true, Bool.and_true, Bool.and_false, if_true, ite_false, if_neg ff, show ¬ (1 : Int) = 2 by decide, show ¬ (1 : Int) = 3 by decide, show ¬ (1 : Int) = 4 by decide, show ¬ (1 : Int) = 5 by decide, e2, e3, e4, e5]
        first
        | exact j0_true table cols vals col exp wh outs 1
        | (refine j0_low table cols vals col exp wh outs 1 (by decide) ?_
           by_cases e6 : wh.length = 0
           · simp only [e6, decide_true, decide_not, Bool.not_true, Bool.true_and]
             refine Ev.step (fun k => by rw [spec_StmOK.j1, if_neg ff, if_pos rfl]) ?_
             exact spec_cols table cols vals col exp wh outs h2
           · simp only [e6, decide_false, decide_not, Bool.not_false, Bool.false_and]
             exact j1_true table cols vals col exp wh outs 1)
    by_cases k2 : kind = 2
    · subst k2
      by_cases e1 : cols.length = 0 <;> by_cases e3 : col.toList = ([] : List UInt8) <;> by_cases e4 : exp.length = 0 <;> by_cases e5 : outs.length = 0
      all_goals
        simp only [bad, decide_not, decide_true, decide_false, Bool.not_true, Bool.not_false, Bool.false_and, Bool.true_and, Bool.or_false, Bool.false_or, Bool.true_or, Bool.or_true, Bool.and_true, Bool.and_false, if_true, ite_false, if_neg ff, show ¬ (2 : Int) = 1 by decide, show ¬ (2 : Int) = 3 by decide, show ¬ (2 : Int) = 4 by decide, show ¬ (2 : Int) = 5 by decide, e1, e3, e4, e5]
        first
        | exact j0_true table cols vals col exp wh outs 2
        | (refine j0_low table cols vals col exp wh outs 2 (by decide) ?_
           by_cases e6 : wh.length = 0
           · simp only [e6, decide_true, decide_not, Bool.not_true, Bool.true_and]
             refine Ev.step (fun k => by rw [spec_StmOK.j1, if_neg ff, if_neg (by decide), if_pos rfl]) ?_
             exact spec_vals table cols vals col exp wh outs h3
           · simp only [e6, decide_false, decide_not, Bool.not_false, Bool.false_and]
             exact j1_true table cols vals col exp wh outs 2)
    by_cases k3 : kind = 3
    · subst k3
      by_cases e1 : cols.length = 0 <;> by_cases e2 : vals.length = 0 <;> by_cases e5 : outs.length = 0
      all_goals
        simp only [bad, decide_not, decide_true, decide_false, Bool.not_true, Bool.not_false, Bool.false_and, Bool.true_and, Bool.or_false, Bool.false_or, Bool.true_or, Bool.or_true, Bool.and_true, Bool.and_false, if_true, ite_false, if_neg ff, show ¬ (3 : Int) = 1 by decide, show ¬ (3 : Int) = 2 by decide, show ¬ (3 : Int) = 4 by decide, show ¬ (3 : Int) = 5 by decide, e1, e2, e5]
        first
        | exact j0_true table cols vals col exp wh outs 3
        | (refine j0_high table cols vals col exp wh outs 3 (by decide) ?_
           refine Ev.step (fun k => by rw [spec_StmOK.j1, if_neg ff, if_neg (by decide), if_neg (by decide), if_pos rfl]) ?_
           refine (spec_nm col).bind ?_
           cases nameKw col with
           | false => simp only [if_neg ff, Bool.false_and]; exact Ev.now _
           | true =>
             simp only [if_true, Bool.true_and]
             refine (spec_exp exp).bind ?_
             cases expOk exp with
             | false => simp only [if_neg ff, Bool.false_and]; exact Ev.now _
             | true => simp only [if_true, Bool.true_and]; exact (spec_wh wh).bind (Ev.now _))
    by_cases k4 : kind = 4
    · subst k4
      by_cases e1 : cols.length = 0 <;> by_cases e2 : vals.length = 0 <;> by_cases e3 : col.toList = ([] : List UInt8) <;> by_cases e4 : exp.length = 0 <;> by_cases e5 : outs.length = 0
      all_goals
        simp only [bad, decide_not, decide_true, decide_false, Bool.not_true, Bool.not_false, Bool.false_and, Bool.true_and, Bool.or_false, Bool.false_or, Bool.true_or, Bool.or_true, Bool.and_true, Bool.and_false, if_true, ite_false, if_neg ff, show ¬ (4 : Int) = 1 by decide, show ¬ (4 : Int) = 2 by decide, show ¬ (4 : Int) = 3 by decide, show ¬ (4 : Int) = 5 by decide, e1, e2, e3, e4, e5]
        first
        | exact j0_true table cols vals col exp wh outs 4
        | (refine j0_high table cols vals col exp wh outs 4 (by decide) ?_
           refine Ev.step (fun k => by rw [spec_StmOK.j1, if_neg ff, if_neg (by decide), if_neg (by decide), if_neg (by decide), if_pos rfl]) ?_
           exact (spec_wh wh).bind (Ev.now _))
    by_cases k5 : kind = 5
    · subst k5
      by_cases e1 : cols.length = 0 <;> by_cases e2 : vals.length = 0 <;> by_cases e3 : col.toList = ([] : List UInt8) <;> by_cases e4 : exp.length = 0
      all_goals
        simp only [bad, decide_not, decide_true, decide_false, Bool.not_true, Bool.not_false, Bool.false_and, Bool.true_and, Bool.or_false, Bool.false_or, Bool.true_or, Bool.or_true, Bool.and_true, Bool.and_false, if_true, ite_false, if_neg ff, show ¬ (5 : Int) = 1 by decide, show ¬ (5 : Int) = 2 by decide, show ¬ (5 : Int) = 3 by decide, show ¬ (5 : Int) = 4 by decide, e1, e2, e3, e4]
        first
        | exact j0_true table cols vals col exp wh outs 5
        | (refine j0_high table cols vals col exp wh outs 5 (by decide) ?_
           refine Ev.step (fun k => by rw [spec_StmOK.j1, if_neg ff, if_neg (by decide), if_neg (by decide), if_neg (by decide), if_neg (by decide), if_pos rfl]) ?_
           exact spec_outs table cols vals col exp wh outs h7)
    simp only [if_neg k1, if_neg k2, if_neg k3, if_neg k4, if_neg k5]
    cases hb : bad kind cols vals col exp outs with
    | true => exact j0_true table cols vals col exp wh outs kind
    | false =>
      by_cases hlt : kind < 3
      · refine j0_low table cols vals col exp wh outs kind hlt ?_
        by_cases e6 : wh.length = 0
        · simp only [e6, decide_true, decide_not, Bool.not_true]
          exact Ev.step (f := fun _ => some false) (fun k => by rw [spec_StmOK.j1, if_neg ff, if_neg k1, if_neg k2, if_neg k3, if_neg k4, if_neg k5]) (Ev.now _)
        · simp only [e6, decide_false, decide_not, Bool.not_false]
          exact j1_true table cols vals col exp wh outs kind
      · refine j0_high table cols vals col exp wh outs kind hlt ?_
        exact Ev.step (f := fun _ => some false) (fun k => by rw [spec_StmOK.j1, if_neg ff, if_neg k1, if_neg k2, if_neg k3, if_neg k4, if_neg k5]) (Ev.now _)
theorem if_and (p : Prop) [Decidable p] (b : Bool) : (if p then (some b : Option Bool) else some false) = some (decide p && b) := by
  by_cases h : p <;> simp [h]
theorem eq0 {α : Type} (l : List α) : ((l.length : Int) == 0) = decide (l.length = 0) := by
  by_cases h : l.length = 0
  · simp [h]
  · rw [decide_eq_false h]; exact beq_eq_false_iff_ne.2 (by omega)
theorem ge1 {α : Type} (l : List α) : ((l.length : Int) ≥ 1) = (1 ≤ l.length) := propext ⟨fun h => by omega, fun h => by omega⟩
theorem le20 {α : Type} (l : List α) : ((l.length : Int) ≤ 20) = (l.length ≤ 20) := propext ⟨fun h => by omega, fun h => by omega⟩
theorem len0' {α : Type} (l : List α) : ((l.length : Int) = 0) = (l.length = 0) := propext (len0 l)
theorem dand (p q : Prop) [Decidable p] [Decidable q] : decide (p ∧ q) = (decide p && decide q) := by
  by_cases h : p <;> by_cases h2 : q <;> simp [h, h2]
theorem impl_stm (kind : Int) (ht : table.size ≤ 9223372036854775807) (hc : col.size ≤ 9223372036854775807) (h2 : cols.length ≤ 1000000000) (h2s : ∀ y ∈ cols, y.f0.size ≤ 9223372036854775807) (h3 : vals.length ≤ 1000000000) (h3s : ∀ y ∈ vals, y.f2.size ≤ 9223372036854775807) (h5s : ∀ y ∈ exp, y.f2.size ≤ 9223372036854775807) (h6s : ∀ y ∈ wh, y.f2.size ≤ 9223372036854775807) (h7 : outs.length ≤ 1000000000) (h7s : ∀ y ∈ outs, ∀ z ∈ y, z.f2.size ≤ 9223372036854775807) :
    Ev (fun k => impl_StmOK.f k kind table cols vals col exp wh outs) (stmOk kind table cols vals col exp wh outs) := by
  have key : Ev (fun k => impl_StmOK.j0 k (whOk wh) kind table cols vals col exp wh outs) (stmOk kind table cols vals col exp wh outs) := by
    unfold stmOk
    refine Ev.step (fun k => by rw [impl_StmOK.j0, impl_nm table ht, Option.bind_some]) ?_
    cases hn : nameKw table with
    | false => simp only [if_neg ff, Bool.false_and]; exact Ev.now _
    | true =>
      simp only [if_true, Bool.true_and]
      by_cases k1 : kind = 1
      · simp only [if_pos k1]
        have := Gen.every (α := Col) colOk ((decide (1 ≤ cols.length) && (decide (cols.length ≤ 20) && (decide (vals.length = 0) && (decide (col.toList = ([] : List UInt8)) && (decide (exp.length = 0) && (decide (wh.length = 0) && decide (outs.length = 0))))))))
          (fun k i => impl_StmOK.l0 k (cols.length : Int) (vals.length : Int) col (exp.length : Int) (outs.length : Int) cols (cols.length : Int) i kind table cols vals col exp wh outs) (fun k c => some (colOk c)) cols (fun k i h => by
            rw [impl_StmOK.l0, if_pos (by omega), if_pos (by omega), if_pos (by omega), rdCol cols i h, impl_nm _ (h2s _ (List.getElem_mem h)), wsucc i (by omega)]
            unfold colOk
            cases nameKw cols[i].f0 with
            | false => simp
            | true =>
              by_cases a1 : cols[i].f1 = 1
              · simp [a1]
              · by_cases a2 : cols[i].f1 = 2
                · simp [a2]
                · simp [a1, a2])
          (Ev.step (f := fun _ => some _) (fun k => by
            rw [impl_StmOK.l0, if_neg (by omega)]
            simp only [eq0, ge1, le20, len0', if_and]) (Ev.now _))
          (fun c _ => Ev.now _) cols.length 0 (by omega)
        rw [List.drop_zero] at this
        refine Ev.congr (fun k => rfl) ?_
        have e : (decide (vals.length = 0) && (decide (col.toList = ([] : List UInt8)) && (decide (exp.length = 0) && (decide (outs.length = 0) && (decide (wh.length = 0) && (decide (1 ≤ cols.length ∧ cols.length ≤ 20) && cols.all colOk)))))) = (cols.all colOk && (decide (1 ≤ cols.length) && (decide (cols.length ≤ 20) && (decide (vals.length = 0) && (decide (col.toList = ([] : List UInt8)) && (decide (exp.length = 0) && (decide (wh.length = 0) && decide (outs.length = 0)))))))) := by
          rw [dand]
          cases cols.all colOk <;> cases decide (vals.length = 0) <;> cases decide (col.toList = ([] : List UInt8)) <;> cases decide (exp.length = 0) <;> cases decide (outs.length = 0) <;> cases decide (wh.length = 0) <;> simp
        rw [e]
        exact this
      by_cases k2 : kind = 2
      · simp only [if_neg k1, if_pos k2]
        have := Gen.every (α := Val) (fun v => valOk v.f0 v.f1 v.f2) ((decide (1 ≤ vals.length) && (decide (vals.length ≤ 20) && (decide (cols.length = 0) && (decide (col.toList = ([] : List UInt8)) && (decide (exp.length = 0) && (decide (wh.length = 0) && decide (outs.length = 0))))))))
          (fun k i => impl_StmOK.l1 k (cols.length : Int) (vals.length : Int) col (exp.length : Int) (outs.length : Int) vals (vals.length : Int) i kind table cols vals col exp wh outs) (fun k v => some (valOk v.f0 v.f1 v.f2)) vals (fun k i h => by
            rw [impl_StmOK.l1, if_pos (by omega), if_pos (by omega), if_pos (by omega), rdVal vals i h, impl_val _ _ _ (h3s _ (List.getElem_mem h)), wsucc i (by omega)])
          (Ev.step (f := fun _ => some _) (fun k => by
            rw [impl_StmOK.l1, if_neg (by omega)]
            simp only [eq0, ge1, le20, len0', if_and]) (Ev.now _))
          (fun c _ => Ev.now _) vals.length 0 (by omega)
        rw [List.drop_zero] at this
        have e : (decide (cols.length = 0) && (decide (col.toList = ([] : List UInt8)) && (decide (exp.length = 0) && (decide (outs.length = 0) && (decide (wh.length = 0) && (decide (1 ≤ vals.length ∧ vals.length ≤ 20) && vals.all fun v => valOk v.f0 v.f1 v.f2)))))) = ((vals.all fun v => valOk v.f0 v.f1 v.f2) && (decide (1 ≤ vals.length) && (decide (vals.length ≤ 20) && (decide (cols.length = 0) && (decide (col.toList = ([] : List UInt8)) && (decide (exp.length = 0) && (decide (wh.length = 0) && decide (outs.length = 0)))))))) := by
          rw [dand]
          cases (vals.all fun v => valOk v.f0 v.f1 v.f2) <;> cases decide (cols.length = 0) <;> cases decide (col.toList = ([] : List UInt8)) <;> cases decide (exp.length = 0) <;> cases decide (outs.length = 0) <;> cases decide (wh.length = 0) <;> simp
        rw [e]
        exact this
      by_cases k3 : kind = 3
      · simp only [if_neg k1, if_neg k2, if_pos k3, impl_nm col hc, Option.bind_some]
        cases nameKw col with
        | false => simp only [if_neg ff, Bool.false_and, Bool.and_false]; exact Ev.now _
        | true =>
          simp only [if_true, Bool.true_and]
          refine (impl_exp exp h5s).bind ?_
          cases expOk exp with
          | false => simp only [if_neg ff, Bool.false_and, Bool.and_false]; exact Ev.now _
          | true =>
            simp only [if_true, Bool.true_and, eq0, len0', if_and]
            cases whOk wh with
            | false => simp only [decide_eq_false ff, Bool.false_and, Bool.and_false]; exact Ev.now _
            | true => simp only [decide_true, Bool.true_and, Bool.and_true]; exact Ev.now _
      by_cases k4 : kind = 4
      · simp only [if_neg k1, if_neg k2, if_neg k3, if_pos k4, eq0, len0', if_and]
        cases whOk wh with
        | false => simp only [decide_eq_false ff, Bool.false_and, Bool.and_false]; exact Ev.now _
        | true => simp only [decide_true, Bool.true_and, Bool.and_true]; exact Ev.now _
      by_cases k5 : kind = 5
      · simp only [if_neg k1, if_neg k2, if_neg k3, if_neg k4, if_pos k5]
        have := Gen.every (α := List Itm) expOk ((decide (1 ≤ outs.length) && (decide (outs.length ≤ 20) && (decide (whOk wh = true) && (decide (cols.length = 0) && (decide (vals.length = 0) && (decide (col.toList = ([] : List UInt8)) && decide (exp.length = 0))))))))
          (fun k i => impl_StmOK.l2 k (whOk wh) (cols.length : Int) (vals.length : Int) col (exp.length : Int) (outs.length : Int) outs (outs.length : Int) i) (fun k v => impl_expOK.f k v) outs (fun k i h => by
            rw [impl_StmOK.l2, if_pos (by omega), if_pos (by omega), if_pos (by omega), rdII outs i h, wsucc i (by omega)])
          (Ev.step (f := fun _ => some _) (fun k => by
            rw [impl_StmOK.l2, if_neg (by omega)]
            simp only [eq0, ge1, le20, len0', if_and]) (Ev.now _))
          (fun c hc => impl_exp c (h7s c hc)) outs.length 0 (by omega)
        rw [List.drop_zero] at this
        have e : (decide (cols.length = 0) && (decide (vals.length = 0) && (decide (col.toList = ([] : List UInt8)) && (decide (exp.length = 0) && (decide (1 ≤ outs.length ∧ outs.length ≤ 20) && (outs.all expOk && whOk wh)))))) = (outs.all expOk && (decide (1 ≤ outs.length) && (decide (outs.length ≤ 20) && (decide (whOk wh = true) && (decide (cols.length = 0) && (decide (vals.length = 0) && (decide (col.toList = ([] : List UInt8)) && decide (exp.length = 0)))))))) := by
          rw [dand]
          cases outs.all expOk <;> cases whOk wh <;> cases decide (cols.length = 0) <;> cases decide (vals.length = 0) <;> cases decide (col.toList = ([] : List UInt8)) <;> cases decide (exp.length = 0) <;> simp
        rw [e]
        exact this
      simp only [if_neg k1, if_neg k2, if_neg k3, if_neg k4, if_neg k5]
      exact Ev.now _
  unfold impl_StmOK.f
  by_cases e6 : wh.length = 0
  · have : whOk wh = true := by unfold whOk; rw [decide_eq_true e6, Bool.true_or]
    simp only [if_pos ((len0 wh).2 e6)]
    rw [this] at key
    exact key
  · have : whOk wh = expOk wh := by unfold whOk; rw [decide_eq_false e6, Bool.false_or]
    simp only [if_neg (fun h => e6 ((len0 wh).1 h))]
    rw [this] at key
    exact (impl_exp wh h6s).bind key
end
end Go.Proofs.YtjihphegmdfpfaaDoor.Pure
end
section
set_option linter.unusedVariables false
set_option linter.unusedSimpArgs false
namespace Go.Proofs.YtjihphegmdfpfaaDoor
open Go.RowKit Go.Proofs.YtjihphegmdfpfaaDoorW.PrintWords
/-- The lowest bytes of v, the highest first: so many. -/
def numB : Nat → Int → List Int
  | 0, _ => []
  | n + 1, v => (v / 256 ^ n) % 256 :: numB n v
theorem numB_length (n : Nat) (v : Int) : (numB n v).length = n := by
  induction n with
  | zero => rfl
  | succ n ih => simp [numB, ih]
theorem numB_get (n : Nat) : ∀ (v : Int) (i : Nat), i < n → (numB n v)[i]? = some ((v / 256 ^ (n - 1 - i)) % 256) := by
  induction n with
  | zero => intro v i h; omega
  | succ n ih =>
    intro v i h
    cases i with
    | zero => simp [numB]
    | succ i => simp only [numB, List.getElem?_cons_succ]; rw [ih v i (by omega)]; congr 4; omega
theorem strOfNums_size (l : List Int) : (strOfNums l).size = l.length := by simp [strOfNums, ByteArray.size]
end Go.Proofs.YtjihphegmdfpfaaDoor
end
section
set_option linter.unusedVariables false
set_option linter.unusedSimpArgs false
namespace Go.Proofs.YtjihphegmdfpfaaDoor.Pure
open Go.RowKit Go.Proofs.YtjihphegmdfpfaaDoor Go.Proofs.YtjihphegmdfpfaaDoor.L Go.Proofs.YtjihphegmdfpfaaDoorW.PrintWords Go.Proofs.YtjihphegmdfpfaaDoorW.PrintLast
theorem num_l1 (d : Nat) : ∀ (j : Nat) (x1 : Int) (x5 : List Int) (i : Nat) (x : Int) (r : ByteArray), j + d = i → i ≤ 100 → x5.length < 1000 →
    Ev (fun k => spec_l1Num.l0 k x1 (x5 ++ [(x / 256 ^ d) % 256]) (wrap64 ((i : Int) - 1))) r → Ev (fun k => spec_l1Num.l1 k x1 x5 i x j) r := by
  induction d with
  | zero =>
    intro j x1 x5 i x r hj hi hl h
    refine Ev.step (f := fun k => spec_l1Num.l0 k x1 (x5 ++ [x % 256]) (wrap64 ((i : Int) - 1))) (fun k => ?_) ?_
    · rw [spec_l1Num.l1, if_neg (by omega), if_pos (by omega)]
    · simpa using h
  | succ d ih =>
    intro j x1 x5 i x r hj hi hl h
    refine Ev.step (f := fun k => spec_l1Num.l1 k x1 x5 i (x / 256) ((j + 1 : Nat) : Int)) (fun k => ?_) ?_
    · rw [spec_l1Num.l1, if_pos (by omega), show wrap64 ((j : Int) + 1) = ((j + 1 : Nat) : Int) from by unfold wrap64; omega]
    · refine ih (j + 1) x1 x5 i (x / 256) r (by omega) hi hl ?_
      rw [Int.ediv_ediv_of_nonneg (by decide), show (256 : Int) * 256 ^ d = 256 ^ (d + 1) from by rw [Int.pow_succ]; exact Int.mul_comm _ _]
      exact h
theorem num_l0 (n : Nat) : ∀ (x1 : Int) (x5 : List Int), n ≤ 100 → x5.length + n < 1000 →
    Ev (fun k => spec_l1Num.l0 k x1 x5 ((n : Int) - 1)) (strOfNums (x5 ++ numB n x1)) := by
  induction n with
  | zero =>
    intro x1 x5 _ _
    refine Ev.step (f := fun _ => some (strOfNums x5)) (fun k => ?_) ?_
    · rw [spec_l1Num.l0, if_neg (by omega)]
    · simpa [numB] using Ev.now _
  | succ n ih =>
    intro x1 x5 hn hl
    refine Ev.step (f := fun k => spec_l1Num.l1 k x1 x5 ((n + 1 : Nat) - 1) x1 0) (fun k => ?_) ?_
    · rw [spec_l1Num.l0, if_pos (by omega)]
    · have e : (((n + 1 : Nat) : Int) - 1) = (n : Int) := by omega
      rw [e]
      refine num_l1 n 0 x1 x5 n x1 _ (by omega) (by omega) (by omega) ?_
      have hw : wrap64 ((n : Int) - 1) = (n : Int) - 1 := by unfold wrap64; omega
      rw [hw]
      have := ih x1 (x5 ++ [(x1 / 256 ^ n) % 256]) (by omega) (by simp; omega)
      simpa [numB, List.append_assoc] using this
theorem spec_num (n : Nat) (v : Int) (hn : n ≤ 100) : Ev (fun k => spec_l1Num.f k n v) (strOfNums (numB n v)) := by
  have h := num_l0 n v [] hn (by simp; omega)
  refine Ev.congr (f := fun k => spec_l1Num.l0 k v [] ((n : Int) - 1)) (fun k => ?_) (by simpa using h)
  unfold spec_l1Num.f
  rw [show wrap64 ((n : Int) - 1) = (n : Int) - 1 from by unfold wrap64; omega]
theorem inum_l0 (e : Nat) : ∀ (x0 : Int) (n : Nat) (xs : List Int) (i : Nat), i + e = n → n ≤ 8 → xs.length = n → (∀ j, j < i → xs[j]? = (numB n x0)[j]?) →
    Ev (fun k => impl_number.l0 k x0 n xs n i) (strOfNums (numB n x0)) := by
  induction e with
  | zero =>
    intro x0 n xs i hi hn hl hx
    obtain rfl : i = n := by omega
    have : xs = numB i x0 := by
      apply List.ext_getElem?
      intro j
      by_cases hj : j < i
      · exact hx j hj
      · rw [List.getElem?_eq_none (by omega), List.getElem?_eq_none (by rw [numB_length]; omega)]
    subst this
    refine Ev.step (f := fun _ => some (strOfNums (numB i x0))) (fun k => ?_) (Ev.now _)
    rw [impl_number.l0, if_neg (by omega)]
  | succ e ih =>
    intro x0 n xs i hi hn hl hx
    have hw : wrap64 (8 * wrap64 (wrap64 ((n : Int) - 1) - (i : Int))) = ((8 * (n - 1 - i) : Nat) : Int) := by unfold wrap64; omega
    have hsh : shr .i64 x0 ((8 * (n - 1 - i) : Nat) : Int) = x0 / 256 ^ (n - 1 - i) := by
      unfold shr
      have hm : min ((8 * (n - 1 - i) : Nat) : Int).toNat 64 = 8 * (n - 1 - i) := by omega
      show x0 / 2 ^ min ((8 * (n - 1 - i) : Nat) : Int).toNat 64 = _
      rw [hm, Int.pow_mul]; rfl
    refine Ev.step (f := fun k => impl_number.l0 k x0 n (xs.set i ((x0 / 256 ^ (n - 1 - i)) % 256)) n ((i + 1 : Nat) : Int)) (fun k => ?_) ?_
    · rw [impl_number.l0, if_pos (by omega), hw, if_pos (by omega), if_pos (by omega), if_pos (by omega), hsh, show wrap64 ((i : Int) + 1) = ((i + 1 : Nat) : Int) from by unfold wrap64; omega]
      simp
    · refine ih x0 n _ (i + 1) (by omega) hn (by simp [hl]) (fun j hj => ?_)
      rw [List.getElem?_set]
      by_cases h : i = j
      · subst h
        rw [if_pos rfl, if_pos (by omega), numB_get n x0 i (by omega)]
      · rw [if_neg h]
        exact hx j (by omega)
theorem impl_num (n : Nat) (v : Int) (hn : n ≤ 8) : Ev (fun k => impl_number.f k v n) (strOfNums (numB n v)) := by
  have h := inum_l0 n v n (List.replicate n 0) 0 (by omega) hn (by simp) (fun j hj => by omega)
  refine Ev.congr (fun k => ?_) h
  unfold impl_number.f
  rw [if_pos (by omega), if_pos (by omega)]
  simp
end Go.Proofs.YtjihphegmdfpfaaDoor.Pure
end
section
set_option linter.unusedVariables false
set_option linter.unusedSimpArgs false
namespace Go.Proofs.YtjihphegmdfpfaaDoor.Pure
open Go Go.RowKit Go.Proofs.YtjihphegmdfpfaaDoor Go.Proofs.YtjihphegmdfpfaaDoor.L Go.Proofs.YtjihphegmdfpfaaDoorW.PrintWords Go.Proofs.YtjihphegmdfpfaaDoorW.PrintMore Go.Proofs.YtjihphegmdfpfaaDoorW.PrintLast
theorem Ev.pos {α : Type} {c : Prop} [Decidable c] {f g : Nat → Option α} {r : α} (h : c) (hf : Ev f r) : Ev (fun k => if c then f k else g k) r := by
  simpa only [if_pos h] using hf
theorem Ev.neg {α : Type} {c : Prop} [Decidable c] {f g : Nat → Option α} {r : α} (h : ¬ c) (hf : Ev g r) : Ev (fun k => if c then f k else g k) r := by
  simpa only [if_neg h] using hf
def encN (n : Nat) (v : Int) : ByteArray := strOfNums (numB n v)
theorem encN_size (n : Nat) (v : Int) : (encN n v).size = n := by
  unfold encN
  rw [strOfNums_size, numB_length]
def enc8 (s : ByteArray) : ByteArray := encN 1 (s.size : Int) ++ s
def enc16 (s : ByteArray) : ByteArray := encN 2 (s.size : Int) ++ s
theorem enc8_size (s : ByteArray) : (enc8 s).size = 1 + s.size := by unfold enc8; rw [ByteArray.size_append, encN_size]
theorem enc16_size (s : ByteArray) : (enc16 s).size = 2 + s.size := by unfold enc16; rw [ByteArray.size_append, encN_size]
def stepI (s : ByteArray) (y : Itm) : ByteArray := if y.f0 = 1 then (s ++ encN 1 y.f0) ++ encN 8 y.f1 else if y.f0 = 2 then (s ++ encN 1 y.f0) ++ enc16 y.f2 else if y.f0 = 3 then (s ++ encN 1 y.f0) ++ enc8 y.f2 else s ++ encN 1 y.f0
def stepC (s : ByteArray) (y : Col) : ByteArray := s ++ (enc8 y.f0 ++ encN 1 y.f1)
def stepV (s : ByteArray) (y : Val) : ByteArray := if y.f0 = 1 then (s ++ encN 1 y.f0) ++ encN 8 y.f1 else (s ++ encN 1 y.f0) ++ enc16 y.f2
theorem stepI_size (s : ByteArray) (y : Itm) (hy : y.f2.size ≤ 1000) : (stepI s y).size ≤ s.size + 1100 := by
  unfold stepI
  by_cases c1 : y.f0 = 1
  · simp only [if_pos c1, ByteArray.size_append, encN_size]; omega
  · by_cases c2 : y.f0 = 2
    · simp only [if_neg c1, if_pos c2, ByteArray.size_append, encN_size, enc16_size]; omega
    · by_cases c3 : y.f0 = 3
      · simp only [if_neg c1, if_neg c2, if_pos c3, ByteArray.size_append, encN_size, enc8_size]; omega
      · simp only [if_neg c1, if_neg c2, if_neg c3, ByteArray.size_append, encN_size]; omega
theorem stepI_size2 (s : ByteArray) (y : Itm) (hy : y.f2.size ≤ 200) : (stepI s y).size ≤ s.size + 250 := by
  unfold stepI
  by_cases c1 : y.f0 = 1
  · simp only [if_pos c1, ByteArray.size_append, encN_size]; omega
  · by_cases c2 : y.f0 = 2
    · simp only [if_neg c1, if_pos c2, ByteArray.size_append, encN_size, enc16_size]; omega
    · by_cases c3 : y.f0 = 3
      · simp only [if_neg c1, if_neg c2, if_pos c3, ByteArray.size_append, encN_size, enc8_size]; omega
      · simp only [if_neg c1, if_neg c2, if_neg c3, ByteArray.size_append, encN_size]; omega
theorem stepV_size (s : ByteArray) (y : Val) (hy : y.f2.size ≤ 1000) : (stepV s y).size ≤ s.size + 1100 := by
  unfold stepV
  by_cases c1 : y.f0 = 1
  · simp only [if_pos c1, ByteArray.size_append, encN_size]; omega
  · simp only [if_neg c1, ByteArray.size_append, encN_size, enc16_size]; omega
def expEnc (l : List Itm) : ByteArray := l.foldl stepI (encN 2 (l.length : Int))
theorem foldI_size (l : List Itm) (hs : ∀ y ∈ l, y.f2.size ≤ 200) : ∀ s : ByteArray, (l.foldl stepI s).size ≤ s.size + l.length * 250 := by
  induction l with
  | nil => intro s; simp
  | cons y l ih =>
    intro s
    have h1 := ih (fun z hz => hs z (List.mem_cons_of_mem _ hz)) (stepI s y)
    have h2 := stepI_size2 s y (hs y List.mem_cons_self)
    rw [List.foldl_cons, List.length_cons, Nat.add_mul]
    omega
theorem expEnc_size (l : List Itm) (hl : l.length ≤ 100) (hs : ∀ y ∈ l, y.f2.size ≤ 200) : (expEnc l).size ≤ 30000 := by
  have := foldI_size l hs (encN 2 (l.length : Int))
  rw [encN_size] at this
  unfold expEnc
  omega
/-- A statement's bytes; none where there are too many. -/
def capB (s : ByteArray) : ByteArray := if (s.size : Int) > 60000 then (⟨#[]⟩ : ByteArray) else s
def encStm (kind : Int) (table : ByteArray) (cols : List Col) (vals : List Val) (col : ByteArray) (exp wh : List Itm) (outs : List (List Itm)) : ByteArray :=
  if stmOk kind table cols vals col exp wh outs = true then
    (if kind = 1 then capB (cols.foldl stepC ((encN 1 kind ++ enc8 table) ++ encN 1 (cols.length : Int)))
     else if kind = 2 then capB (vals.foldl stepV ((encN 1 kind ++ enc8 table) ++ encN 1 (vals.length : Int)))
     else if kind = 3 then capB ((encN 1 kind ++ enc8 table) ++ ((enc8 col ++ expEnc exp) ++ expEnc wh))
     else if kind = 4 then capB ((encN 1 kind ++ enc8 table) ++ expEnc wh)
     else if kind = 5 then capB (outs.foldl (fun s e => s ++ expEnc e) ((encN 1 kind ++ enc8 table) ++ encN 1 (outs.length : Int)) ++ expEnc wh)
     else capB (encN 1 kind ++ enc8 table))
  else (⟨#[]⟩ : ByteArray)
theorem bind_if {α β : Type} (p : Prop) [Decidable p] (a : Option α) (g : α → Option β) : (if p then a else none).bind g = if p then a.bind g else none := by split <;> rfl
theorem bind_ite {α β : Type} (p : Prop) [Decidable p] (a b : Option α) (g : α → Option β) : (if p then a else b).bind g = if p then a.bind g else b.bind g := by split <;> rfl
/-- A loop that adds to the bytes. -/
theorem foldE {α : Type} (L : Nat → ByteArray → Nat → Option ByteArray) (st : Nat → ByteArray → α → Option ByteArray) (sp : ByteArray → α → ByteArray) (fin : ByteArray → ByteArray) (l : List α) (c B : Nat)
    (hL : ∀ k s i (h : i < l.length), L (k + 1) s i = (st k s l[i]).bind fun s' => L k s' (i + 1))
    (hfin : ∀ s, s.size ≤ B → Ev (fun k => L k s l.length) (fin s))
    (hst : ∀ s y, y ∈ l → s.size + c ≤ B → Ev (fun k => st k s y) (sp s y))
    (hsz : ∀ s y, y ∈ l → (sp s y).size ≤ s.size + c) (d : Nat) :
    ∀ i s, i + d = l.length → s.size + d * c ≤ B → Ev (fun k => L k s i) (fin ((l.drop i).foldl sp s)) := by
  induction d with
  | zero =>
    intro i s hi hz
    rw [List.drop_eq_nil_of_le (by omega)]
    obtain rfl : i = l.length := by omega
    exact hfin s (by omega)
  | succ d ih =>
    intro i s hi hz
    have hil : i < l.length := by omega
    have hm : l[i] ∈ l := List.getElem_mem hil
    rw [Nat.add_mul] at hz
    refine Ev.step (fun k => hL k s i hil) ?_
    refine (hst s l[i] hm (by omega)).bind ?_
    rw [List.drop_eq_getElem_cons hil, List.foldl_cons]
    exact ih (i + 1) _ (by omega) (by have := hsz s l[i] hm; omega)
theorem empty_size {s : ByteArray} (h : s.toList = ([] : List UInt8)) : s.size = 0 := by
  have e : s.toList.length = s.size := by rw [ByteArray.toList_eq]; rfl
  rw [h] at e
  exact e.symm
theorem name_small {s : ByteArray} (h : nameKw s = true) : s.size ≤ 30 := by
  unfold nameKw at h
  simp only [Bool.and_eq_true, decide_eq_true_eq] at h
  exact h.2.1
theorem itm_small {op n : Int} {x : ByteArray} (h : itmOk op n x = true) : x.size ≤ 200 := by
  have he : ∀ y : ByteArray, (y.toList == ([] : List UInt8)) = true → y.size ≤ 200 := fun y hy => by rw [empty_size (beq_iff_eq.mp hy)]; omega
  unfold itmOk at h
  by_cases c1 : op = 1
  · rw [if_pos c1, Bool.and_eq_true] at h; exact he x h.2
  · rw [if_neg c1] at h
    by_cases c2 : op = 2
    · rw [if_pos c2, Bool.and_eq_true] at h
      have := h.2
      unfold textOk at this
      rw [Bool.and_eq_true, decide_eq_true_eq] at this
      exact this.1
    · rw [if_neg c2] at h
      by_cases c3 : op = 3
      · rw [if_pos c3, Bool.and_eq_true] at h
        have := name_small h.2
        omega
      · rw [if_neg c3, Bool.and_eq_true, Bool.and_eq_true] at h; exact he x h.2.2
theorem exp_small {l : List Itm} (h : expOk l = true) : l.length ≤ 100 ∧ ∀ z ∈ l, z.f2.size ≤ 200 := by
  unfold expOk at h
  rw [Bool.and_eq_true, decide_eq_true_eq] at h
  refine ⟨h.1.2, ?_⟩
  have key : ∀ (l : List Itm) (d : Int), expRun l d = true → ∀ z ∈ l, z.f2.size ≤ 200 := by
    intro l
    induction l with
    | nil => intro d _ z hz; cases hz
    | cons t r ih =>
      intro d hd z hz
      rw [expRun, Bool.and_eq_true] at hd
      rcases List.mem_cons.1 hz with rfl | hz
      · exact itm_small hd.1
      · by_cases c : d < arity t.f0
        · rw [if_pos c] at hd; cases hd.2
        · rw [if_neg c] at hd; exact ih _ hd.2 z hz
  exact key l 0 h.2
theorem wh_small {l : List Itm} (h : whOk l = true) : l.length ≤ 100 ∧ ∀ z ∈ l, z.f2.size ≤ 200 := by
  unfold whOk at h
  rw [Bool.or_eq_true, decide_eq_true_eq] at h
  rcases h with h | h
  · have : l = [] := List.eq_nil_of_length_eq_zero h
    subst this
    exact ⟨by simp, fun z hz => by cases hz⟩
  · exact exp_small h
theorem stmOk_small {kind : Int} {table : ByteArray} {cols : List Col} {vals : List Val} {col : ByteArray} {exp wh : List Itm} {outs : List (List Itm)} (h : stmOk kind table cols vals col exp wh outs = true) :
    table.size ≤ 30 ∧ (kind = 1 → cols.length ≤ 20 ∧ ∀ y ∈ cols, y.f0.size ≤ 200) ∧ (kind = 2 → vals.length ≤ 20 ∧ ∀ y ∈ vals, y.f2.size ≤ 200) ∧ (kind = 3 → col.size ≤ 30 ∧ (exp.length ≤ 100 ∧ ∀ z ∈ exp, z.f2.size ≤ 200) ∧ (wh.length ≤ 100 ∧ ∀ z ∈ wh, z.f2.size ≤ 200)) ∧
      (kind = 4 → wh.length ≤ 100 ∧ ∀ z ∈ wh, z.f2.size ≤ 200) ∧ (kind = 5 → outs.length ≤ 20 ∧ (∀ y ∈ outs, y.length ≤ 100 ∧ ∀ z ∈ y, z.f2.size ≤ 200) ∧ (wh.length ≤ 100 ∧ ∀ z ∈ wh, z.f2.size ≤ 200)) := by
  unfold stmOk at h
  rw [Bool.and_eq_true] at h
  obtain ⟨hn, h⟩ := h
  refine ⟨name_small hn, fun k => ?_, fun k => ?_, fun k => ?_, fun k => ?_, fun k => ?_⟩
  · subst k
    simp only [if_true, Bool.and_eq_true, decide_eq_true_eq, List.all_eq_true] at h
    refine ⟨h.2.2.2.2.2.1.2, fun y hy => ?_⟩
    have := h.2.2.2.2.2.2 y hy
    unfold colOk at this
    rw [Bool.and_eq_true] at this
    have := name_small this.1
    omega
  · subst k
    simp only [show ¬ (2 : Int) = 1 by decide, if_false, if_true, Bool.and_eq_true, decide_eq_true_eq, List.all_eq_true] at h
    refine ⟨h.2.2.2.2.2.1.2, fun y hy => ?_⟩
    have := h.2.2.2.2.2.2 y hy
    unfold valOk at this
    by_cases c1 : y.f0 = 1
    · rw [if_pos c1, Bool.and_eq_true] at this
      rw [empty_size (beq_iff_eq.mp this.2)]; omega
    · rw [if_neg c1] at this
      by_cases c2 : y.f0 = 2
      · rw [if_pos c2, Bool.and_eq_true] at this
        have := this.2
        unfold textOk at this
        rw [Bool.and_eq_true, decide_eq_true_eq] at this
        exact this.1
      · rw [if_neg c2] at this; cases this
  · subst k
    simp only [show ¬ (3 : Int) = 1 by decide, show ¬ (3 : Int) = 2 by decide, if_false, if_true, Bool.and_eq_true, decide_eq_true_eq] at h
    exact ⟨name_small h.2.2.2.1, exp_small h.2.2.2.2.1, wh_small h.2.2.2.2.2⟩
  · subst k
    simp only [show ¬ (4 : Int) = 1 by decide, show ¬ (4 : Int) = 2 by decide, show ¬ (4 : Int) = 3 by decide, if_false, if_true, Bool.and_eq_true, decide_eq_true_eq] at h
    exact wh_small h.2.2.2.2.2
  · subst k
    simp only [show ¬ (5 : Int) = 1 by decide, show ¬ (5 : Int) = 2 by decide, show ¬ (5 : Int) = 3 by decide, show ¬ (5 : Int) = 4 by decide, if_false, if_true, Bool.and_eq_true, decide_eq_true_eq, List.all_eq_true] at h
    exact ⟨h.2.2.2.2.1.2, fun y hy => exp_small (h.2.2.2.2.2.1 y hy), wh_small h.2.2.2.2.2.2⟩
theorem spec_n1 (v : Int) : Ev (fun k => spec_l1Num.f k 1 v) (encN 1 v) := spec_num 1 v (by decide)
theorem spec_n2 (v : Int) : Ev (fun k => spec_l1Num.f k 2 v) (encN 2 v) := spec_num 2 v (by decide)
theorem spec_n8 (v : Int) : Ev (fun k => spec_l1Num.f k 8 v) (encN 8 v) := spec_num 8 v (by decide)
theorem spec_s8 (s : ByteArray) (hs : s.size ≤ 1000000) : Ev (fun k => spec_l1S8.f k s) (enc8 s) := by
  unfold spec_l1S8.f
  refine (spec_n1 _).bind ?_
  refine Ev.pos (by rw [encN_size]; omega) ?_
  exact Ev.now _
theorem spec_s16 (s : ByteArray) (hs : s.size ≤ 1000000) : Ev (fun k => spec_l1S16.f k s) (enc16 s) := by
  unfold spec_l1S16.f
  refine (spec_n2 _).bind ?_
  refine Ev.pos (by rw [encN_size]; omega) ?_
  exact Ev.now _
theorem spec_expGo (l : List Itm) (hs : ∀ y ∈ l, y.f2.size ≤ 1000) : ∀ s : ByteArray, s.size + l.length * 1100 ≤ 1000000 → Ev (fun k => expGo (spec_l1Num.f k) (spec_l1S16.f k) (spec_l1S8.f k) l s) (l.foldl stepI s) := by
  induction l with
  | nil => intro s _; exact Ev.now _
  | cons y l ih =>
    intro s hz
    have hy := hs y List.mem_cons_self
    have ih2 := ih (fun z hz => hs z (List.mem_cons_of_mem _ hz))
    simp only [List.length_cons, Nat.add_mul] at hz
    rw [List.foldl_cons]
    have hst := stepI_size s y hy
    refine Ev.congr (fun k => by rw [expGo]) ?_
    refine (spec_n1 y.f0).bind ?_
    unfold expAdd
    refine Ev.pos (by rw [encN_size]; omega) ?_
    by_cases c1 : y.f0 = 1
    · have e : stepI s y = (s ++ encN 1 y.f0) ++ encN 8 y.f1 := by unfold stepI; rw [if_pos c1]
      rw [e] at hst ⊢
      simp only [if_pos c1]
      refine (spec_n8 y.f1).bind ?_
      refine Ev.pos (by rw [ByteArray.size_append, encN_size, encN_size]; omega) ?_
      exact ih2 _ (by omega)
    · by_cases c2 : y.f0 = 2
      · have e : stepI s y = (s ++ encN 1 y.f0) ++ enc16 y.f2 := by unfold stepI; rw [if_neg c1, if_pos c2]
        rw [e] at hst ⊢
        simp only [if_neg c1, if_pos c2]
        refine (spec_s16 y.f2 (by omega)).bind ?_
        refine Ev.pos (by rw [ByteArray.size_append, encN_size, enc16_size]; omega) ?_
        exact ih2 _ (by omega)
      · by_cases c3 : y.f0 = 3
        · have e : stepI s y = (s ++ encN 1 y.f0) ++ enc8 y.f2 := by unfold stepI; rw [if_neg c1, if_neg c2, if_pos c3]
          rw [e] at hst ⊢
          simp only [if_neg c1, if_neg c2, if_pos c3]
          refine (spec_s8 y.f2 (by omega)).bind ?_
          refine Ev.pos (by rw [ByteArray.size_append, encN_size, enc8_size]; omega) ?_
          exact ih2 _ (by omega)
        · have e : stepI s y = s ++ encN 1 y.f0 := by unfold stepI; rw [if_neg c1, if_neg c2, if_neg c3]
          rw [e] at hst ⊢
          simp only [if_neg c1, if_neg c2, if_neg c3]
          exact ih2 _ (by omega)
theorem spec_eb (l : List Itm) (hl : l.length ≤ 200) (hs : ∀ y ∈ l, y.f2.size ≤ 1000) : Ev (fun k => spec_l4ExpBytes.f k l) (expEnc l) := by
  unfold spec_l4ExpBytes.f expEnc
  refine (spec_n2 _).bind ?_
  refine Ev.pos ⟨by rw [encN_size]; omega, by omega⟩ ?_
  exact spec_expGo l hs _ (by rw [encN_size]; omega)
theorem spec_fin (F : Nat → Option ByteArray) (s : ByteArray) (h : ∀ k, F (k + 1) = if (s.size : Int) > 60000 then some (⟨#[]⟩ : ByteArray) else some s) : Ev F (capB s) := by
  refine Ev.step (f := fun _ => some (capB s)) (fun k => ?_) (Ev.now _)
  rw [h k]
  unfold capB
  split <;> rfl
theorem spec_ecols (l : List Col) (hl : l.length ≤ 20) (hs : ∀ y ∈ l, y.f0.size ≤ 1000) (s : ByteArray) (hz : s.size ≤ 100000) : Ev (fun k => spec_EncodeStm.l0 k s l (l.length : Int) 0) (capB (l.foldl stepC s)) := by
  have := foldE (fun k s i => spec_EncodeStm.l0 k s l (l.length : Int) (i : Int)) (fun k s y => (spec_l1S8.f k y.f0).bind fun t => (spec_l1Num.f k 1 y.f1).bind fun u => if t.size + u.size ≤ 9223372036854775807 then (if s.size + (t ++ u).size ≤ 9223372036854775807 then some (s ++ (t ++ u)) else none) else none) stepC capB l 1100 1000000
    (fun k s i h => by
      rw [spec_EncodeStm.l0, if_pos (by omega), if_pos (by omega), if_pos (by omega), rdCol l i h, wsucc i (by omega)]
      simp only [Option.bind_assoc, bind_if, Option.bind_some, Option.bind_none, bind_ite])
    (fun s hs => spec_fin _ s fun k => by rw [spec_EncodeStm.l0, if_neg (by omega)])
    (fun s y hy hz => by
      refine (spec_s8 y.f0 (by have := hs y hy; omega)).bind ?_
      refine (spec_n1 y.f1).bind ?_
      refine Ev.pos (by rw [enc8_size, encN_size]; have := hs y hy; omega) ?_
      refine Ev.pos (by rw [ByteArray.size_append, enc8_size, encN_size]; have := hs y hy; omega) ?_
      exact Ev.now _) (fun s y hy => by unfold stepC; rw [ByteArray.size_append, ByteArray.size_append, enc8_size, encN_size]; have := hs y hy; omega) l.length 0 s (by omega) (by omega)
  simpa using this
theorem spec_evals (l : List Val) (hl : l.length ≤ 20) (hs : ∀ y ∈ l, y.f2.size ≤ 1000) (s : ByteArray) (hz : s.size ≤ 100000) : Ev (fun k => spec_EncodeStm.l1 k s l (l.length : Int) 0) (capB (l.foldl stepV s)) := by
  have := foldE (fun k s i => spec_EncodeStm.l1 k s l (l.length : Int) (i : Int)) (fun k s y => (spec_l1Num.f k 1 y.f0).bind fun t => if s.size + t.size ≤ 9223372036854775807 then (if y.f0 = 1 then (spec_l1Num.f k 8 y.f1).bind fun u => if (s ++ t).size + u.size ≤ 9223372036854775807 then some ((s ++ t) ++ u) else none else (spec_l1S16.f k y.f2).bind fun u => if (s ++ t).size + u.size ≤ 9223372036854775807 then some ((s ++ t) ++ u) else none) else none) stepV capB l 1100 1000000
    (fun k s i h => by
      rw [spec_EncodeStm.l1, if_pos (by omega), if_pos (by omega), if_pos (by omega), rdVal l i h, wsucc i (by omega)]
      simp only [Option.bind_assoc, bind_if, Option.bind_some, Option.bind_none, bind_ite])
    (fun s hs => spec_fin _ s fun k => by rw [spec_EncodeStm.l1, if_neg (by omega)])
    (fun s y hy hz => by
      unfold stepV
      refine (spec_n1 y.f0).bind ?_
      refine Ev.pos (by rw [encN_size]; omega) ?_
      by_cases c1 : y.f0 = 1
      · simp only [if_pos c1]
        refine (spec_n8 y.f1).bind ?_
        refine Ev.pos (by rw [ByteArray.size_append, encN_size, encN_size]; omega) ?_
        exact Ev.now _
      · simp only [if_neg c1]
        refine (spec_s16 y.f2 (by have := hs y hy; omega)).bind ?_
        refine Ev.pos (by rw [ByteArray.size_append, encN_size, enc16_size]; have := hs y hy; omega) ?_
        exact Ev.now _) (fun s y hy => stepV_size s y (hs y hy)) l.length 0 s (by omega) (by omega)
  simpa using this
theorem spec_eouts (l : List (List Itm)) (hl : l.length ≤ 20) (hs : ∀ y ∈ l, y.length ≤ 100 ∧ ∀ z ∈ y, z.f2.size ≤ 200) (a0 : Int) (a1 : ByteArray) (a2 : List Col) (a3 : List Val) (a4 : ByteArray) (a5 wh : List Itm) (a7 : List (List Itm)) (hw : wh.length ≤ 100 ∧ ∀ z ∈ wh, z.f2.size ≤ 200) (s : ByteArray) (hz : s.size ≤ 100000) :
    Ev (fun k => spec_EncodeStm.l2 k s l (l.length : Int) 0 a0 a1 a2 a3 a4 a5 wh a7) (capB (l.foldl (fun s e => s ++ expEnc e) s ++ expEnc wh)) := by
  have := foldE (fun k s i => spec_EncodeStm.l2 k s l (l.length : Int) (i : Int) a0 a1 a2 a3 a4 a5 wh a7) (fun k s y => (spec_l4ExpBytes.f k y).bind fun t => if s.size + t.size ≤ 9223372036854775807 then some (s ++ t) else none) (fun s e => s ++ expEnc e) (fun s => capB (s ++ expEnc wh)) l 30000 1000000
    (fun k s i h => by
      rw [spec_EncodeStm.l2, if_pos (by omega), if_pos (by omega), if_pos (by omega), rdII l i h, wsucc i (by omega)]
      simp only [Option.bind_assoc, bind_if, Option.bind_some, Option.bind_none, bind_ite])
    (fun s hs => by
      refine Ev.step (f := fun k => (spec_l4ExpBytes.f k wh).bind fun t => if s.size + t.size ≤ 9223372036854775807 then (if ((s ++ t).size : Int) > 60000 then some (⟨#[]⟩ : ByteArray) else some (s ++ t)) else none) (fun k => by rw [spec_EncodeStm.l2, if_neg (by omega)]) ?_
      refine (spec_eb wh (by omega) (fun z hz => by have := hw.2 z hz; omega)).bind ?_
      have := expEnc_size wh hw.1 hw.2
      refine Ev.pos (by omega) ?_
      unfold capB
      split <;> exact Ev.now _)
    (fun s y hy hz => by
      refine (spec_eb y (by have := (hs y hy).1; omega) (fun z hz => by have := (hs y hy).2 z hz; omega)).bind ?_
      have := expEnc_size y (hs y hy).1 (hs y hy).2
      refine Ev.pos (by omega) ?_
      exact Ev.now _) (fun s y hy => by rw [ByteArray.size_append]; have := expEnc_size y (hs y hy).1 (hs y hy).2; omega) l.length 0 s (by omega) (by omega)
  simpa using this
theorem spec_enc (kind : Int) (table : ByteArray) (cols : List Col) (vals : List Val) (col : ByteArray) (exp wh : List Itm) (outs : List (List Itm))
    (hok : Ev (fun k => spec_StmOK.f k kind table cols vals col exp wh outs) (stmOk kind table cols vals col exp wh outs)) :
    Ev (fun k => spec_EncodeStm.f k kind table cols vals col exp wh outs) (encStm kind table cols vals col exp wh outs) := by
  unfold spec_EncodeStm.f encStm
  refine hok.bind ?_
  cases hb : stmOk kind table cols vals col exp wh outs with
  | false => simp only [if_neg ff]; exact Ev.now _
  | true =>
    obtain ⟨ht, h1, h2, h3, h4, h5⟩ := stmOk_small hb
    simp only [if_true]
    refine (spec_n1 kind).bind ?_
    refine (spec_s8 table (by omega)).bind ?_
    have e0 : (encN 1 kind ++ enc8 table).size ≤ 100 := by rw [ByteArray.size_append, encN_size, enc8_size]; omega
    refine Ev.pos (by rw [encN_size, enc8_size]; omega) ?_
    by_cases k1 : kind = 1
    · simp only [if_pos k1]
      refine (spec_n1 _).bind ?_
      refine Ev.pos (by rw [encN_size]; omega) ?_
      obtain ⟨g1, g2⟩ := h1 k1
      exact spec_ecols cols g1 (fun y hy => by have := g2 y hy; omega) _ (by rw [ByteArray.size_append, encN_size]; omega)
    · simp only [if_neg k1]
      by_cases k2 : kind = 2
      · simp only [if_pos k2]
        refine (spec_n1 _).bind ?_
        refine Ev.pos (by rw [encN_size]; omega) ?_
        obtain ⟨g1, g2⟩ := h2 k2
        exact spec_evals vals g1 (fun y hy => by have := g2 y hy; omega) _ (by rw [ByteArray.size_append, encN_size]; omega)
      · simp only [if_neg k2]
        by_cases k3 : kind = 3
        · simp only [if_pos k3]
          obtain ⟨g1, g2, g3⟩ := h3 k3
          have z1 := expEnc_size exp g2.1 g2.2
          have z2 := expEnc_size wh g3.1 g3.2
          refine (spec_s8 col (by omega)).bind ?_
          refine (spec_eb exp (by omega) (fun z hz => by have := g2.2 z hz; omega)).bind ?_
          refine Ev.pos (by rw [enc8_size]; omega) ?_
          refine (spec_eb wh (by omega) (fun z hz => by have := g3.2 z hz; omega)).bind ?_
          refine Ev.pos (by rw [ByteArray.size_append, enc8_size]; omega) ?_
          refine Ev.pos (by rw [ByteArray.size_append (a := enc8 col ++ expEnc exp), ByteArray.size_append (a := enc8 col), enc8_size]; omega) ?_
          unfold capB
          split <;> exact Ev.now _
        · simp only [if_neg k3]
          by_cases k4 : kind = 4
          · simp only [if_pos k4]
            have g3 := h4 k4
            have z2 := expEnc_size wh g3.1 g3.2
            refine (spec_eb wh (by omega) (fun z hz => by have := g3.2 z hz; omega)).bind ?_
            refine Ev.pos (by omega) ?_
            unfold capB
            split <;> exact Ev.now _
          · simp only [if_neg k4]
            by_cases k5 : kind = 5
            · simp only [if_pos k5]
              obtain ⟨g1, g2, g3⟩ := h5 k5
              refine (spec_n1 _).bind ?_
              refine Ev.pos (by rw [encN_size]; omega) ?_
              exact spec_eouts outs g1 g2 kind table cols vals col exp wh outs g3 _ (by rw [ByteArray.size_append, encN_size]; omega)
            · simp only [if_neg k5]
              unfold capB
              split <;> exact Ev.now _
theorem impl_n1 (v : Int) : Ev (fun k => impl_u8.f k v) (encN 1 v) := by
  unfold impl_u8.f
  exact (impl_num 1 v (by decide)).bind (Ev.now _)
theorem impl_n2 (v : Int) : Ev (fun k => impl_u16.f k v) (encN 2 v) := by
  unfold impl_u16.f
  exact (impl_num 2 v (by decide)).bind (Ev.now _)
theorem impl_n8 (v : Int) : Ev (fun k => impl_u64.f k v) (encN 8 v) := by
  unfold impl_u64.f
  exact (impl_num 8 v (by decide)).bind (Ev.now _)
theorem impl_s8_ev (s : ByteArray) (hs : s.size ≤ 1000000) : Ev (fun k => impl_s8.f k s) (enc8 s) := by
  unfold impl_s8.f
  refine (impl_n1 _).bind ?_
  refine Ev.pos (by rw [encN_size]; omega) ?_
  exact Ev.now _
theorem impl_s16_ev (s : ByteArray) (hs : s.size ≤ 1000000) : Ev (fun k => impl_s16.f k s) (enc16 s) := by
  unfold impl_s16.f
  refine (impl_n2 _).bind ?_
  refine Ev.pos (by rw [encN_size]; omega) ?_
  exact Ev.now _
theorem impl_stepI (s : ByteArray) (y : Itm) (hy : y.f2.size ≤ 1000) (hs : s.size ≤ 1000000000) : Ev (fun k => (impl_u8.f k y.f0).bind fun t => if s.size + t.size ≤ 9223372036854775807 then (if y.f0 = 1 then (impl_u64.f k y.f1).bind fun u => if (s ++ t).size + u.size ≤ 9223372036854775807 then some ((s ++ t) ++ u) else none else if y.f0 = 2 then (impl_s16.f k y.f2).bind fun u => if (s ++ t).size + u.size ≤ 9223372036854775807 then some ((s ++ t) ++ u) else none else if y.f0 = 3 then (impl_s8.f k y.f2).bind fun u => if (s ++ t).size + u.size ≤ 9223372036854775807 then some ((s ++ t) ++ u) else none else some (s ++ t)) else none) (stepI s y) := by
  unfold stepI
  refine (impl_n1 y.f0).bind ?_
  refine Ev.pos (by rw [encN_size]; omega) ?_
  by_cases c1 : y.f0 = 1
  · simp only [if_pos c1]
    refine (impl_n8 y.f1).bind ?_
    refine Ev.pos (by rw [ByteArray.size_append, encN_size, encN_size]; omega) ?_
    exact Ev.now _
  · by_cases c2 : y.f0 = 2
    · simp only [if_neg c1, if_pos c2]
      refine (impl_s16_ev y.f2 (by omega)).bind ?_
      refine Ev.pos (by rw [ByteArray.size_append, encN_size, enc16_size]; omega) ?_
      exact Ev.now _
    · by_cases c3 : y.f0 = 3
      · simp only [if_neg c1, if_neg c2, if_pos c3]
        refine (impl_s8_ev y.f2 (by omega)).bind ?_
        refine Ev.pos (by rw [ByteArray.size_append, encN_size, enc8_size]; omega) ?_
        exact Ev.now _
      · simp only [if_neg c1, if_neg c2, if_neg c3]
        exact Ev.now _
theorem impl_eb (l : List Itm) (hl : l.length ≤ 200) (hs : ∀ y ∈ l, y.f2.size ≤ 1000) : Ev (fun k => impl_expBytes.f k l) (expEnc l) := by
  unfold impl_expBytes.f expEnc
  refine (impl_n2 _).bind ?_
  have := foldE (fun k s i => impl_expBytes.l0 k s l (l.length : Int) (i : Int)) (fun k s y => (impl_u8.f k y.f0).bind fun t => if s.size + t.size ≤ 9223372036854775807 then (if y.f0 = 1 then (impl_u64.f k y.f1).bind fun u => if (s ++ t).size + u.size ≤ 9223372036854775807 then some ((s ++ t) ++ u) else none else if y.f0 = 2 then (impl_s16.f k y.f2).bind fun u => if (s ++ t).size + u.size ≤ 9223372036854775807 then some ((s ++ t) ++ u) else none else if y.f0 = 3 then (impl_s8.f k y.f2).bind fun u => if (s ++ t).size + u.size ≤ 9223372036854775807 then some ((s ++ t) ++ u) else none else some (s ++ t)) else none) stepI id l 1100 1000000
    (fun k s i h => by
      rw [impl_expBytes.l0, if_pos (by omega), if_pos (by omega), if_pos (by omega), rdItm l i h, wsucc i (by omega)]
      simp only [Option.bind_assoc, bind_if, Option.bind_some, Option.bind_none, bind_ite])
    (fun s hs => Ev.step (f := fun _ => some s) (fun k => by rw [impl_expBytes.l0, if_neg (by omega)]) (Ev.now _))
    (fun s y hy hz => impl_stepI s y (hs y hy) (by omega)) (fun s y hy => stepI_size s y (hs y hy)) l.length 0 (encN 2 (l.length : Int)) (by omega) (by rw [encN_size]; omega)
  simpa using this
theorem impl_fin (F : Nat → Option ByteArray) (s : ByteArray) (h : ∀ k, F (k + 1) = if (s.size : Int) > 60000 then some (⟨#[]⟩ : ByteArray) else some s) : Ev F (capB s) := by
  refine Ev.step (f := fun _ => some (capB s)) (fun k => ?_) (Ev.now _)
  rw [h k]
  unfold capB
  split <;> rfl
theorem impl_ecols (l : List Col) (hl : l.length ≤ 20) (hs : ∀ y ∈ l, y.f0.size ≤ 1000) (s : ByteArray) (hz : s.size ≤ 100000) : Ev (fun k => impl_EncodeStm.l0 k s l (l.length : Int) 0) (capB (l.foldl stepC s)) := by
  have := foldE (fun k s i => impl_EncodeStm.l0 k s l (l.length : Int) (i : Int)) (fun k s y => (impl_s8.f k y.f0).bind fun t => (impl_u8.f k y.f1).bind fun u => if t.size + u.size ≤ 9223372036854775807 then (if s.size + (t ++ u).size ≤ 9223372036854775807 then some (s ++ (t ++ u)) else none) else none) stepC capB l 1100 1000000
    (fun k s i h => by
      rw [impl_EncodeStm.l0, if_pos (by omega), if_pos (by omega), if_pos (by omega), rdCol l i h, wsucc i (by omega)]
      simp only [Option.bind_assoc, bind_if, Option.bind_some, Option.bind_none, bind_ite])
    (fun s hs => impl_fin _ s fun k => by rw [impl_EncodeStm.l0, if_neg (by omega)])
    (fun s y hy hz => by
      refine (impl_s8_ev y.f0 (by have := hs y hy; omega)).bind ?_
      refine (impl_n1 y.f1).bind ?_
      refine Ev.pos (by rw [enc8_size, encN_size]; have := hs y hy; omega) ?_
      refine Ev.pos (by rw [ByteArray.size_append, enc8_size, encN_size]; have := hs y hy; omega) ?_
      exact Ev.now _) (fun s y hy => by unfold stepC; rw [ByteArray.size_append, ByteArray.size_append, enc8_size, encN_size]; have := hs y hy; omega) l.length 0 s (by omega) (by omega)
  simpa using this
theorem impl_evals (l : List Val) (hl : l.length ≤ 20) (hs : ∀ y ∈ l, y.f2.size ≤ 1000) (s : ByteArray) (hz : s.size ≤ 100000) : Ev (fun k => impl_EncodeStm.l1 k s l (l.length : Int) 0) (capB (l.foldl stepV s)) := by
  have := foldE (fun k s i => impl_EncodeStm.l1 k s l (l.length : Int) (i : Int)) (fun k s y => (impl_u8.f k y.f0).bind fun t => if s.size + t.size ≤ 9223372036854775807 then (if y.f0 = 1 then (impl_u64.f k y.f1).bind fun u => if (s ++ t).size + u.size ≤ 9223372036854775807 then some ((s ++ t) ++ u) else none else (impl_s16.f k y.f2).bind fun u => if (s ++ t).size + u.size ≤ 9223372036854775807 then some ((s ++ t) ++ u) else none) else none) stepV capB l 1100 1000000
    (fun k s i h => by
      rw [impl_EncodeStm.l1, if_pos (by omega), if_pos (by omega), if_pos (by omega), rdVal l i h, wsucc i (by omega)]
      simp only [Option.bind_assoc, bind_if, Option.bind_some, Option.bind_none, bind_ite])
    (fun s hs => impl_fin _ s fun k => by rw [impl_EncodeStm.l1, if_neg (by omega)])
    (fun s y hy hz => by
      unfold stepV
      refine (impl_n1 y.f0).bind ?_
      refine Ev.pos (by rw [encN_size]; omega) ?_
      by_cases c1 : y.f0 = 1
      · simp only [if_pos c1]
        refine (impl_n8 y.f1).bind ?_
        refine Ev.pos (by rw [ByteArray.size_append, encN_size, encN_size]; omega) ?_
        exact Ev.now _
      · simp only [if_neg c1]
        refine (impl_s16_ev y.f2 (by have := hs y hy; omega)).bind ?_
        refine Ev.pos (by rw [ByteArray.size_append, encN_size, enc16_size]; have := hs y hy; omega) ?_
        exact Ev.now _) (fun s y hy => stepV_size s y (hs y hy)) l.length 0 s (by omega) (by omega)
  simpa using this
theorem impl_eouts (l : List (List Itm)) (hl : l.length ≤ 20) (hs : ∀ y ∈ l, y.length ≤ 100 ∧ ∀ z ∈ y, z.f2.size ≤ 200) (a0 : Int) (a1 : ByteArray) (a2 : List Col) (a3 : List Val) (a4 : ByteArray) (a5 wh : List Itm) (a7 : List (List Itm)) (hw : wh.length ≤ 100 ∧ ∀ z ∈ wh, z.f2.size ≤ 200) (s : ByteArray) (hz : s.size ≤ 100000) :
    Ev (fun k => impl_EncodeStm.l2 k s l (l.length : Int) 0 a0 a1 a2 a3 a4 a5 wh a7) (capB (l.foldl (fun s e => s ++ expEnc e) s ++ expEnc wh)) := by
  have := foldE (fun k s i => impl_EncodeStm.l2 k s l (l.length : Int) (i : Int) a0 a1 a2 a3 a4 a5 wh a7) (fun k s y => (impl_expBytes.f k y).bind fun t => if s.size + t.size ≤ 9223372036854775807 then some (s ++ t) else none) (fun s e => s ++ expEnc e) (fun s => capB (s ++ expEnc wh)) l 30000 1000000
    (fun k s i h => by
      rw [impl_EncodeStm.l2, if_pos (by omega), if_pos (by omega), if_pos (by omega), rdII l i h, wsucc i (by omega)]
      simp only [Option.bind_assoc, bind_if, Option.bind_some, Option.bind_none, bind_ite])
    (fun s hs => by
      refine Ev.step (f := fun k => (impl_expBytes.f k wh).bind fun t => if s.size + t.size ≤ 9223372036854775807 then (if ((s ++ t).size : Int) > 60000 then some (⟨#[]⟩ : ByteArray) else some (s ++ t)) else none) (fun k => by rw [impl_EncodeStm.l2, if_neg (by omega)]) ?_
      refine (impl_eb wh (by omega) (fun z hz => by have := hw.2 z hz; omega)).bind ?_
      have := expEnc_size wh hw.1 hw.2
      refine Ev.pos (by omega) ?_
      unfold capB
      split <;> exact Ev.now _)
    (fun s y hy hz => by
      refine (impl_eb y (by have := (hs y hy).1; omega) (fun z hz => by have := (hs y hy).2 z hz; omega)).bind ?_
      have := expEnc_size y (hs y hy).1 (hs y hy).2
      refine Ev.pos (by omega) ?_
      exact Ev.now _) (fun s y hy => by rw [ByteArray.size_append]; have := expEnc_size y (hs y hy).1 (hs y hy).2; omega) l.length 0 s (by omega) (by omega)
  simpa using this
theorem impl_enc (kind : Int) (table : ByteArray) (cols : List Col) (vals : List Val) (col : ByteArray) (exp wh : List Itm) (outs : List (List Itm))
    (hok : Ev (fun k => impl_StmOK.f k kind table cols vals col exp wh outs) (stmOk kind table cols vals col exp wh outs)) :
    Ev (fun k => impl_EncodeStm.f k kind table cols vals col exp wh outs) (encStm kind table cols vals col exp wh outs) := by
  unfold impl_EncodeStm.f encStm
  refine hok.bind ?_
  cases hb : stmOk kind table cols vals col exp wh outs with
  | false => simp only [if_neg ff]; exact Ev.now _
  | true =>
    obtain ⟨ht, h1, h2, h3, h4, h5⟩ := stmOk_small hb
    simp only [if_true]
    refine (impl_n1 kind).bind ?_
    refine (impl_s8_ev table (by omega)).bind ?_
    have e0 : (encN 1 kind ++ enc8 table).size ≤ 100 := by rw [ByteArray.size_append, encN_size, enc8_size]; omega
    refine Ev.pos (by rw [encN_size, enc8_size]; omega) ?_
    by_cases k1 : kind = 1
    · simp only [if_pos k1]
      refine (impl_n1 _).bind ?_
      refine Ev.pos (by rw [encN_size]; omega) ?_
      obtain ⟨g1, g2⟩ := h1 k1
      exact impl_ecols cols g1 (fun y hy => by have := g2 y hy; omega) _ (by rw [ByteArray.size_append, encN_size]; omega)
    · simp only [if_neg k1]
      by_cases k2 : kind = 2
      · simp only [if_pos k2]
        refine (impl_n1 _).bind ?_
        refine Ev.pos (by rw [encN_size]; omega) ?_
        obtain ⟨g1, g2⟩ := h2 k2
        exact impl_evals vals g1 (fun y hy => by have := g2 y hy; omega) _ (by rw [ByteArray.size_append, encN_size]; omega)
      · simp only [if_neg k2]
        by_cases k3 : kind = 3
        · simp only [if_pos k3]
          obtain ⟨g1, g2, g3⟩ := h3 k3
          have z1 := expEnc_size exp g2.1 g2.2
          have z2 := expEnc_size wh g3.1 g3.2
          refine (impl_s8_ev col (by omega)).bind ?_
          refine (impl_eb exp (by omega) (fun z hz => by have := g2.2 z hz; omega)).bind ?_
          refine Ev.pos (by rw [enc8_size]; omega) ?_
          refine (impl_eb wh (by omega) (fun z hz => by have := g3.2 z hz; omega)).bind ?_
          refine Ev.pos (by rw [ByteArray.size_append, enc8_size]; omega) ?_
          refine Ev.pos (by rw [ByteArray.size_append (a := enc8 col ++ expEnc exp), ByteArray.size_append (a := enc8 col), enc8_size]; omega) ?_
          unfold capB
          split <;> exact Ev.now _
        · simp only [if_neg k3]
          by_cases k4 : kind = 4
          · simp only [if_pos k4]
            have g3 := h4 k4
            have z2 := expEnc_size wh g3.1 g3.2
            refine (impl_eb wh (by omega) (fun z hz => by have := g3.2 z hz; omega)).bind ?_
            refine Ev.pos (by omega) ?_
            unfold capB
            split <;> exact Ev.now _
          · simp only [if_neg k4]
            by_cases k5 : kind = 5
            · simp only [if_pos k5]
              obtain ⟨g1, g2, g3⟩ := h5 k5
              refine (impl_n1 _).bind ?_
              refine Ev.pos (by rw [encN_size]; omega) ?_
              exact impl_eouts outs g1 g2 kind table cols vals col exp wh outs g3 _ (by rw [ByteArray.size_append, encN_size]; omega)
            · simp only [if_neg k5]
              unfold capB
              split <;> exact Ev.now _
end Go.Proofs.YtjihphegmdfpfaaDoor.Pure
end
section
set_option linter.unusedVariables false
set_option linter.unusedSimpArgs false
namespace Go.Proofs.YtjihphegmdfpfaaDoor.Pure
open Go Go.RowKit Go.Proofs.YtjihphegmdfpfaaDoor Go.Proofs.YtjihphegmdfpfaaDoor.L Go.Proofs.YtjihphegmdfpfaaDoorW.PrintWords Go.Proofs.YtjihphegmdfpfaaDoorW.PrintMore Go.Proofs.YtjihphegmdfpfaaDoorW.PrintLast
theorem fnExactEncodeStm_pure : fnExactEncodeStm.Pure0 := by
  intro kind table cols vals col exp wh outs _ ht hcl hcg hvl hvg hcs hel heg hwl hwg hol hog holl
  have hM : maxLen = 9223372036854775807 := by unfold maxLen; rfl
  have hin : StmIn table cols vals col exp wh outs := by
    refine ⟨by omega, ⟨by omega, fun y hy => ?_⟩, ⟨by omega, fun y hy => ?_⟩, by omega, ⟨by omega, fun y hy => ?_⟩, ⟨by omega, fun y hy => ?_⟩, ⟨by omega, fun y hy => ⟨by have := holl y hy; omega, fun z hz => ?_⟩⟩⟩
    · have := hcg y hy; unfold fnExactEncodeStm.good77 at this; omega
    · have := hvg y hy; unfold fnExactEncodeStm.good79 at this; omega
    · have := heg y hy; unfold fnExactEncodeStm.good82 at this; omega
    · have := hwg y hy; unfold fnExactEncodeStm.good82 at this; omega
    · have := hog y hy z hz; unfold fnExactEncodeStm.good82 at this; omega
  have h : Ev (fun k => laws_FnExactEncodeStm.f k kind table cols vals col exp wh outs) true := by
    unfold laws_FnExactEncodeStm.f
    refine (szStm_ev kind table cols vals col exp wh outs 1048576 hin (by omega) (by omega)).bind ?_
    by_cases hc : (wtStm table cols vals col exp wh outs : Int) ≤ 1048576
    · simp only [if_pos hc, if_neg (show ¬ (1048576 - (wtStm table cols vals col exp wh outs : Int) < 0) by omega)]
      have hw : wtStm table cols vals col exp wh outs ≤ 1048576 := by omega
      have hto := toStm_ev kind table cols vals col exp wh outs hw
      obtain ⟨g1, ⟨g2, g2s⟩, ⟨g3, g3s⟩, g4, ⟨g5, g5s⟩, ⟨g6, g6s⟩, ⟨g7, g7s⟩⟩ := hin
      have hw2 := hw
      unfold wtStm wtL at hw2
      have c2 : (cols.map cvC).length ≤ 1048576 := by rw [List.length_map]; omega
      have c3 : (vals.map cvV).length ≤ 1048576 := by rw [List.length_map]; omega
      have c5 : (exp.map cvI).length ≤ 1048576 := by rw [List.length_map]; omega
      have c6 : (wh.map cvI).length ≤ 1048576 := by rw [List.length_map]; omega
      have c7 : (outs.map cvII).length ≤ 1048576 := by rw [List.length_map]; omega
      have c2s : ∀ y ∈ cols.map cvC, y.f0.size ≤ 9223372036854775807 := fun y hy => by
        obtain ⟨x, hx, rfl⟩ := List.mem_map.1 hy
        exact g2s x hx
      have c3s : ∀ y ∈ vals.map cvV, y.f2.size ≤ 9223372036854775807 := fun y hy => by
        obtain ⟨x, hx, rfl⟩ := List.mem_map.1 hy
        exact g3s x hx
      have c5s : ∀ y ∈ exp.map cvI, y.f2.size ≤ 9223372036854775807 := fun y hy => by
        obtain ⟨x, hx, rfl⟩ := List.mem_map.1 hy
        exact g5s x hx
      have c6s : ∀ y ∈ wh.map cvI, y.f2.size ≤ 9223372036854775807 := fun y hy => by
        obtain ⟨x, hx, rfl⟩ := List.mem_map.1 hy
        exact g6s x hx
      have c7l : ∀ y ∈ outs.map cvII, y.length ≤ 9223372036854775807 := fun y hy => by
        obtain ⟨x, hx, rfl⟩ := List.mem_map.1 hy
        have := (g7s x hx).1
        unfold cvII
        rw [List.length_map]; exact this
      have c7s : ∀ y ∈ outs.map cvII, ∀ z ∈ y, z.f2.size ≤ 9223372036854775807 := fun y hy z hz => by
        obtain ⟨x, hx, rfl⟩ := List.mem_map.1 hy
        obtain ⟨u, hu, rfl⟩ := List.mem_map.1 hz
        exact (g7s x hx).2 u hu
      refine hto.bind ?_
      refine (spec_enc kind table (cols.map cvC) (vals.map cvV) col (exp.map cvI) (wh.map cvI) (outs.map cvII) (spec_stm table (cols.map cvC) (vals.map cvV) col (exp.map cvI) (wh.map cvI) (outs.map cvII) kind (by omega) (by omega) (by omega))).bind ?_
      refine hto.bind ?_
      refine (impl_enc kind table (cols.map cvC) (vals.map cvV) col (exp.map cvI) (wh.map cvI) (outs.map cvII) (impl_stm table (cols.map cvC) (vals.map cvV) col (exp.map cvI) (wh.map cvI) (outs.map cvII) kind (by omega) (by omega) (by omega) c2s (by omega) c3s c5s c6s (by omega) c7s)).bind ?_
      simp only [if_true]
      refine hto.bind ?_
      refine (eqStm_ev kind table (cols.map cvC) (vals.map cvV) col (exp.map cvI) (wh.map cvI) (outs.map cvII) (by omega) (by omega) (by omega) (by omega) (by omega) c7l).bind ?_
      simp only [if_true]
      exact Ev.now _
    · simp only [if_neg hc, if_pos (show (-1 : Int) < 0 by decide)]
      exact Ev.now _
  exact h.rounds
end Go.Proofs.YtjihphegmdfpfaaDoor.Pure
namespace Go.Proofs.YtjihphegmdfpfaaDoor
theorem fnExactEncodeStm_holds : Rows.FnExactEncodeStmCardSaid := fnExactEncodeStm.card Pure.fnExactEncodeStm_pure
end Go.Proofs.YtjihphegmdfpfaaDoor
end
