/- The texts that the proof of the law FnLiePath rests on, part 3: printed functions with their contracts, words, plain laws; the last part ends in the statement itself. No condition but those that each theorem states. -/
import Derived.Test.YtajkbbifemeanaaGreatDoorKFnLiePath2
set_option linter.unusedVariables false
set_option linter.unusedSimpArgs false
section
namespace Go.Proofs.YtajkbbifemeanaaGreatDoor.L
open Go.RowKit Go.Proofs.YtajkbbifemeanaaGreatDoorW.PrintWords Go.Proofs.YtajkbbifemeanaaGreatDoorW.PrintLast Go.Proofs.YtajkbbifemeanaaGreatDoorW.PrintMore
attribute [local go_sem] max2_int min2_int max_two min_two max_three min_three max_four min_four
set_option linter.unusedVariables false
set_option linter.unusedSimpArgs false
def spec_l3WidthsOK.l0 : Nat → Int → List ByteArray → Int → Int → Option (Bool)
  | 0, _, _, _, _ => none
  | k + 1, x0, x7, x8, x9 => if x9 < x8 then (if 0 ≤ x9 then (if x9 < (x7.length : Int) then ((spec_l2Width.f x0).bind fun t266 => (if ((rdOf ByteArray.empty x7 x9).size : Int) = t266 then (spec_l3WidthsOK.l0 k x0 x7 x8 (wrap64 (x9 + 1))) else (some false))) else (none)) else (none)) else ((spec_l2KindOK.f x0).bind fun t267 => (some t267))
def spec_l3WidthsOK.f (k : Nat) (a0 : Int) (l1 : List ByteArray) : Option (Bool) := spec_l3WidthsOK.l0 k a0 l1 (l1.length : Int) 0
theorem spec_l3WidthsOK.mono_l : ∀ k, (∀ y0 y1 y2 y3, LeO (spec_l3WidthsOK.l0 k y0 y1 y2 y3) (spec_l3WidthsOK.l0 (k + 1) y0 y1 y2 y3))
  | 0 => fun _ _ _ _ r h => by simp [spec_l3WidthsOK.l0] at h
  | k + 1 => by
    have ih0 := spec_l3WidthsOK.mono_l k
    · intro y0 y1 y2 y3
      unfold spec_l3WidthsOK.l0
      repeat' first
        | (with_reducible first | exact ih0 .. | exact LeO.refl _ | exact LeO.none _ | refine LeO.ite ?_ ?_ | refine LeO.bind ?_ (fun _ => ?_))
        | exact ih0 .. | exact LeO.none _ | refine LeO.ite ?_ ?_ | refine LeO.bind ?_ (fun _ => ?_)
theorem spec_l3WidthsOK.mono : ∀ a0 a1 k, LeO (spec_l3WidthsOK.f k a0 a1) (spec_l3WidthsOK.f (k + 1) a0 a1) := by
  intro a0 a1 k
  have ih0 := spec_l3WidthsOK.mono_l k
  unfold spec_l3WidthsOK.f
  repeat' first
    | (with_reducible first | exact ih0 .. | exact LeO.refl _ | exact LeO.none _ | refine LeO.ite ?_ ?_ | refine LeO.bind ?_ (fun _ => ?_))
    | exact ih0 .. | exact LeO.none _ | refine LeO.ite ?_ ?_ | refine LeO.bind ?_ (fun _ => ?_)
set_option maxHeartbeats 8000000 in
set_option maxRecDepth 100000 in
theorem spec_l3WidthsOK.calls (k : Nat) (a0 : Int) (A1 : Option Addr) (c1 : Nat) (l1 : List ByteArray) (r : Bool) (w : World) (hr1 : Kd.C Kd.string w A1 l1.length l1) (hc1 : l1.length ≤ c1) (h : spec_l3WidthsOK.f k a0 l1 = some r) :
    Calls Tryz.prog 96 #[.int .i64 a0, .slice A1 l1.length c1] w fun e w' => e = .returned (.bool r) ∧ Drawn0 w w' := by
  have HR1 := qK hr1; have HC1 := qK hc1; clear hr1 hc1; have H : (spec_l3WidthsOK.l0 k a0 l1 (l1.length : Int) 0) = some r := h; clear h; have H' := qK H; clear H; go_enter Tryz.func96, Tryz.ntmps96; go_wp2; go_loopg [9] k (fun kq v9 w' => ∃ (x9_1 : Int), v9 = .int .i64 x9_1 ∧ Aside0 (spec_l3WidthsOK.l0 kq a0 l1 (l1.length : Int) x9_1 = some r) ∧ Aside0 (kq ≤ k) ∧ Drawn0 w w')
  case atStart => exact ⟨(0), qS, H', ⟨Nat.le_refl _⟩, by repeat (first | exact Drawn0.refl _ | apply Drawn0.step)⟩
  case round =>
    clear H'; (try clear c1); obtain ⟨x9_1, rfl, HA, HK1, ⟨m1, rfl⟩⟩ := hrel
    cases gk with
    | zero => exact absurd HA.out (by simp [spec_l3WidthsOK.l0])
    | succ k1 =>
      have H := HA.out; clear HA; simp only [spec_l3WidthsOK.l0] at H; by_cases c3 : x9_1 < (l1.length : Int)
      · rw [if_pos c3] at H; have c3b0 := decide_eq_true c3; clear c3; by_cases c4 : 0 ≤ x9_1
        · rw [if_pos c4] at H; have c4b0 := decide_eq_true c4; clear c4; by_cases c5 : x9_1 < (l1.length : Int)
          · rw [if_pos c5] at H; have c5b0 := decide_eq_true c5; clear c5; obtain ⟨t266, A6, H⟩ := qbi H; by_cases c7 : ((rdOf ByteArray.empty l1 x9_1).size : Int) = t266
            · rw [if_pos c7] at H; obtain ⟨c7b0, c7b1⟩ := qe c7; clear c7; have H' := qK H; clear H; have p265 : 0 ≤ (x9_1 : Int) := of_decide_eq_true qa; have q265 : x9_1 < (l1.length : Int) := of_decide_eq_true qa; obtain ⟨ad265, e265, hx265_0⟩ := Kd.at_string HR1.out x9_1 p265 q265; cases e265; replace p265 := eq_true p265; replace q265 := eq_true q265; go_wp2_with (first | ((with_reducible refine gcl (f := 36) rfl ?_); refine gL 16 Tryz.func36 #[.int .i64 a0] ?_; (with_reducible refine (spec_l2Width.calls a0 t266 _ A6.out).mono ?_); rintro e w' ⟨rfl, ⟨nd, rfl⟩⟩; refine ⟨_, rfl, ?_⟩)); go_roundg k1
              case measure => have := HK1.out; omega
              case rel => exact ⟨(wrap64 (x9_1 + 1)), qS, H', ⟨by have := HK1.out; omega⟩, by repeat (first | exact Drawn0.refl _ | apply Drawn0.step)⟩
            · rw [if_neg c7] at H; obtain ⟨c7b0, c7b1⟩ := qn c7; obtain rfl := qsi H; have p265 : 0 ≤ (x9_1 : Int) := of_decide_eq_true qa; have q265 : x9_1 < (l1.length : Int) := of_decide_eq_true qa; obtain ⟨ad265, e265, hx265_0⟩ := Kd.at_string HR1.out x9_1 p265 q265; cases e265; replace p265 := eq_true p265; replace q265 := eq_true q265; go_wp2_with (first | ((with_reducible refine gcl (f := 36) rfl ?_); refine gL 16 Tryz.func36 #[.int .i64 a0] ?_; (with_reducible refine (spec_l2Width.calls a0 t266 _ A6.out).mono ?_); rintro e w' ⟨rfl, ⟨nd, rfl⟩⟩; refine ⟨_, rfl, ?_⟩)); go_ret; exact ⟨by first | rfl | (simp; done) | (simp [*]; done), by repeat (first | exact Drawn0.refl _ | apply Drawn0.step)⟩
          · rw [if_neg c5] at H; exact absurd H (by simp)
        · rw [if_neg c4] at H; exact absurd H (by simp)
      · rw [if_neg c3] at H; have c3b0 := decide_eq_false c3; clear c3; obtain ⟨t267, A8, H⟩ := qbi H; obtain rfl := qsi H; go_wp2_with (first | ((with_reducible refine gcl (f := 34) rfl ?_); refine gL 20 Tryz.func34 #[.int .i64 a0] ?_; (with_reducible refine (spec_l2KindOK.calls a0 t267 _ A8.out).mono ?_); rintro e w' ⟨rfl, ⟨nd, rfl⟩⟩; refine ⟨_, rfl, ?_⟩)); go_ret; exact ⟨by first | rfl | (simp; done) | (simp [*]; done), by repeat (first | exact Drawn0.refl _ | apply Drawn0.step)⟩
def spec_l3PathLen.f : Nat → Int → Int → Option (Int)
  | 0, _, _ => none
  | k + 1, a0, a1 => if a1 = 1 then (some 0) else ((spec_l2Split.f k a1).bind fun t268 => (if a0 < t268 then ((spec_l3PathLen.f k a0 t268).bind fun t269 => (some (wrap64 (1 + t269)))) else ((spec_l3PathLen.f k (wrap64 (a0 - t268)) (wrap64 (a1 - t268))).bind fun t270 => (some (wrap64 (1 + t270))))))
theorem spec_l3PathLen.mono_l : ∀ k, (∀ y0 y1, LeO (spec_l3PathLen.f k y0 y1) (spec_l3PathLen.f (k + 1) y0 y1))
  | 0 => fun _ _ r h => by simp [spec_l3PathLen.f] at h
  | k + 1 => by
    have ih0 := spec_l3PathLen.mono_l k
    · intro y0 y1
      unfold spec_l3PathLen.f
      repeat' first
        | (with_reducible first | exact ih0 .. | exact spec_l2Split.mono .. | exact LeO.refl _ | exact LeO.none _ | refine LeO.ite ?_ ?_ | refine LeO.bind ?_ (fun _ => ?_))
        | exact ih0 .. | exact spec_l2Split.mono .. | exact LeO.none _ | refine LeO.ite ?_ ?_ | refine LeO.bind ?_ (fun _ => ?_)
theorem spec_l3PathLen.mono : ∀ a0 a1 k, LeO (spec_l3PathLen.f k a0 a1) (spec_l3PathLen.f (k + 1) a0 a1) := by
  intro a0 a1 k
  have ih0 := spec_l3PathLen.mono_l k
  exact ih0 a0 a1
set_option maxHeartbeats 8000000 in
set_option maxRecDepth 100000 in
theorem spec_l3PathLen.calls (k : Nat) : ∀ (a0 : Int) (a1 : Int) (r : Int) (w : World) (h : spec_l3PathLen.f k a0 a1 = some r),
    Calls Tryz.prog 97 #[.int .i64 a0, .int .i64 a1] w fun e w' => e = .returned (.int .i64 r) ∧ Drawn0 w w' := by
  induction k using Nat.strongRecOn with
  | _ k ih =>
  intro a0 a1 r w h
  cases k with
  | zero => exact absurd h (by simp [spec_l3PathLen.f])
  | succ k =>
  simp only [spec_l3PathLen.f] at h; have H : (if a1 = 1 then (some 0) else ((spec_l2Split.f k a1).bind fun t268 => (if a0 < t268 then ((spec_l3PathLen.f k a0 t268).bind fun t269 => (some (wrap64 (1 + t269)))) else ((spec_l3PathLen.f k (wrap64 (a0 - t268)) (wrap64 (a1 - t268))).bind fun t270 => (some (wrap64 (1 + t270))))))) = some r := h; clear h; by_cases c3 : a1 = 1
  · rw [if_pos c3] at H; obtain ⟨c3b0, c3b1⟩ := qe c3; clear c3; obtain rfl := qsi H; go_enter Tryz.func97, Tryz.ntmps97; go_wp2; go_ret; exact ⟨by first | rfl | (simp; done) | (simp [*]; done), by repeat (first | exact Drawn0.refl _ | apply Drawn0.step)⟩
  · rw [if_neg c3] at H; obtain ⟨c3b0, c3b1⟩ := qn c3; obtain ⟨t268, A4, H⟩ := qbi H; by_cases c5 : a0 < t268
    · rw [if_pos c5] at H; have c5b0 := decide_eq_true c5; clear c5; obtain ⟨t269, A6, H⟩ := qbi H; obtain rfl := qsi H; go_enter Tryz.func97, Tryz.ntmps97; go_wp2_with (first | ((with_reducible refine gcl (f := 32) rfl ?_); refine gL 9 Tryz.func32 #[.int .i64 a1] ?_; (with_reducible refine (spec_l2Split.calls k a1 t268 _ A4.out).mono ?_); rintro e w' ⟨rfl, ⟨nd, rfl⟩⟩; refine ⟨_, rfl, ?_⟩) | ((with_reducible refine gcl (f := 97) rfl ?_); refine gL 15 Tryz.func97 #[.int .i64 a0, .int .i64 t268] ?_; (with_reducible refine (ih k (by omega) a0 t268 t269 _ A6.out).mono ?_); rintro e w' ⟨rfl, ⟨nd, rfl⟩⟩; refine ⟨_, rfl, ?_⟩)); go_ret; exact ⟨by first | rfl | (simp; done) | (simp [*]; done), by repeat (first | exact Drawn0.refl _ | apply Drawn0.step)⟩
    · rw [if_neg c5] at H; have c5b0 := decide_eq_false c5; clear c5; obtain ⟨t270, A7, H⟩ := qbi H; obtain rfl := qsi H; go_enter Tryz.func97, Tryz.ntmps97; go_wp2_with (first | ((with_reducible refine gcl (f := 32) rfl ?_); refine gL 9 Tryz.func32 #[.int .i64 a1] ?_; (with_reducible refine (spec_l2Split.calls k a1 t268 _ A4.out).mono ?_); rintro e w' ⟨rfl, ⟨nd, rfl⟩⟩; refine ⟨_, rfl, ?_⟩) | ((with_reducible refine gcl (f := 97) rfl ?_); refine gL 23 Tryz.func97 #[.int .i64 (wrap64 (a0 - t268)), .int .i64 (wrap64 (a1 - t268))] ?_; (with_reducible refine (ih k (by omega) (wrap64 (a0 - t268)) (wrap64 (a1 - t268)) t270 _ A7.out).mono ?_); rintro e w' ⟨rfl, ⟨nd, rfl⟩⟩; refine ⟨_, rfl, ?_⟩)); go_ret; exact ⟨by first | rfl | (simp; done) | (simp [*]; done), by repeat (first | exact Drawn0.refl _ | apply Drawn0.step)⟩
def spec_l3PathFits.f (k : Nat) (a0 : Int) (a1 : Int) (a2 : Int) (l3 : List ByteArray) : Option (Bool) := (spec_l3WidthsOK.f k a0 l3).bind fun t271 => (if t271 = true then ((spec_l1Between.f a2 1 2147483648).bind fun t272 => (if t272 = true then ((spec_l1Between.f a1 0 (wrap64 (a2 - 1))).bind fun t273 => (if t273 = true then ((spec_l3PathLen.f k a1 a2).bind fun t274 => (some ((l3.length : Int) == t274))) else (some false))) else (some false))) else (some false))
theorem spec_l3PathFits.mono : ∀ a0 a1 a2 a3 k, LeO (spec_l3PathFits.f k a0 a1 a2 a3) (spec_l3PathFits.f (k + 1) a0 a1 a2 a3) := by
  intro a0 a1 a2 a3 k
  unfold spec_l3PathFits.f
  repeat' first
    | (with_reducible first | exact spec_l3PathLen.mono .. | exact spec_l3WidthsOK.mono .. | exact LeO.refl _ | exact LeO.none _ | refine LeO.ite ?_ ?_ | refine LeO.bind ?_ (fun _ => ?_))
    | exact spec_l3PathLen.mono .. | exact spec_l3WidthsOK.mono .. | exact LeO.none _ | refine LeO.ite ?_ ?_ | refine LeO.bind ?_ (fun _ => ?_)
set_option maxHeartbeats 8000000 in
set_option maxRecDepth 100000 in
theorem spec_l3PathFits.calls (k : Nat) (a0 : Int) (a1 : Int) (a2 : Int) (A3 : Option Addr) (c3 : Nat) (l3 : List ByteArray) (r : Bool) (w : World) (hr3 : Kd.C Kd.string w A3 l3.length l3) (hc3 : l3.length ≤ c3) (h : spec_l3PathFits.f k a0 a1 a2 l3 = some r) :
    Calls Tryz.prog 47 #[.int .i64 a0, .int .i64 a1, .int .i64 a2, .slice A3 l3.length c3] w fun e w' => e = .returned (.bool r) ∧ Drawn0 w w' := by
  have HR3 := qK hr3; have HC3 := qK hc3; clear hr3 hc3; have H : ((spec_l3WidthsOK.f k a0 l3).bind fun t271 => (if t271 = true then ((spec_l1Between.f a2 1 2147483648).bind fun t272 => (if t272 = true then ((spec_l1Between.f a1 0 (wrap64 (a2 - 1))).bind fun t273 => (if t273 = true then ((spec_l3PathLen.f k a1 a2).bind fun t274 => (some ((l3.length : Int) == t274))) else (some false))) else (some false))) else (some false))) = some r := h; clear h; obtain ⟨t271, A5, H⟩ := qbi H; by_cases c6 : t271 = true
  · subst c6; rw [if_pos rfl] at H; obtain ⟨t272, A7, H⟩ := qbi H; by_cases c8 : t272 = true
    · subst c8; rw [if_pos rfl] at H; obtain ⟨t273, A9, H⟩ := qbi H; by_cases c10 : t273 = true
      · subst c10; rw [if_pos rfl] at H; obtain ⟨t274, A11, H⟩ := qbi H; obtain rfl := qsi H; go_enter Tryz.func47, Tryz.ntmps47; go_wp2_with (first | ((with_reducible refine gcl (f := 96) rfl ?_); refine gL 11 Tryz.func96 #[.int .i64 a0, .slice A3 l3.length c3] ?_; (with_reducible refine (spec_l3WidthsOK.calls k a0 _ _ l3 true _ ?side1 ?side2 A5.out).mono ?_); (case side1 => repeat (first | exact HR3.out | (with_reducible refine Kd.Cal ?_ _) | (with_reducible refine Kd.CdN ?_ _) | (with_reducible refine Kd.Cdr ?_))); (case side2 => exact HC3.out); rintro e w' ⟨rfl, ⟨nd, rfl⟩⟩; refine ⟨_, rfl, ?_⟩) | (go_at_call 35; (with_reducible refine (spec_l1Between.calls a2 1 2147483648 true _ A7.out).mono ?_); rintro e w' ⟨rfl, ⟨nd, rfl⟩⟩) | (go_at_call 35; (with_reducible refine (spec_l1Between.calls a1 0 (wrap64 (a2 - 1)) true _ A9.out).mono ?_); rintro e w' ⟨rfl, ⟨nd, rfl⟩⟩) | (go_at_call 97; (with_reducible refine (spec_l3PathLen.calls k a1 a2 t274 _ A11.out).mono ?_); rintro e w' ⟨rfl, ⟨nd, rfl⟩⟩)); go_ret; exact ⟨by first | rfl | (simp; done) | (simp [*]; done), by repeat (first | exact Drawn0.refl _ | apply Drawn0.step)⟩
      · replace c10 := Bool.eq_false_iff.mpr c10; subst c10; rw [if_neg qff] at H; obtain rfl := qsi H; go_enter Tryz.func47, Tryz.ntmps47; go_wp2_with (first | ((with_reducible refine gcl (f := 96) rfl ?_); refine gL 11 Tryz.func96 #[.int .i64 a0, .slice A3 l3.length c3] ?_; (with_reducible refine (spec_l3WidthsOK.calls k a0 _ _ l3 true _ ?side1 ?side2 A5.out).mono ?_); (case side1 => repeat (first | exact HR3.out | (with_reducible refine Kd.Cal ?_ _) | (with_reducible refine Kd.CdN ?_ _) | (with_reducible refine Kd.Cdr ?_))); (case side2 => exact HC3.out); rintro e w' ⟨rfl, ⟨nd, rfl⟩⟩; refine ⟨_, rfl, ?_⟩) | (go_at_call 35; (with_reducible refine (spec_l1Between.calls a2 1 2147483648 true _ A7.out).mono ?_); rintro e w' ⟨rfl, ⟨nd, rfl⟩⟩) | (go_at_call 35; (with_reducible refine (spec_l1Between.calls a1 0 (wrap64 (a2 - 1)) false _ A9.out).mono ?_); rintro e w' ⟨rfl, ⟨nd, rfl⟩⟩)); go_ret; exact ⟨by first | rfl | (simp; done) | (simp [*]; done), by repeat (first | exact Drawn0.refl _ | apply Drawn0.step)⟩
    · replace c8 := Bool.eq_false_iff.mpr c8; subst c8; rw [if_neg qff] at H; obtain rfl := qsi H; go_enter Tryz.func47, Tryz.ntmps47; go_wp2_with (first | ((with_reducible refine gcl (f := 96) rfl ?_); refine gL 11 Tryz.func96 #[.int .i64 a0, .slice A3 l3.length c3] ?_; (with_reducible refine (spec_l3WidthsOK.calls k a0 _ _ l3 true _ ?side1 ?side2 A5.out).mono ?_); (case side1 => repeat (first | exact HR3.out | (with_reducible refine Kd.Cal ?_ _) | (with_reducible refine Kd.CdN ?_ _) | (with_reducible refine Kd.Cdr ?_))); (case side2 => exact HC3.out); rintro e w' ⟨rfl, ⟨nd, rfl⟩⟩; refine ⟨_, rfl, ?_⟩) | (go_at_call 35; (with_reducible refine (spec_l1Between.calls a2 1 2147483648 false _ A7.out).mono ?_); rintro e w' ⟨rfl, ⟨nd, rfl⟩⟩)); go_ret; exact ⟨by first | rfl | (simp; done) | (simp [*]; done), by repeat (first | exact Drawn0.refl _ | apply Drawn0.step)⟩
  · replace c6 := Bool.eq_false_iff.mpr c6; subst c6; rw [if_neg qff] at H; obtain rfl := qsi H; go_enter Tryz.func47, Tryz.ntmps47; go_wp2_with (first | ((with_reducible refine gcl (f := 96) rfl ?_); refine gL 11 Tryz.func96 #[.int .i64 a0, .slice A3 l3.length c3] ?_; (with_reducible refine (spec_l3WidthsOK.calls k a0 _ _ l3 false _ ?side1 ?side2 A5.out).mono ?_); (case side1 => repeat (first | exact HR3.out | (with_reducible refine Kd.Cal ?_ _) | (with_reducible refine Kd.CdN ?_ _) | (with_reducible refine Kd.Cdr ?_))); (case side2 => exact HC3.out); rintro e w' ⟨rfl, ⟨nd, rfl⟩⟩; refine ⟨_, rfl, ?_⟩)); go_ret; exact ⟨by first | rfl | (simp; done) | (simp [*]; done), by repeat (first | exact Drawn0.refl _ | apply Drawn0.step)⟩
def spec_l3Claim.f : Nat → Int → ByteArray → Int → Int → List ByteArray → Option (ByteArray)
  | 0, _, _, _, _, _ => none
  | k + 1, a0, a1, a2, a3, l4 => if a3 = 1 then ((spec_Leaf.f k a0 a1).bind fun t275 => (some t275)) else ((spec_l2Split.f k a3).bind fun t276 => (if 0 ≤ (wrap64 ((l4.length : Int) - 1)) then (if (wrap64 ((l4.length : Int) - 1)) < (l4.length : Int) then (if (wrap64 ((l4.length : Int) - 1)) ≤ (l4.length : Int) then (if a2 < t276 then ((spec_l3Claim.f k a0 a1 a2 t276 (l4.take ((wrap64 ((l4.length : Int) - 1)) : Int).toNat)).bind fun t279 => ((spec_Node.f k a0 t279 (rdOf ByteArray.empty l4 (wrap64 ((l4.length : Int) - 1)))).bind fun t280 => (some t280))) else ((spec_l3Claim.f k a0 a1 (wrap64 (a2 - t276)) (wrap64 (a3 - t276)) (l4.take ((wrap64 ((l4.length : Int) - 1)) : Int).toNat)).bind fun t281 => ((spec_Node.f k a0 (rdOf ByteArray.empty l4 (wrap64 ((l4.length : Int) - 1))) t281).bind fun t282 => (some t282)))) else (none)) else (none)) else (none)))
theorem spec_l3Claim.mono_l : ∀ k, (∀ y0 y1 y2 y3 y4, LeO (spec_l3Claim.f k y0 y1 y2 y3 y4) (spec_l3Claim.f (k + 1) y0 y1 y2 y3 y4))
  | 0 => fun _ _ _ _ _ r h => by simp [spec_l3Claim.f] at h
  | k + 1 => by
    have ih0 := spec_l3Claim.mono_l k
    · intro y0 y1 y2 y3 y4
      unfold spec_l3Claim.f
      repeat' first
        | (with_reducible first | exact ih0 .. | exact spec_Leaf.mono .. | exact spec_Node.mono .. | exact spec_l2Split.mono .. | exact LeO.refl _ | exact LeO.none _ | refine LeO.ite ?_ ?_ | refine LeO.bind ?_ (fun _ => ?_))
        | exact ih0 .. | exact spec_Leaf.mono .. | exact spec_Node.mono .. | exact spec_l2Split.mono .. | exact LeO.none _ | refine LeO.ite ?_ ?_ | refine LeO.bind ?_ (fun _ => ?_)
theorem spec_l3Claim.mono : ∀ a0 a1 a2 a3 a4 k, LeO (spec_l3Claim.f k a0 a1 a2 a3 a4) (spec_l3Claim.f (k + 1) a0 a1 a2 a3 a4) := by
  intro a0 a1 a2 a3 a4 k
  have ih0 := spec_l3Claim.mono_l k
  exact ih0 a0 a1 a2 a3 a4
set_option maxHeartbeats 8000000 in
set_option maxRecDepth 100000 in
theorem spec_l3Claim.calls (k : Nat) : ∀ (a0 : Int) (a1 : ByteArray) (a2 : Int) (a3 : Int) (A4 : Option Addr) (c4 : Nat) (l4 : List ByteArray) (r : ByteArray) (w : World) (hr4 : Kd.C Kd.string w A4 l4.length l4) (hc4 : l4.length ≤ c4) (h : spec_l3Claim.f k a0 a1 a2 a3 l4 = some r),
    Calls Tryz.prog 48 #[.int .i64 a0, .string a1, .int .i64 a2, .int .i64 a3, .slice A4 l4.length c4] w fun e w' => e = .returned (.string r) ∧ Below w.heap.size w w' := by
  induction k using Nat.strongRecOn with
  | _ k ih =>
  intro a0 a1 a2 a3 A4 c4 l4 r w hr4 hc4 h
  cases k with
  | zero => exact absurd h (by simp [spec_l3Claim.f])
  | succ k =>
  simp only [spec_l3Claim.f] at h; have HR4 := qK hr4; have HC4 := qK hc4; clear hr4 hc4; have HB := qK (Below.refl w.heap.size w); have H : (if a3 = 1 then ((spec_Leaf.f k a0 a1).bind fun t275 => (some t275)) else ((spec_l2Split.f k a3).bind fun t276 => (if 0 ≤ (wrap64 ((l4.length : Int) - 1)) then (if (wrap64 ((l4.length : Int) - 1)) < (l4.length : Int) then (if (wrap64 ((l4.length : Int) - 1)) ≤ (l4.length : Int) then (if a2 < t276 then ((spec_l3Claim.f k a0 a1 a2 t276 (l4.take ((wrap64 ((l4.length : Int) - 1)) : Int).toNat)).bind fun t279 => ((spec_Node.f k a0 t279 (rdOf ByteArray.empty l4 (wrap64 ((l4.length : Int) - 1)))).bind fun t280 => (some t280))) else ((spec_l3Claim.f k a0 a1 (wrap64 (a2 - t276)) (wrap64 (a3 - t276)) (l4.take ((wrap64 ((l4.length : Int) - 1)) : Int).toNat)).bind fun t281 => ((spec_Node.f k a0 (rdOf ByteArray.empty l4 (wrap64 ((l4.length : Int) - 1))) t281).bind fun t282 => (some t282)))) else (none)) else (none)) else (none)))) = some r := h; clear h; by_cases c6 : a3 = 1
  · rw [if_pos c6] at H; obtain ⟨c6b0, c6b1⟩ := qe c6; clear c6; obtain ⟨t275, A7, H⟩ := qbi H; obtain rfl := qsi H; go_enter Tryz.func48, Tryz.ntmps48; go_wp2_with (first | ((with_reducible refine gcl (f := 31) rfl ?_); refine gL 18 Tryz.func31 #[.int .i64 a0, .string a1] ?_; (with_reducible refine (spec_Leaf.calls k a0 a1 t275 _ A7.out).mono ?_); rintro e w8 ⟨rfl, hb⟩; refine ⟨_, rfl, ?_⟩; replace HB := qHB HB hb; (try clear hb))); go_ret; exact ⟨qR, qB⟩
  · rw [if_neg c6] at H; obtain ⟨c6b0, c6b1⟩ := qn c6; obtain ⟨t276, A9, H⟩ := qbi H; obtain ⟨ji10, hji10⟩ : ∃ j_ : Int, (wrap64 ((l4.length : Int) - 1)) = j_ := ⟨_, rfl⟩; (replace H : (if 0 ≤ (ji10) then (if (ji10) < (l4.length : Int) then (if (ji10) ≤ (l4.length : Int) then (if a2 < t276 then ((spec_l3Claim.f k a0 a1 a2 t276 (l4.take ((ji10) : Int).toNat)).bind fun t279 => ((spec_Node.f k a0 t279 (rdOf ByteArray.empty l4 (ji10))).bind fun t280 => (some t280))) else ((spec_l3Claim.f k a0 a1 (wrap64 (a2 - t276)) (wrap64 (a3 - t276)) (l4.take ((ji10) : Int).toNat)).bind fun t281 => ((spec_Node.f k a0 (rdOf ByteArray.empty l4 (ji10)) t281).bind fun t282 => (some t282)))) else (none)) else (none)) else (none)) = some r := by first | (rw [hji10] at H; exact H) | (simp only [hji10] at H ⊢; exact H)); (try rw [hji10] at A9); have hji10w : (IntKind.i64.wrap ((l4.length : Int) - 1)) = ji10 := (i64_w _).trans hji10; by_cases c11 : 0 ≤ (ji10)
    · rw [if_pos c11] at H; have c11b0 := decide_eq_true c11; clear c11; by_cases c12 : (ji10) < (l4.length : Int)
      · rw [if_pos c12] at H; have c12b0 := decide_eq_true c12; clear c12; have c13b0 := eq_true (of_decide_eq_true qa : 0 ≤ (ji10)); by_cases c14 : (ji10) ≤ (l4.length : Int)
        · rw [if_pos c14] at H; have c14b0 := eq_true c14; have c14b1 := decide_eq_true c14; clear c14; by_cases c15 : a2 < t276
          · rw [if_pos c15] at H; have c15b0 := decide_eq_true c15; clear c15; obtain ⟨t279, A16, H⟩ := qbi H; obtain ⟨t280, A17, H⟩ := qbi H; obtain rfl := qsi H; go_enter Tryz.func48, Tryz.ntmps48; go_wp2_with (first | ((with_reducible refine gcl (f := 32) rfl ?_); refine gL 20 Tryz.func32 #[.int .i64 a3] ?_; (with_reducible refine (spec_l2Split.calls k a3 t276 _ A9.out).mono ?_); rintro e w' ⟨rfl, ⟨nd, rfl⟩⟩; refine ⟨_, rfl, ?_⟩; have p277 : 0 ≤ ((ji10) : Int) := of_decide_eq_true qa; have q277 : (ji10) < (l4.length : Int) := of_decide_eq_true qa; obtain ⟨ad277, e277, hx277_0⟩ := Kd.at_string HR4.out (ji10) p277 q277; cases e277; replace p277 := eq_true p277; replace q277 := eq_true q277; obtain ⟨i018, hi018, _, hsz18, _⟩ := info_parts info9; obtain ⟨hcut18, hA18, hC18⟩ := print_take_of (P := Tryz.prog) Value.string (⟨#[]⟩ : ByteArray) 23 9 .i64 Tryz.underlying23 hi018 hsz18 (some ad277) c4 l4 (ji10) (of_decide_eq_true qa) (of_decide_eq_true qa) HC4.out; have HR278 := qK (Kd.C_of_reads (h1 := fun _ => rfl) (hA18 _ (Kd.reads_of_C HR4.out))); have HC278 := qK hC18; clear hA18 hC18 hi018 hsz18) | ((with_reducible refine gcl (f := 48) rfl ?_); refine goesL_ (some 41) rfl rfl Tryz.func48 (by kernel_rfl) rfl #[.int .i64 a0, .string a1, .int .i64 a2, .int .i64 t276, .slice (some ad277) (l4.take ((ji10) : Int).toNat).length c4] rfl (by (try simp only [List.map_toArray, List.map_cons, List.map_nil]); first | done | (rw [show (l4.take ((ji10) : Int).toNat).length = (ji10).toNat from (by rw [List.length_take]; have h_ : ((ji10) : Int) ≤ (l4.length : Int) := of_decide_eq_true qa; omega)] <;> rfl) | (simp only [hji10]; rfl) | rfl | (simp only [List.length_drop, List.length_take]; rfl)) ?_; (with_reducible refine (ih k (by omega) a0 a1 a2 t276 _ _ (l4.take ((ji10) : Int).toNat) t279 _ ?side1 ?side2 A16.out).mono ?_); (case side1 => repeat (first | exact HR278.out | (with_reducible refine Kd.Cal ?_ _) | (with_reducible refine Kd.CdN ?_ _) | (with_reducible refine Kd.Cdr ?_))); (case side2 => exact HC278.out); rintro e w19 ⟨rfl, hb⟩; refine ⟨_, rfl, ?_⟩; replace HB := qHB HB hb; (try clear hb)) | ((with_reducible refine gcl (f := 33) rfl ?_); refine goesL_ (some 43) rfl rfl Tryz.func33 (by kernel_rfl) rfl #[.int .i64 a0, .string t279, .string (rdOf ByteArray.empty l4 (ji10))] rfl (by (try simp only [List.map_toArray, List.map_cons, List.map_nil]); first | done | (simp only [hji10]; rfl) | rfl | (simp only [List.length_drop, List.length_take]; rfl)) ?_; (with_reducible refine (spec_Node.calls k a0 t279 (rdOf ByteArray.empty l4 (ji10)) t280 _ A17.out).mono ?_); rintro e w20 ⟨rfl, hb⟩; refine ⟨_, rfl, ?_⟩; replace HB := qHB HB hb; (try clear hb))); go_ret; exact ⟨by first | rfl | (simp [eWn, eWs] <;> rfl) | (simp only [← hji10]; first | rfl | (simp [eWn, eWs] <;> rfl)) | (simp [*, eWn, eWs] <;> rfl), qB⟩
          · rw [if_neg c15] at H; have c15b0 := decide_eq_false c15; clear c15; obtain ⟨t281, A21, H⟩ := qbi H; obtain ⟨t282, A22, H⟩ := qbi H; obtain rfl := qsi H; go_enter Tryz.func48, Tryz.ntmps48; go_wp2_with (first | ((with_reducible refine gcl (f := 32) rfl ?_); refine gL 20 Tryz.func32 #[.int .i64 a3] ?_; (with_reducible refine (spec_l2Split.calls k a3 t276 _ A9.out).mono ?_); rintro e w' ⟨rfl, ⟨nd, rfl⟩⟩; refine ⟨_, rfl, ?_⟩; have p277 : 0 ≤ ((ji10) : Int) := of_decide_eq_true qa; have q277 : (ji10) < (l4.length : Int) := of_decide_eq_true qa; obtain ⟨ad277, e277, hx277_0⟩ := Kd.at_string HR4.out (ji10) p277 q277; cases e277; replace p277 := eq_true p277; replace q277 := eq_true q277; obtain ⟨i023, hi023, _, hsz23, _⟩ := info_parts info9; obtain ⟨hcut23, hA23, hC23⟩ := print_take_of (P := Tryz.prog) Value.string (⟨#[]⟩ : ByteArray) 23 9 .i64 Tryz.underlying23 hi023 hsz23 (some ad277) c4 l4 (ji10) (of_decide_eq_true qa) (of_decide_eq_true qa) HC4.out; have HR278 := qK (Kd.C_of_reads (h1 := fun _ => rfl) (hA23 _ (Kd.reads_of_C HR4.out))); have HC278 := qK hC23; clear hA23 hC23 hi023 hsz23) | ((with_reducible refine gcl (f := 48) rfl ?_); refine goesL_ (some 55) rfl rfl Tryz.func48 (by kernel_rfl) rfl #[.int .i64 a0, .string a1, .int .i64 (wrap64 (a2 - t276)), .int .i64 (wrap64 (a3 - t276)), .slice (some ad277) (l4.take ((ji10) : Int).toNat).length c4] rfl (by (try simp only [List.map_toArray, List.map_cons, List.map_nil]); first | done | (rw [show (l4.take ((ji10) : Int).toNat).length = (ji10).toNat from (by rw [List.length_take]; have h_ : ((ji10) : Int) ≤ (l4.length : Int) := of_decide_eq_true qa; omega)] <;> rfl) | (simp only [hji10]; rfl) | rfl | (simp only [List.length_drop, List.length_take]; rfl)) ?_; (with_reducible refine (ih k (by omega) a0 a1 (wrap64 (a2 - t276)) (wrap64 (a3 - t276)) _ _ (l4.take ((ji10) : Int).toNat) t281 _ ?side1 ?side2 A21.out).mono ?_); (case side1 => repeat (first | exact HR278.out | (with_reducible refine Kd.Cal ?_ _) | (with_reducible refine Kd.CdN ?_ _) | (with_reducible refine Kd.Cdr ?_))); (case side2 => exact HC278.out); rintro e w24 ⟨rfl, hb⟩; refine ⟨_, rfl, ?_⟩; replace HB := qHB HB hb; (try clear hb)) | ((with_reducible refine gcl (f := 33) rfl ?_); refine goesL_ (some 56) rfl rfl Tryz.func33 (by kernel_rfl) rfl #[.int .i64 a0, .string (rdOf ByteArray.empty l4 (ji10)), .string t281] rfl (by (try simp only [List.map_toArray, List.map_cons, List.map_nil]); first | done | (simp only [hji10]; rfl) | rfl | (simp only [List.length_drop, List.length_take]; rfl)) ?_; (with_reducible refine (spec_Node.calls k a0 (rdOf ByteArray.empty l4 (ji10)) t281 t282 _ A22.out).mono ?_); rintro e w25 ⟨rfl, hb⟩; refine ⟨_, rfl, ?_⟩; replace HB := qHB HB hb; (try clear hb))); go_ret; exact ⟨by first | rfl | (simp [eWn, eWs] <;> rfl) | (simp only [← hji10]; first | rfl | (simp [eWn, eWs] <;> rfl)) | (simp [*, eWn, eWs] <;> rfl), qB⟩
        · rw [if_neg c14] at H; exact absurd H (by simp)
      · rw [if_neg c12] at H; exact absurd H (by simp)
    · rw [if_neg c11] at H; exact absurd H (by simp)
def spec_CheckPath.f (k : Nat) (a0 : Int) (a1 : ByteArray) (a2 : Int) (a3 : Int) (a4 : ByteArray) (l5 : List ByteArray) : Option (Bool) := (spec_l3PathFits.f k a0 a2 a3 l5).bind fun t283 => (if t283 = true then ((spec_l3Claim.f k a0 a1 a2 a3 l5).bind fun t284 => (some (t284.toList == a4.toList))) else (some false))
theorem spec_CheckPath.mono : ∀ a0 a1 a2 a3 a4 a5 k, LeO (spec_CheckPath.f k a0 a1 a2 a3 a4 a5) (spec_CheckPath.f (k + 1) a0 a1 a2 a3 a4 a5) := by
  intro a0 a1 a2 a3 a4 a5 k
  unfold spec_CheckPath.f
  repeat' first
    | (with_reducible first | exact spec_l3Claim.mono .. | exact spec_l3PathFits.mono .. | exact LeO.refl _ | exact LeO.none _ | refine LeO.ite ?_ ?_ | refine LeO.bind ?_ (fun _ => ?_))
    | exact spec_l3Claim.mono .. | exact spec_l3PathFits.mono .. | exact LeO.none _ | refine LeO.ite ?_ ?_ | refine LeO.bind ?_ (fun _ => ?_)
set_option maxHeartbeats 8000000 in
set_option maxRecDepth 100000 in
theorem spec_CheckPath.calls (k : Nat) (a0 : Int) (a1 : ByteArray) (a2 : Int) (a3 : Int) (a4 : ByteArray) (A5 : Option Addr) (c5 : Nat) (l5 : List ByteArray) (r : Bool) (w : World) (hr5 : Kd.C Kd.string w A5 l5.length l5) (hc5 : l5.length ≤ c5) (h : spec_CheckPath.f k a0 a1 a2 a3 a4 l5 = some r) :
    Calls Tryz.prog 14 #[.int .i64 a0, .string a1, .int .i64 a2, .int .i64 a3, .string a4, .slice A5 l5.length c5] w fun e w' => e = .returned (.bool r) ∧ Below w.heap.size w w' := by
  have HR5 := qK hr5; have HC5 := qK hc5; clear hr5 hc5; have HB := qK (Below.refl w.heap.size w); have H : ((spec_l3PathFits.f k a0 a2 a3 l5).bind fun t283 => (if t283 = true then ((spec_l3Claim.f k a0 a1 a2 a3 l5).bind fun t284 => (some (t284.toList == a4.toList))) else (some false))) = some r := h; clear h; obtain ⟨t283, A7, H⟩ := qbi H; by_cases c8 : t283 = true
  · subst c8; rw [if_pos rfl] at H; obtain ⟨t284, A9, H⟩ := qbi H; obtain rfl := qsi H; go_enter Tryz.func14, Tryz.ntmps14; go_wp2_with (first | ((with_reducible refine gcl (f := 47) rfl ?_); refine gL 17 Tryz.func47 #[.int .i64 a0, .int .i64 a2, .int .i64 a3, .slice A5 l5.length c5] ?_; (with_reducible refine (spec_l3PathFits.calls k a0 a2 a3 _ _ l5 true _ ?side1 ?side2 A7.out).mono ?_); (case side1 => repeat (first | exact HR5.out | (with_reducible refine Kd.Cal ?_ _) | (with_reducible refine Kd.CdN ?_ _) | (with_reducible refine Kd.Cdr ?_))); (case side2 => exact HC5.out); rintro e w' ⟨rfl, ⟨nd, rfl⟩⟩; refine ⟨_, rfl, ?_⟩) | (go_at_call 48; (with_reducible refine (spec_l3Claim.calls k a0 a1 a2 a3 _ _ l5 t284 _ ?side1 ?side2 A9.out).mono ?_); (case side1 => repeat (first | exact HR5.out | (with_reducible refine Kd.Cal ?_ _) | (with_reducible refine Kd.CdN ?_ _) | (with_reducible refine Kd.Cdr ?_))); (case side2 => exact HC5.out); rintro e w10 ⟨rfl, hb⟩; replace HB := qHB HB hb; (try clear hb))); go_ret; exact ⟨qR, qB⟩
  · replace c8 := Bool.eq_false_iff.mpr c8; subst c8; rw [if_neg qff] at H; obtain rfl := qsi H; go_enter Tryz.func14, Tryz.ntmps14; go_wp2_with (first | ((with_reducible refine gcl (f := 47) rfl ?_); refine gL 17 Tryz.func47 #[.int .i64 a0, .int .i64 a2, .int .i64 a3, .slice A5 l5.length c5] ?_; (with_reducible refine (spec_l3PathFits.calls k a0 a2 a3 _ _ l5 false _ ?side1 ?side2 A7.out).mono ?_); (case side1 => repeat (first | exact HR5.out | (with_reducible refine Kd.Cal ?_ _) | (with_reducible refine Kd.CdN ?_ _) | (with_reducible refine Kd.Cdr ?_))); (case side2 => exact HC5.out); rintro e w' ⟨rfl, ⟨nd, rfl⟩⟩; refine ⟨_, rfl, ?_⟩)); go_ret; exact ⟨qR, qB⟩
mutual
def spec_l3Forge.l0 : Nat → Int → ByteArray → Int → Int → ByteArray → List ByteArray → List Int → Int → Int → Option (List ByteArray × Int × Int)
  | 0, _, _, _, _, _, _, _, _, _ => none
  | k + 1, x1, x2, x3, x4, x5, x13, x1000, x1001, x1002 => (spec_l3PathLen.f k x3 x4).bind fun t288 => (if (x13.length : Int) < t288 then ((spec_l1Cur_pick.f x1000 x1001 x1002 256).bind fun bt289 => (if x13.length < 8796093022208 then (spec_l3Forge.l0 k x1 x2 x3 x4 x5 (x13 ++ [strOfNums (([(bt289.1) % 256] : List Int))]) x1000 bt289.2.1 bt289.2.2) else (none))) else (if (x13.length : Int) = 0 then (spec_l3Forge.j1 k x1 x2 x3 x4 x5 x13 true x1000 x1001 x1002) else (spec_l3Forge.j1 k x1 x2 x3 x4 x5 x13 (x1 != 1) x1000 x1001 x1002)))
def spec_l3Forge.j1 : Nat → Int → ByteArray → Int → Int → ByteArray → List ByteArray → Bool → List Int → Int → Int → Option (List ByteArray × Int × Int)
  | 0, _, _, _, _, _, _, _, _, _, _ => none
  | k + 1, x1, x2, x3, x4, x5, x13, x36, x1000, x1001, x1002 => if x36 = true then (some (x13, x1001, x1002)) else (spec_l3Forge.l1 k x1 x2 x3 x4 x5 x13 0 x1000 x1001 x1002)
def spec_l3Forge.l1 : Nat → Int → ByteArray → Int → Int → ByteArray → List ByteArray → Int → List Int → Int → Int → Option (List ByteArray × Int × Int)
  | 0, _, _, _, _, _, _, _, _, _, _ => none
  | k + 1, x1, x2, x3, x4, x5, x13, x14, x1000, x1001, x1002 => if x14 < 256 then (if 0 ≤ (wrap64 ((x13.length : Int) - 1)) then (if (wrap64 ((x13.length : Int) - 1)) < (x13.length : Int) then ((some (x13.set ((wrap64 ((x13.length : Int) - 1)) : Int).toNat (strOfNums (([(x14) % 256] : List Int))) : List ByteArray)).bind fun y301 => ((spec_CheckPath.f k x1 x2 x3 x4 x5 y301).bind fun t302 => (if t302 = true then (some (y301, x1001, x1002)) else (spec_l3Forge.l1 k x1 x2 x3 x4 x5 y301 (wrap64 (x14 + 1)) x1000 x1001 x1002)))) else (none)) else (none)) else (some (x13, x1001, x1002))
end
def spec_l3Forge.f (k : Nat) (s0_0 : List Int) (s0_1 : Int) (s0_2 : Int) (a1 : Int) (a2 : ByteArray) (a3 : Int) (a4 : Int) (a5 : ByteArray) : Option (List ByteArray × Int × Int) := spec_l3Forge.l0 k a1 a2 a3 a4 a5 (([] : List ByteArray)) s0_0 s0_1 s0_2
theorem spec_l3Forge.mono_l : ∀ k, (∀ y0 y1 y2 y3 y4 y5 y6 y7 y8, LeO (spec_l3Forge.l0 k y0 y1 y2 y3 y4 y5 y6 y7 y8) (spec_l3Forge.l0 (k + 1) y0 y1 y2 y3 y4 y5 y6 y7 y8)) ∧ (∀ y0 y1 y2 y3 y4 y5 y6 y7 y8 y9, LeO (spec_l3Forge.j1 k y0 y1 y2 y3 y4 y5 y6 y7 y8 y9) (spec_l3Forge.j1 (k + 1) y0 y1 y2 y3 y4 y5 y6 y7 y8 y9)) ∧ (∀ y0 y1 y2 y3 y4 y5 y6 y7 y8 y9, LeO (spec_l3Forge.l1 k y0 y1 y2 y3 y4 y5 y6 y7 y8 y9) (spec_l3Forge.l1 (k + 1) y0 y1 y2 y3 y4 y5 y6 y7 y8 y9))
  | 0 => by refine ⟨?_, ?_, ?_⟩ <;> intros <;> intro r h <;> simp [spec_l3Forge.l0, spec_l3Forge.j1, spec_l3Forge.l1] at h
  | k + 1 => by
    obtain ⟨ih0, ih1, ih2⟩ := spec_l3Forge.mono_l k
    refine ⟨?_, ?_, ?_⟩ <;> intros <;> first | unfold spec_l3Forge.l0 | unfold spec_l3Forge.j1 | unfold spec_l3Forge.l1
    repeat' first
      | (with_reducible first | exact ih0 .. | exact ih1 .. | exact ih2 .. | exact spec_CheckPath.mono .. | exact spec_l3PathLen.mono .. | exact LeO.refl _ | exact LeO.none _ | refine LeO.ite ?_ ?_ | refine LeO.bind ?_ (fun _ => ?_))
      | exact ih0 .. | exact ih1 .. | exact ih2 .. | exact spec_CheckPath.mono .. | exact spec_l3PathLen.mono .. | exact LeO.none _ | refine LeO.ite ?_ ?_ | refine LeO.bind ?_ (fun _ => ?_)
theorem spec_l3Forge.mono : ∀ a0 a1 a2 a3 a4 a5 a6 a7 k, LeO (spec_l3Forge.f k a0 a1 a2 a3 a4 a5 a6 a7) (spec_l3Forge.f (k + 1) a0 a1 a2 a3 a4 a5 a6 a7) := by
  intro a0 a1 a2 a3 a4 a5 a6 a7 k
  obtain ⟨ih0, ih1, ih2⟩ := spec_l3Forge.mono_l k
  unfold spec_l3Forge.f
  repeat' first
    | (with_reducible first | exact ih0 .. | exact ih1 .. | exact ih2 .. | exact spec_CheckPath.mono .. | exact spec_l3PathLen.mono .. | exact LeO.refl _ | exact LeO.none _ | refine LeO.ite ?_ ?_ | refine LeO.bind ?_ (fun _ => ?_))
    | exact ih0 .. | exact ih1 .. | exact ih2 .. | exact spec_CheckPath.mono .. | exact spec_l3PathLen.mono .. | exact LeO.none _ | refine LeO.ite ?_ ?_ | refine LeO.bind ?_ (fun _ => ?_)
set_option maxHeartbeats 8000000 in
set_option maxRecDepth 100000 in
theorem spec_l3Forge.calls (k : Nat) (g : Nat) (s0_0 : List Int) (s0_1 : Int) (s0_2 : Int) (a1 : Int) (a2 : ByteArray) (a3 : Int) (a4 : Int) (a5 : ByteArray) (r1 : List ByteArray) (r2 : Int) (r3 : Int) (w0 w : World) (hI : IsS48 w0 w g s0_0 s0_1 s0_2) (hB : Below w0.heap.size w0 w) (h : spec_l3Forge.f k s0_0 s0_1 s0_2 a1 a2 a3 a4 a5 = some (r1, r2, r3)) :
    Calls Tryz.prog 93 #[.pointer (some ⟨g, 0, none⟩), .int .i64 a1, .string a2, .int .i64 a3, .int .i64 a4, .string a5] w fun e w' => ∃ v0_ : Value, e = .returned (v0_) ∧ Kd.R Kd.string 9 w' w.heap.size (fun _ => True) v0_ r1 ∧ IsS48 w0 w' g s0_0 r2 r3 ∧ Below w0.heap.size w0 w' ∧ KeepBut w w' g none := by
  have HI0 := qK hI; have HK := qK (KeepBut.refl w g none); have HL := qK hB.size; clear hI; have HW0 := qK hB.size; have HB := qK hB; clear hB; have H : (spec_l3Forge.l0 k a1 a2 a3 a4 a5 (([] : List ByteArray)) s0_0 s0_1 s0_2) = some (r1, r2, r3) := h; clear h; obtain ⟨y285, hy_⟩ : ∃ y_ : List ByteArray, y_ = (([] : List ByteArray)) := ⟨_, rfl⟩; replace H : (spec_l3Forge.l0 k a1 a2 a3 a4 a5 y285 s0_0 s0_1 s0_2) = some (r1, r2, r3) := qh; have Ny285 := qK hy_; clear hy_; have H' := qK H; clear H; go_enter Tryz.func93, Tryz.ntmps93; go_wp2_with (first | ((with_reducible refine gds (N := 15) rfl ?_); refine Kd.R_lit Kd.string _ 9 ?hg (N := 15) ?hd (xs := ([] : List ByteArray)) (inner := []) (ok := fun _ => True) (okp := fun _ => True) ?hr ?hp (fun _ hk => hk) trivial (Below.refl _ _) (Nat.le_refl _) (by simp) ?_; (case hd => rfl); (case hg => rfl); (case hr => first | (go_simp; done) | (go_simp; rfl)); (case hp => exact (Reps.none _ _)); intro v286 w7 ho8 hb hg_ hnew_; clear hg_ hnew_; (first | rw [← Ny285.out] at ho8 | (simp only [Int.reduceToNat] at ho8; rw [← Ny285.out] at ho8)); have HO287 := qK (Kd.Rlo ho8 (keep_size (w := w) (g := g) (row := none) qHK)); replace HK := qK (KeepBut.trans qHK (KeepBut.of_below hb g none) (.inl rfl)); replace HB := qK (bst qBs48 hb); replace HI0 := qK (IsS48.below qI48 hb); clear hb ho8)); go_loopg [13] k (fun kq v13 w' => ∃ (x13_1 : List ByteArray) (x1001_1 : Int) (x1002_1 : Int), Aside0 (spec_l3Forge.l0 kq a1 a2 a3 a4 a5 x13_1 s0_0 x1001_1 x1002_1 = some (r1, r2, r3)) ∧ Aside0 (kq ≤ k) ∧ Aside0 (Kd.R Kd.string 9 w' w.heap.size (fun _ => True) v13 x13_1) ∧ Aside0 (IsS48 w0 w' g s0_0 x1001_1 x1002_1) ∧ Aside0 (KeepBut w w' g none) ∧ Aside0 (Below w0.heap.size w0 w'))
  case atStart => exact ⟨(y285), (s0_1), (s0_2), H', ⟨Nat.le_refl _⟩, ⟨by (with_reducible repeat (first | apply Kd.Ral | apply Kd.RdN | apply Kd.Rdr)); exact HO287.out⟩, ⟨qI48⟩, ⟨qHK⟩, ⟨qBs48⟩⟩
  case round =>
    clear H'; obtain ⟨x13_1, x1001_1, x1002_1, HA, HK1, HO_13, HI0, HK, HB⟩ := hrel
    cases gk with
    | zero => exact absurd HA.out (by simp [spec_l3Forge.l0])
    | succ k1 =>
      have H := HA.out; clear HA; simp only [spec_l3Forge.l0] at H; obtain ⟨t288, A9, H⟩ := qbi H; by_cases c10 : (x13_1.length : Int) < t288
      · rw [if_pos c10] at H; have c10b0 := decide_eq_true c10; clear c10; obtain ⟨⟨t289, t290, t291⟩, A11, H⟩ := qbi H; obtain ⟨y292, hy_⟩ : ∃ y_ : List Int, y_ = (([(t289) % 256] : List Int)) := ⟨_, rfl⟩; replace H : (if x13_1.length < 8796093022208 then (spec_l3Forge.l0 k1 a1 a2 a3 a4 a5 (x13_1 ++ [strOfNums y292]) s0_0 t290 t291) else (none)) = some (r1, r2, r3) := qh; have Ny292 := qK hy_; clear hy_; by_cases c12 : x13_1.length < 8796093022208
        · rw [if_pos c12] at H; have LMc12 := qK c12; clear c12; obtain ⟨y295, hy_⟩ : ∃ y_ : List ByteArray, y_ = (x13_1 ++ [strOfNums y292]) := ⟨_, rfl⟩; replace H : (spec_l3Forge.l0 k1 a1 a2 a3 a4 a5 y295 s0_0 t290 t291) = some (r1, r2, r3) := qh; have Ny295 := qK hy_; clear hy_; have H' := qK H; clear H; obtain ⟨Ao13, co13, eo13⟩ := Kd.R_slice HO_13.out; subst eo13; go_wp2_with (first | ((with_reducible refine gcl (f := 97) rfl ?_); refine gL 20 Tryz.func97 #[.int .i64 a3, .int .i64 a4] ?_; (with_reducible refine (spec_l3PathLen.calls k1 a3 a4 t288 _ A9.out).mono ?_); rintro e w' ⟨rfl, ⟨nd, rfl⟩⟩; refine ⟨_, rfl, ?_⟩) | ((with_reducible refine gcl (f := 59) rfl ?_); refine gL 24 Tryz.func59 #[.pointer (some ⟨g, 0, none⟩), .int .i64 256] ?_; (with_reducible refine (spec_l1Cur_pick.calls g s0_0 x1001_1 x1002_1 256 t289 t290 t291 w0 _ ?_ ?_ A11.out).mono ?_); exact qI48; exact qBj48; rintro e w14 ⟨rfl, hi, hb, hk⟩; refine ⟨_, rfl, ?_⟩; replace HO_13 := qK (Kd.Rmo (Kd.R_keep (IsS48.apart (show IsS48 w0 _ g s0_0 x1001_1 x1002_1 from qI48) (qRb HO_13) (by decide)) hk (fun _ h => h.2)) (fun _ h => h.1)); replace HK := qK (KeepBut.trans qHK hk (.inl rfl)); replace HB := qK (hb); replace HI0 := qK (hi); (try clear hb); (try clear hk); (try clear hi)) | ((with_reducible refine gds (N := 26) rfl ?_); refine Kd.R_lit (Kd.int .u8) _ 5 ?hg (N := 26) ?hd (xs := ([(t289) % 256] : List Int)) (inner := [.int .u8 ((t289) % 256)]) (ok := fun _ => True) (okp := fun _ => True) ?hr ?hp (fun _ hk => hk) trivial (Below.refl _ _) (Nat.le_refl _) (by simp) ?_; (case hd => rfl); (case hg => rfl); (case hr => first | (go_simp; done) | (go_simp; rfl)); (case hp => exact (Reps.one (show Kd.M (Kd.int .u8) _ _ _ ((t289) % 256) [.int .u8 ((t289) % 256)] from rfl) (Reps.none _ _))); intro v293 w15 ho16 hb hg_ hnew_; clear hg_ hnew_; (first | rw [← Ny292.out] at ho16 | (simp only [Int.reduceToNat] at ho16; rw [← Ny292.out] at ho16)); replace HO_13 := qK (Kd.Rbe (qRb HO_13) hb); have HO294 := qK (Kd.Rlo ho16 (keep_size (w := w) (g := g) (row := none) qHK)); replace HK := qK (KeepBut.trans qHK (KeepBut.of_below hb g none) (.inl rfl)); replace HB := qK (bst qBs48 hb); replace HI0 := qK (IsS48.below qI48 hb); clear hb ho16; have hcv17 := own_string (P := Tryz.prog) Tryz.underlying22 Tryz.underlying5 Tryz.underlying9 (Kd.own_of_R HO294.out)) | ((with_reducible refine gbu (b := .append) (xs := #[.tmp 22, .tmp 28]) rfl ?_); at_builtin; refine Kd.R_append Kd.string w.heap.size rfl (.tmp 22) (.tmp 28) 23 9 (.string ⟨#[]⟩) 16 rfl Tryz.underlying23 info9 rfl (by decide) (by omega) (.slice Ao13 x13_1.length co13) x13_1 (strOfNums y292) [.string (strOfNums y292)] (fun _ => True) (fun _ => False) rfl rfl ?aP (fun _ hk => hk.elim) ?aF ?aO (Below.refl _ _) ?aS ?aL ?_; (case aP => exact rfl); (case aF => exact (fun _ _ => trivial)); (case aO => exact (qRb HO_13)); (case aS => exact (keep_size (w := w) (g := g) (row := none) qHK)); (case aL => have := LMc12.out; omega); intro v296 w18 ho hb hg hat; rw [← Ny295.out] at ho; replace HO294 := qK (Kd.R_over' (qRb HO294) (Kd.R_typed (qRb HO_13)) (by decide) hg); replace HB := qK (below_weaken qBs48 HL.out hb); replace HI0 := qK (IsS48.grown qI48 hg (IsS48.own_ne HI0.out HO_13.out (by decide))); replace HK := qK (KeepBut.trans qHK (KeepBut.of_grown hg g) (Kd.R_base2 HO_13.out)); have HO297 := qK (ho); clear HO_13; clear ho hb hg hat)); go_roundg k1
          case measure => have := HK1.out; omega
          case rel => exact ⟨(y295), (t290), (t291), H', ⟨by have := HK1.out; omega⟩, ⟨by (with_reducible repeat (first | apply Kd.Ral | apply Kd.RdN | apply Kd.Rdr)); exact HO297.out⟩, ⟨qI48⟩, ⟨qHK⟩, ⟨qBs48⟩⟩
        · rw [if_neg c12] at H; exact absurd H (by simp)
      · rw [if_neg c10] at H; have c10b0 := decide_eq_false c10; clear c10; have HC19 := qK H; clear H; obtain ⟨Ao20, co20, eo20⟩ := Kd.R_slice HO_13.out; subst eo20; go_upto_region 4 with (first | ((with_reducible refine gcl (f := 97) rfl ?_); refine gL 20 Tryz.func97 #[.int .i64 a3, .int .i64 a4] ?_; (with_reducible refine (spec_l3PathLen.calls k1 a3 a4 t288 _ A9.out).mono ?_); rintro e w' ⟨rfl, ⟨nd, rfl⟩⟩; refine ⟨_, rfl, ?_⟩)); (try simp only [Act.put, List.setIfInBounds_toArray, List.set_cons_zero, List.set_cons_succ]); go_cut [36] (fun v36 wc => ∃ (kq : Nat) (x36_18 : Bool), v36 = .bool x36_18 ∧ Aside0 (spec_l3Forge.j1 kq a1 a2 a3 a4 a5 x13_1 x36_18 s0_0 x1001_1 x1002_1 = some (r1, r2, r3)) ∧ Aside0 (kq ≤ k1) ∧ Aside0 (Kd.R Kd.string 9 wc w.heap.size (fun _ => True) (.slice Ao20 x13_1.length co20) x13_1) ∧ Aside0 (IsS48 w0 wc g s0_0 x1001_1 x1002_1) ∧ Aside0 (KeepBut w wc g none) ∧ Aside0 (Below w0.heap.size w0 wc))
        case first =>
          have H := HC19.out; clear HC19; by_cases c21 : (x13_1.length : Int) = 0
          · rw [if_pos c21] at H; obtain ⟨c21b0, c21b1⟩ := qe c21; clear c21; (first | rw [c21b0] | (simp only [i64_w, i32_w]; rw [c21b0]) | skip); have H' := qK H; clear H; go_wp2; go_meet
            case rel => exact ⟨_, (true), qS, H', ⟨by have := HK1.out; first | omega | exact Nat.le_refl _⟩, ⟨by (with_reducible repeat (first | apply Kd.Ral | apply Kd.RdN | apply Kd.Rdr)); exact HO_13.out⟩, ⟨qI48⟩, ⟨qHK⟩, ⟨qBs48⟩⟩
          · rw [if_neg c21] at H; obtain ⟨c21b0, c21b1⟩ := qn c21; have c21b2 : ¬ (x13_1 = []) := fun h_ => c21 (by rw [h_]; rfl); (first | rw [c21b0] | (simp only [i64_w, i32_w]; rw [c21b0]) | skip); have H' := qK H; clear H; go_wp2; go_meet
            case rel => exact ⟨_, ((a1 != 1)), qS, H', ⟨by have := HK1.out; first | omega | exact Nat.le_refl _⟩, ⟨by (with_reducible repeat (first | apply Kd.Ral | apply Kd.RdN | apply Kd.Rdr)); exact HO_13.out⟩, ⟨qI48⟩, ⟨qHK⟩, ⟨qBs48⟩⟩
        case rest =>
          clear HC19; (try clear c10); (try clear c10b0); obtain ⟨kq, x36_18, rfl, HA, HJ18, HO_13, HI0, HK, HB⟩ := hcut
          cases kq with
          | zero => exact absurd HA.out (by simp [spec_l3Forge.j1])
          | succ kj18 =>
            have H := HA.out; clear HA; simp only [spec_l3Forge.j1] at H; by_cases c22 : x36_18 = true
            · subst c22; rw [if_pos rfl] at H; simp only [Option.some.injEq, Prod.mk.injEq] at H; obtain ⟨rfl, rfl, rfl⟩ := H; go_wp2; go_ret; exact ⟨_, qR, by (with_reducible repeat (first | apply Kd.Ral | apply Kd.RdN | apply Kd.Rdr)); exact HO_13.out, qI48, qBs48, qHK⟩
            · replace c22 := Bool.eq_false_iff.mpr c22; subst c22; rw [if_neg qff] at H; have H' := qK H; clear H; go_wp2; go_loopg [14] kj18 (fun kq v14 w' => ∃ (x13_3 : List ByteArray) (x14_3 : Int), v14 = .int .i64 x14_3 ∧ Aside0 (spec_l3Forge.l1 kq a1 a2 a3 a4 a5 x13_3 x14_3 s0_0 x1001_1 x1002_1 = some (r1, r2, r3)) ∧ Aside0 (kq ≤ kj18) ∧ Aside0 (Kd.R Kd.string 9 w' w.heap.size (fun _ => True) (.slice Ao20 x13_1.length co20) x13_3) ∧ Aside0 (IsS48 w0 w' g s0_0 x1001_1 x1002_1) ∧ Aside0 (KeepBut w w' g none) ∧ Aside0 (Below w0.heap.size w0 w'))
              case atStart => exact ⟨(x13_1), (0), qS, H', ⟨Nat.le_refl _⟩, ⟨by (with_reducible repeat (first | apply Kd.Ral | apply Kd.RdN | apply Kd.Rdr)); exact HO_13.out⟩, ⟨qI48⟩, ⟨qHK⟩, ⟨qBs48⟩⟩
              case round =>
                clear H'; (try clear c10); (try clear c10b0); (try clear c22); obtain ⟨x13_3, x14_3, rfl, HA, HK3, HO_13, HI0, HK, HB⟩ := hrel; have hl13_3 := (Kd.R_reads' HO_13.out).1; rw [hl13_3] at HO_13; (try simp only [hl13_3])
                cases gk with
                | zero => exact absurd HA.out (by simp [spec_l3Forge.l1])
                | succ k3 =>
                  have H := HA.out; clear HA; simp only [spec_l3Forge.l1] at H; by_cases c23 : x14_3 < 256
                  · rw [if_pos c23] at H; have c23b0 := decide_eq_true c23; clear c23; obtain ⟨y298, hy_⟩ : ∃ y_ : List Int, y_ = (([(x14_3) % 256] : List Int)) := ⟨_, rfl⟩; replace H : (if 0 ≤ (wrap64 ((x13_3.length : Int) - 1)) then (if (wrap64 ((x13_3.length : Int) - 1)) < (x13_3.length : Int) then ((some (x13_3.set ((wrap64 ((x13_3.length : Int) - 1)) : Int).toNat (strOfNums y298) : List ByteArray)).bind fun y301 => ((spec_CheckPath.f k3 a1 a2 a3 a4 a5 y301).bind fun t302 => (if t302 = true then (some (y301, x1001_1, x1002_1)) else (spec_l3Forge.l1 k3 a1 a2 a3 a4 a5 y301 (wrap64 (x14_3 + 1)) s0_0 x1001_1 x1002_1)))) else (none)) else (none)) = some (r1, r2, r3) := qh; have Ny298 := qK hy_; clear hy_; obtain ⟨ji24, hji24⟩ : ∃ j_ : Int, (wrap64 ((x13_3.length : Int) - 1)) = j_ := ⟨_, rfl⟩; (replace H : (if 0 ≤ (ji24) then (if (ji24) < (x13_3.length : Int) then ((some (x13_3.set ((ji24) : Int).toNat (strOfNums y298) : List ByteArray)).bind fun y301 => ((spec_CheckPath.f k3 a1 a2 a3 a4 a5 y301).bind fun t302 => (if t302 = true then (some (y301, x1001_1, x1002_1)) else (spec_l3Forge.l1 k3 a1 a2 a3 a4 a5 y301 (wrap64 (x14_3 + 1)) s0_0 x1001_1 x1002_1)))) else (none)) else (none)) = some (r1, r2, r3) := by first | (rw [hji24] at H; exact H) | (simp only [hji24] at H ⊢; exact H)); have hji24w : (IntKind.i64.wrap ((x13_3.length : Int) - 1)) = ji24 := (i64_w _).trans hji24; by_cases c25 : 0 ≤ (ji24)
                    · rw [if_pos c25] at H; have c25b0 := decide_eq_true c25; clear c25; by_cases c26 : (ji24) < (x13_3.length : Int)
                      · rw [if_pos c26] at H; have c26b0 := decide_eq_true c26; clear c26; obtain ⟨y301, hy_⟩ : ∃ y_ : List ByteArray, y_ = (x13_3.set ((ji24) : Int).toNat (strOfNums y298)) := ⟨_, rfl⟩; replace H : ((spec_CheckPath.f k3 a1 a2 a3 a4 a5 y301).bind fun t302 => (if t302 = true then (some (y301, x1001_1, x1002_1)) else (spec_l3Forge.l1 k3 a1 a2 a3 a4 a5 y301 (wrap64 (x14_3 + 1)) s0_0 x1001_1 x1002_1))) = some (r1, r2, r3) := qh; have Ny301 := qK hy_; clear hy_; obtain ⟨t302, A28, H⟩ := qbi H; by_cases c29 : t302 = true
                        · subst c29; rw [if_pos rfl] at H; simp only [Option.some.injEq, Prod.mk.injEq] at H; obtain ⟨rfl, rfl, rfl⟩ := H; go_wp2_with (first | ((with_reducible refine gds (N := 48) rfl ?_); refine Kd.R_lit (Kd.int .u8) _ 5 ?hg (N := 48) ?hd (xs := ([(x14_3) % 256] : List Int)) (inner := [.int .u8 ((x14_3) % 256)]) (ok := fun _ => True) (okp := fun _ => True) ?hr ?hp (fun _ hk => hk) trivial (Below.refl _ _) (Nat.le_refl _) (by simp) ?_; (case hd => rfl); (case hg => rfl); (case hr => first | (go_simp; done) | (go_simp; rfl)); (case hp => exact (Reps.one (show Kd.M (Kd.int .u8) _ _ _ ((x14_3) % 256) [.int .u8 ((x14_3) % 256)] from rfl) (Reps.none _ _))); intro v299 w30 ho31 hb hg_ hnew_; clear hg_ hnew_; (first | rw [← Ny298.out] at ho31 | (simp only [Int.reduceToNat] at ho31; rw [← Ny298.out] at ho31)); replace HO_13 := qK (Kd.Rbe (qRb HO_13) hb); have HO300 := qK (Kd.Rlo ho31 (keep_size (w := w) (g := g) (row := none) qHK)); replace HK := qK (KeepBut.trans qHK (KeepBut.of_below hb g none) (.inl rfl)); replace HB := qK (bst qBs48 hb); replace HI0 := qK (IsS48.below qI48 hb); clear hb ho31; have hcv32 := own_string (P := Tryz.prog) Tryz.underlying22 Tryz.underlying5 Tryz.underlying9 (Kd.own_of_R HO300.out); have p27 : 0 ≤ ((ji24) : Int) := of_decide_eq_true qa; have q27 : ((ji24) : Int) < ((x13_3.length : Int) : Int) := of_decide_eq_true qa; obtain ⟨go27, co27, eo27, gb27, gl27, cl27, HG27⟩ := Kd.R_form HO_13.out (by omega); (first | cases eo27 | (injection eo27 with ea_ en_ ec_; (first | subst ea_ | (injection ea_ with ea_; subst ea_)); subst ec_; clear en_)); have GB27 := qK gb27; have GG27 := qK HG27; clear gb27 gl27 HG27; obtain ⟨hx27_0, hf27_0⟩ := Kd.R_celln (⟨#[]⟩ : ByteArray) HO_13.out ((ji24) : Int) p27 q27; replace p27 := eq_true p27; replace q27 := eq_true q27; obtain ⟨hy33_, hz33_⟩ := Kd.R_celln (⟨#[]⟩ : ByteArray) HO_13.out ((ji24) : Int) (of_decide_eq_true qa) (of_decide_eq_true qa); have HP33 := Kd.R_putg HO_13.out ((ji24) : Int) (strOfNums y298)) | ((with_reducible refine gst (t := 9) (p := 50) rfl ?_); refine ste (t := 9) (p := 50) (v := ?vo_w34) (w1 := (w30.setCell ⟨go27, ((ji24) : Int).toNat, none⟩ (.string (strOfNums y298)))) ?hg ?ho ?hn ?hr ?_; (case ho => rfl); (case hg => rfl); (case hn => rfl); (case hr => first | (go_simp; done) | (go_simp; rfl)); intro w34 hw; have hg : w30.grownBy w34 (some go27) := (by rw [hw]; exact HP33.2); have hp_ : Kd.R Kd.string 9 w34 w.heap.size (fun _ => True) (.slice (some ⟨go27, 0, none⟩) x13_3.length co20) y301 := (by rw [hw, Ny301.out]; exact HP33.1); clear HP33; replace HI0 := qK (IsS48.grown qI48 hg (IsS48.own_ne HI0.out HO_13.out (by decide))); replace HO300 := qK (Kd.R_over' (v := (.slice (some ⟨go27, 0, none⟩) x13_3.length co20)) (qRb HO300) (Kd.R_typed HO_13.out) (by decide) hg); replace HB := qK ((by rw [hw]; exact bse (HB.out) (Nat.le_trans HL.out GB27.out) : Below w0.heap.size w0 w34)); replace HK := qK (KeepBut.trans qHK (KeepBut.of_grown hg g) (Kd.R_base2 HO_13.out)); replace HO_13 := qK (hp_); clear hg hw hp_) | ((with_reducible refine gcl (f := 14) rfl ?_); refine goesL_ (some 57) rfl rfl Tryz.func14 (by kernel_rfl) rfl #[.int .i64 a1, .string a2, .int .i64 a3, .int .i64 a4, .string a5, .slice (some ⟨go27, 0, none⟩) y301.length co20] rfl (by (try simp only [List.map_toArray, List.map_cons, List.map_nil]); first | done | (rw [show y301.length = x13_3.length from (Kd.R_reads' HO_13.out).1.symm] <;> rfl) | rfl | (simp only [List.length_drop, List.length_take]; rfl)) ?_; (with_reducible refine (spec_CheckPath.calls k3 a1 a2 a3 a4 a5 _ _ y301 true _ ?side1 ?side2 A28.out).mono ?_); (case side1 => repeat (first | exact (Kd.R_reads' HO_13.out).2.2 | (with_reducible refine Kd.Cal ?_ _) | (with_reducible refine Kd.CdN ?_ _) | (with_reducible refine Kd.Cdr ?_))); (case side2 => rw [show y301.length = x13_3.length from (Kd.R_reads' HO_13.out).1.symm]; exact (Kd.R_reads' HO_13.out).2.1); rintro e w35 ⟨rfl, hb⟩; refine ⟨_, rfl, ?_⟩; replace HO_13 := qK (Kd.Rbe (qRb HO_13) hb); replace HO300 := qK (Kd.Rbe (qRb HO300) hb); replace HK := qK (KeepBut.trans qHK (KeepBut.of_below hb g none) (.inl rfl)); replace HB := qK (bst qBs48 hb); replace HI0 := qK (IsS48.below qI48 hb); (try clear hb); (try clear hk))); go_ret; exact ⟨_, by first | rfl | (simp [eWn, eWs] <;> rfl) | (simp only [← hji24]; first | rfl | (simp [eWn, eWs] <;> rfl)) | (simp [*, eWn, eWs] <;> rfl), by (with_reducible repeat (first | apply Kd.Ral | apply Kd.RdN | apply Kd.Rdr)); exact HO_13.out, qI48, qBs48, qHK⟩
                        · replace c29 := Bool.eq_false_iff.mpr c29; subst c29; rw [if_neg qff] at H; have H' := qK H; clear H; go_wp2_with (first | ((with_reducible refine gds (N := 48) rfl ?_); refine Kd.R_lit (Kd.int .u8) _ 5 ?hg (N := 48) ?hd (xs := ([(x14_3) % 256] : List Int)) (inner := [.int .u8 ((x14_3) % 256)]) (ok := fun _ => True) (okp := fun _ => True) ?hr ?hp (fun _ hk => hk) trivial (Below.refl _ _) (Nat.le_refl _) (by simp) ?_; (case hd => rfl); (case hg => rfl); (case hr => first | (go_simp; done) | (go_simp; rfl)); (case hp => exact (Reps.one (show Kd.M (Kd.int .u8) _ _ _ ((x14_3) % 256) [.int .u8 ((x14_3) % 256)] from rfl) (Reps.none _ _))); intro v299 w36 ho37 hb hg_ hnew_; clear hg_ hnew_; (first | rw [← Ny298.out] at ho37 | (simp only [Int.reduceToNat] at ho37; rw [← Ny298.out] at ho37)); replace HO_13 := qK (Kd.Rbe (qRb HO_13) hb); have HO300 := qK (Kd.Rlo ho37 (keep_size (w := w) (g := g) (row := none) qHK)); replace HK := qK (KeepBut.trans qHK (KeepBut.of_below hb g none) (.inl rfl)); replace HB := qK (bst qBs48 hb); replace HI0 := qK (IsS48.below qI48 hb); clear hb ho37; have hcv38 := own_string (P := Tryz.prog) Tryz.underlying22 Tryz.underlying5 Tryz.underlying9 (Kd.own_of_R HO300.out); have p27 : 0 ≤ ((ji24) : Int) := of_decide_eq_true qa; have q27 : ((ji24) : Int) < ((x13_3.length : Int) : Int) := of_decide_eq_true qa; obtain ⟨go27, co27, eo27, gb27, gl27, cl27, HG27⟩ := Kd.R_form HO_13.out (by omega); (first | cases eo27 | (injection eo27 with ea_ en_ ec_; (first | subst ea_ | (injection ea_ with ea_; subst ea_)); subst ec_; clear en_)); have GB27 := qK gb27; have GG27 := qK HG27; clear gb27 gl27 HG27; obtain ⟨hx27_0, hf27_0⟩ := Kd.R_celln (⟨#[]⟩ : ByteArray) HO_13.out ((ji24) : Int) p27 q27; replace p27 := eq_true p27; replace q27 := eq_true q27; obtain ⟨hy39_, hz39_⟩ := Kd.R_celln (⟨#[]⟩ : ByteArray) HO_13.out ((ji24) : Int) (of_decide_eq_true qa) (of_decide_eq_true qa); have HP39 := Kd.R_putg HO_13.out ((ji24) : Int) (strOfNums y298)) | ((with_reducible refine gst (t := 9) (p := 50) rfl ?_); refine ste (t := 9) (p := 50) (v := ?vo_w40) (w1 := (w36.setCell ⟨go27, ((ji24) : Int).toNat, none⟩ (.string (strOfNums y298)))) ?hg ?ho ?hn ?hr ?_; (case ho => rfl); (case hg => rfl); (case hn => rfl); (case hr => first | (go_simp; done) | (go_simp; rfl)); intro w40 hw; have hg : w36.grownBy w40 (some go27) := (by rw [hw]; exact HP39.2); have hp_ : Kd.R Kd.string 9 w40 w.heap.size (fun _ => True) (.slice (some ⟨go27, 0, none⟩) x13_3.length co20) y301 := (by rw [hw, Ny301.out]; exact HP39.1); clear HP39; replace HI0 := qK (IsS48.grown qI48 hg (IsS48.own_ne HI0.out HO_13.out (by decide))); replace HO300 := qK (Kd.R_over' (v := (.slice (some ⟨go27, 0, none⟩) x13_3.length co20)) (qRb HO300) (Kd.R_typed HO_13.out) (by decide) hg); replace HB := qK ((by rw [hw]; exact bse (HB.out) (Nat.le_trans HL.out GB27.out) : Below w0.heap.size w0 w40)); replace HK := qK (KeepBut.trans qHK (KeepBut.of_grown hg g) (Kd.R_base2 HO_13.out)); replace HO_13 := qK (hp_); clear hg hw hp_) | ((with_reducible refine gcl (f := 14) rfl ?_); refine goesL_ (some 57) rfl rfl Tryz.func14 (by kernel_rfl) rfl #[.int .i64 a1, .string a2, .int .i64 a3, .int .i64 a4, .string a5, .slice (some ⟨go27, 0, none⟩) y301.length co20] rfl (by (try simp only [List.map_toArray, List.map_cons, List.map_nil]); first | done | (rw [show y301.length = x13_3.length from (Kd.R_reads' HO_13.out).1.symm] <;> rfl) | rfl | (simp only [List.length_drop, List.length_take]; rfl)) ?_; (with_reducible refine (spec_CheckPath.calls k3 a1 a2 a3 a4 a5 _ _ y301 false _ ?side1 ?side2 A28.out).mono ?_); (case side1 => repeat (first | exact (Kd.R_reads' HO_13.out).2.2 | (with_reducible refine Kd.Cal ?_ _) | (with_reducible refine Kd.CdN ?_ _) | (with_reducible refine Kd.Cdr ?_))); (case side2 => rw [show y301.length = x13_3.length from (Kd.R_reads' HO_13.out).1.symm]; exact (Kd.R_reads' HO_13.out).2.1); rintro e w41 ⟨rfl, hb⟩; refine ⟨_, rfl, ?_⟩; replace HO_13 := qK (Kd.Rbe (qRb HO_13) hb); replace HO300 := qK (Kd.Rbe (qRb HO300) hb); replace HK := qK (KeepBut.trans qHK (KeepBut.of_below hb g none) (.inl rfl)); replace HB := qK (bst qBs48 hb); replace HI0 := qK (IsS48.below qI48 hb); (try clear hb); (try clear hk))); (try simp only [← hl13_3]); go_roundg k3
                          case measure => have := HK1.out; have := HJ18.out; have := HK3.out; omega
                          case rel => exact ⟨(y301), (wrap64 (x14_3 + 1)), qS, H', ⟨by have := HK1.out; have := HJ18.out; have := HK3.out; omega⟩, ⟨by (try simp only [hl13_3]); (with_reducible repeat (first | apply Kd.Ral | apply Kd.RdN | apply Kd.Rdr)); exact HO_13.out⟩, ⟨qI48⟩, ⟨qHK⟩, ⟨qBs48⟩⟩
                      · rw [if_neg c26] at H; exact absurd H (by simp)
                    · rw [if_neg c25] at H; exact absurd H (by simp)
                  · rw [if_neg c23] at H; have c23b0 := decide_eq_false c23; clear c23; simp only [Option.some.injEq, Prod.mk.injEq] at H; obtain ⟨rfl, rfl, rfl⟩ := H; go_wp2; go_ret; exact ⟨_, qR, by (with_reducible repeat (first | apply Kd.Ral | apply Kd.RdN | apply Kd.Rdr)); exact HO_13.out, qI48, qBs48, qHK⟩
def spec_l1Times.l0 : Nat → ByteArray → Int → List Int → Int → Option (ByteArray)
  | 0, _, _, _, _ => none
  | k + 1, x0, x1, x5, x6 => if x6 < x1 then (if x5.length + x0.size < 140737488355328 then (spec_l1Times.l0 k x0 x1 (x5 ++ bytesOf x0) (wrap64 (x6 + 1))) else (none)) else (some (strOfNums x5))
def spec_l1Times.f (k : Nat) (a0 : ByteArray) (a1 : Int) : Option (ByteArray) := spec_l1Times.l0 k a0 a1 (([] : List Int)) 0
theorem spec_l1Times.mono_l : ∀ k, (∀ y0 y1 y2 y3, LeO (spec_l1Times.l0 k y0 y1 y2 y3) (spec_l1Times.l0 (k + 1) y0 y1 y2 y3))
  | 0 => fun _ _ _ _ r h => by simp [spec_l1Times.l0] at h
  | k + 1 => by
    have ih0 := spec_l1Times.mono_l k
    · intro y0 y1 y2 y3
      unfold spec_l1Times.l0
      repeat' first
        | (with_reducible first | exact ih0 .. | exact LeO.refl _ | exact LeO.none _ | refine LeO.ite ?_ ?_ | refine LeO.bind ?_ (fun _ => ?_))
        | exact ih0 .. | exact LeO.none _ | refine LeO.ite ?_ ?_ | refine LeO.bind ?_ (fun _ => ?_)
theorem spec_l1Times.mono : ∀ a0 a1 k, LeO (spec_l1Times.f k a0 a1) (spec_l1Times.f (k + 1) a0 a1) := by
  intro a0 a1 k
  have ih0 := spec_l1Times.mono_l k
  unfold spec_l1Times.f
  repeat' first
    | (with_reducible first | exact ih0 .. | exact LeO.refl _ | exact LeO.none _ | refine LeO.ite ?_ ?_ | refine LeO.bind ?_ (fun _ => ?_))
    | exact ih0 .. | exact LeO.none _ | refine LeO.ite ?_ ?_ | refine LeO.bind ?_ (fun _ => ?_)
set_option maxHeartbeats 8000000 in
set_option maxRecDepth 100000 in
theorem spec_l1Times.calls (k : Nat) (a0 : ByteArray) (a1 : Int) (r : ByteArray) (w : World) (h : spec_l1Times.f k a0 a1 = some r) :
    Calls Tryz.prog 94 #[.string a0, .int .i64 a1] w fun e w' => e = .returned (.string r) ∧ Below w.heap.size w w' := by
  have HB := qK (Below.refl w.heap.size w); have H : (spec_l1Times.l0 k a0 a1 (([] : List Int)) 0) = some r := h; clear h; obtain ⟨y303, hy_⟩ : ∃ y_ : List Int, y_ = (([] : List Int)) := ⟨_, rfl⟩; replace H : (spec_l1Times.l0 k a0 a1 y303 0) = some r := qh; have Ny303 := qK hy_; clear hy_; have H' := qK H; clear H; go_enter Tryz.func94, Tryz.ntmps94; go_wp2_with (first | ((with_reducible refine gds (N := 7) rfl ?_); refine Kd.R_lit (Kd.int .u8) _ 5 ?hg (N := 7) ?hd (xs := ([] : List Int)) (inner := []) (ok := fun _ => True) (okp := fun _ => True) ?hr ?hp (fun _ hk => hk) trivial (Below.refl _ _) (Nat.le_refl _) (by simp) ?_; (case hd => rfl); (case hg => rfl); (case hr => first | (go_simp; done) | (go_simp; rfl)); (case hp => exact (Reps.none _ _)); intro v304 w3 ho4 hb hg_ hnew_; clear hg_ hnew_; (first | rw [← Ny303.out] at ho4 | (simp only [Int.reduceToNat] at ho4; rw [← Ny303.out] at ho4)); have HO305 := qK (Kd.Rlo ho4 (bsz qB)); replace HB := qHB HB hb; clear hb ho4)); go_loopg [5, 6] k (fun kq v5 v6 w' => ∃ (x5_1 : List Int) (x6_1 : Int), v6 = .int .i64 x6_1 ∧ Aside0 (spec_l1Times.l0 kq a0 a1 x5_1 x6_1 = some r) ∧ Aside0 (kq ≤ k) ∧ Aside0 (Kd.R (Kd.int .u8) 5 w' w.heap.size (fun _ => True) v5 x5_1) ∧ Aside0 (Below w.heap.size w w'))
  case atStart => exact ⟨(y303), (0), qS, H', ⟨Nat.le_refl _⟩, ⟨by (with_reducible repeat (first | apply Kd.Ral | apply Kd.RdN | apply Kd.Rdr)); exact HO305.out⟩, ⟨qB⟩⟩
  case round =>
    clear H'; obtain ⟨x5_1, x6_1, rfl, HA, HK1, HO_5, HB⟩ := hrel
    cases gk with
    | zero => exact absurd HA.out (by simp [spec_l1Times.l0])
    | succ k1 =>
      have H := HA.out; clear HA; simp only [spec_l1Times.l0] at H; by_cases c5 : x6_1 < a1
      · rw [if_pos c5] at H; have c5b0 := decide_eq_true c5; clear c5; by_cases c6 : x5_1.length + a0.size < 140737488355328
        · rw [if_pos c6] at H; have LMc6 := qK c6; clear c6; obtain ⟨y306, hy_⟩ : ∃ y_ : List Int, y_ = (x5_1 ++ bytesOf a0) := ⟨_, rfl⟩; replace H : (spec_l1Times.l0 k1 a0 a1 y306 (wrap64 (x6_1 + 1))) = some r := qh; have Ny306 := qK hy_; clear hy_; have H' := qK H; clear H; go_wp2_with (first | (at_builtin; refine print_append_str (w0 := w) w.heap.size rfl (.tmp 13) _ 22 9 5 rfl Tryz.underlying22 Tryz.underlying9 info5 u5 x5_1 a0 rfl rfl ?aO ?aB ?aS ?aL ?_; (case aB => exact qB); (case aO => exact (Kd.own_of_R (qRb HO_5))); (case aS => exact (bsz qB)); (case aL => have := LMc6.out; omega); intro v307 w7 ho0 hb hg; have ho := Kd.R_of_own (h1 := fun _ => rfl) (ok := fun _ => True) ho0 (fun _ _ => trivial); clear ho0; have hat := True.intro; rw [← Ny306.out] at ho; change Kd.R (Kd.int .u8) 5 w7 w.heap.size (fun _ => True) v307 y306 at ho; replace HB := qK (hb); have HO308 := qK (ho); clear HO_5; clear ho hb hg hat)); go_roundg k1
          case measure => have := HK1.out; omega
          case rel => exact ⟨(y306), (wrap64 (x6_1 + 1)), qS, H', ⟨by have := HK1.out; omega⟩, ⟨by (with_reducible repeat (first | apply Kd.Ral | apply Kd.RdN | apply Kd.Rdr)); exact HO308.out⟩, ⟨qB⟩⟩
        · rw [if_neg c6] at H; exact absurd H (by simp)
      · rw [if_neg c5] at H; have c5b0 := decide_eq_false c5; clear c5; obtain rfl := qsi H; have hcv8 := own_string (P := Tryz.prog) Tryz.underlying22 Tryz.underlying5 Tryz.underlying9 (Kd.own_of_R HO_5.out); go_wp2; go_ret; exact ⟨qR, qB⟩
def spec_l1DrawKind.f (s0_0 : List Int) (s0_1 : Int) (s0_2 : Int) : Option (Int × Int × Int) := (spec_l1Cur_pick.f s0_0 s0_1 s0_2 16).bind fun bt309 => (if bt309.1 = 15 then ((some (([2, (-1)] : List Int) : List Int)).bind fun y312 => ((spec_l1Cur_pick.f s0_0 bt309.2.1 bt309.2.2 2).bind fun bt315 => (if 0 ≤ bt315.1 then (if bt315.1 < (y312.length : Int) then (some (rd y312 bt315.1, bt315.2.1, bt315.2.2)) else (none)) else (none)))) else (some (Int.tmod bt309.1 2, bt309.2.1, bt309.2.2)))
set_option maxHeartbeats 8000000 in
set_option maxRecDepth 100000 in
theorem spec_l1DrawKind.calls (g : Nat) (s0_0 : List Int) (s0_1 : Int) (s0_2 : Int) (r1 : Int) (r2 : Int) (r3 : Int) (w0 w : World) (hI : IsS48 w0 w g s0_0 s0_1 s0_2) (hB : Below w0.heap.size w0 w) (h : spec_l1DrawKind.f s0_0 s0_1 s0_2 = some (r1, r2, r3)) :
    Calls Tryz.prog 95 #[.pointer (some ⟨g, 0, none⟩)] w fun e w' => e = .returned (.int .i64 r1) ∧ IsS48 w0 w' g s0_0 r2 r3 ∧ Below w0.heap.size w0 w' ∧ KeepBut w w' g none := by
  have HI0 := qK hI; have HK := qK (KeepBut.refl w g none); have HL := qK hB.size; clear hI; have HW0 := qK hB.size; have HB := qK hB; clear hB; have H : ((spec_l1Cur_pick.f s0_0 s0_1 s0_2 16).bind fun bt309 => (if bt309.1 = 15 then ((some (([2, (-1)] : List Int) : List Int)).bind fun y312 => ((spec_l1Cur_pick.f s0_0 bt309.2.1 bt309.2.2 2).bind fun bt315 => (if 0 ≤ bt315.1 then (if bt315.1 < (y312.length : Int) then (some (rd y312 bt315.1, bt315.2.1, bt315.2.2)) else (none)) else (none)))) else (some (Int.tmod bt309.1 2, bt309.2.1, bt309.2.2)))) = some (r1, r2, r3) := h; clear h; obtain ⟨⟨t309, t310, t311⟩, A2, H⟩ := qbi H; by_cases c3 : t309 = 15
  · rw [if_pos c3] at H; obtain ⟨c3b0, c3b1⟩ := qe c3; clear c3; obtain ⟨y312, hy_⟩ : ∃ y_ : List Int, y_ = (([2, (-1)] : List Int)) := ⟨_, rfl⟩; replace H : ((spec_l1Cur_pick.f s0_0 t310 t311 2).bind fun bt315 => (if 0 ≤ bt315.1 then (if bt315.1 < (y312.length : Int) then (some (rd y312 bt315.1, bt315.2.1, bt315.2.2)) else (none)) else (none))) = some (r1, r2, r3) := qh; have Ny312 := qK hy_; clear hy_; obtain ⟨⟨t315, t316, t317⟩, A4, H⟩ := qbi H; by_cases c5 : 0 ≤ t315
    · rw [if_pos c5] at H; have c5b0 := decide_eq_true c5; clear c5; by_cases c6 : t315 < (y312.length : Int)
      · rw [if_pos c6] at H; have c6b0 := decide_eq_true c6; clear c6; simp only [Option.some.injEq, Prod.mk.injEq] at H; obtain ⟨rfl, rfl, rfl⟩ := H; go_enter Tryz.func95, Tryz.ntmps95; go_wp2_with (first | ((with_reducible refine gcl (f := 59) rfl ?_); refine gL 5 Tryz.func59 #[.pointer (some ⟨g, 0, none⟩), .int .i64 16] ?_; (with_reducible refine (spec_l1Cur_pick.calls g s0_0 s0_1 s0_2 16 t309 t310 t311 w0 _ ?_ ?_ A2.out).mono ?_); exact qI48; exact qBj48; rintro e w7 ⟨rfl, hi, hb, hk⟩; refine ⟨_, rfl, ?_⟩; replace HK := qK (KeepBut.trans qHK hk (.inl rfl)); replace HB := qK (hb); replace HI0 := qK (hi); (try clear hb); (try clear hk); (try clear hi)) | ((with_reducible refine gds (N := 8) rfl ?_); refine Kd.R_lit (Kd.int .i64) _ 3 ?hg (N := 8) ?hd (xs := ([2, (-1)] : List Int)) (inner := [.int .i64 2, .int .i64 (-1)]) (ok := fun _ => True) (okp := fun _ => True) ?hr ?hp (fun _ hk => hk) trivial (Below.refl _ _) (Nat.le_refl _) (by simp) ?_; (case hd => rfl); (case hg => rfl); (case hr => first | (go_simp; done) | (go_simp; rfl)); (case hp => exact (Reps.one (show Kd.M (Kd.int .i64) _ _ _ 2 [.int .i64 2] from rfl) (Reps.one (show Kd.M (Kd.int .i64) _ _ _ (-1) [.int .i64 (-1)] from rfl) (Reps.none _ _)))); intro v313 w8 ho9 hb hg_ hnew_; clear hg_ hnew_; (first | rw [← Ny312.out] at ho9 | (simp only [Int.reduceToNat] at ho9; rw [← Ny312.out] at ho9)); have HO314 := qK (Kd.Rlo ho9 (keep_size (w := w) (g := g) (row := none) qHK)); replace HK := qK (KeepBut.trans qHK (KeepBut.of_below hb g none) (.inl rfl)); replace HB := qK (bst qBs48 hb); replace HI0 := qK (IsS48.below qI48 hb); clear hb ho9) | ((with_reducible refine gcl (f := 59) rfl ?_); refine gL 10 Tryz.func59 #[.pointer (some ⟨g, 0, none⟩), .int .i64 2] ?_; (with_reducible refine (spec_l1Cur_pick.calls g s0_0 t310 t311 2 t315 t316 t317 w0 _ ?_ ?_ A4.out).mono ?_); exact qI48; exact qBj48; rintro e w10 ⟨rfl, hi, hb, hk⟩; refine ⟨_, rfl, ?_⟩; replace HO314 := qK (Kd.Rmo (Kd.R_keep (IsS48.apart (show IsS48 w0 _ g s0_0 t310 t311 from qI48) (qRb HO314) (by decide)) hk (fun _ h => h.2)) (fun _ h => h.1)); replace HK := qK (KeepBut.trans qHK hk (.inl rfl)); replace HB := qK (hb); replace HI0 := qK (hi); (try clear hb); (try clear hk); (try clear hi); obtain ⟨Ao11, co11, eo11⟩ := Kd.R_slice HO314.out; subst eo11; have p318 : 0 ≤ (t315 : Int) := of_decide_eq_true qa; have q318 : t315 < (y312.length : Int) := of_decide_eq_true qa; obtain ⟨ad318, e318, hx318_0⟩ := Kd.at_int (Kd.R_reads' HO314.out).2.2 t315 p318 q318; cases e318; replace p318 := eq_true p318; replace q318 := eq_true q318)); go_ret; exact ⟨qR, qI48, qBs48, qHK⟩
      · rw [if_neg c6] at H; exact absurd H (by simp)
    · rw [if_neg c5] at H; exact absurd H (by simp)
  · rw [if_neg c3] at H; obtain ⟨c3b0, c3b1⟩ := qn c3; simp only [Option.some.injEq, Prod.mk.injEq] at H; obtain ⟨rfl, rfl, rfl⟩ := H; go_enter Tryz.func95, Tryz.ntmps95; go_wp2_with (first | ((with_reducible refine gcl (f := 59) rfl ?_); refine gL 5 Tryz.func59 #[.pointer (some ⟨g, 0, none⟩), .int .i64 16] ?_; (with_reducible refine (spec_l1Cur_pick.calls g s0_0 s0_1 s0_2 16 t309 t310 t311 w0 _ ?_ ?_ A2.out).mono ?_); exact qI48; exact qBj48; rintro e w12 ⟨rfl, hi, hb, hk⟩; refine ⟨_, rfl, ?_⟩; replace HK := qK (KeepBut.trans qHK hk (.inl rfl)); replace HB := qK (hb); replace HI0 := qK (hi); (try clear hb); (try clear hk); (try clear hi))); go_ret; exact ⟨qR, qI48, qBs48, qHK⟩
end Go.Proofs.YtajkbbifemeanaaGreatDoor.L
end
section
namespace Go.Proofs.YtajkbbifemeanaaGreatDoor.L
open Go.RowKit Go.Proofs.YtajkbbifemeanaaGreatDoorW.PrintWords Go.Proofs.YtajkbbifemeanaaGreatDoorW.PrintLast Go.Proofs.YtajkbbifemeanaaGreatDoorW.PrintMore
attribute [local go_sem] max2_int min2_int max_two min_two max_three min_three max_four min_four
set_option linter.unusedVariables false
set_option linter.unusedSimpArgs false
mutual
def spec_l3DrawPath.j0 : Nat → Int → List Int → Int → Int → Option (Int × List ByteArray × ByteArray × Int × List ByteArray × Int × Int)
  | 0, _, _, _, _ => none
  | k + 1, x7, x1000, x1001, x1002 => (spec_l2DrawEntries.f k x1000 x1001 x1002 9).bind fun bt325 => (if bt325.1.length < 8796093022208 then ((some (bt325.1 ++ [(⟨#[101]⟩ : ByteArray)] : List ByteArray)).bind fun y330 => ((spec_l1Cur_pick.f x1000 bt325.2.1 bt325.2.2 (y330.length : Int)).bind fun bt333 => ((spec_Path.f k x7 y330 bt333.1).bind fun t336 => (if 0 ≤ bt333.1 then (if bt333.1 < (y330.length : Int) then ((spec_l1Cur_pick.f x1000 bt333.2.1 bt333.2.2 10).bind fun bt340 => (if bt340.1 = 2 then (spec_l3DrawPath.j1 k x7 y330 bt333.1 t336 (rdOf ByteArray.empty y330 bt333.1) bt340.1 (bt340.1 == 2) x1000 bt340.2.1 bt340.2.2) else (if bt340.1 = 3 then (spec_l3DrawPath.j1 k x7 y330 bt333.1 t336 (rdOf ByteArray.empty y330 bt333.1) bt340.1 (bt340.1 == 3) x1000 bt340.2.1 bt340.2.2) else (if bt340.1 = 4 then (spec_l3DrawPath.j1 k x7 y330 bt333.1 t336 (rdOf ByteArray.empty y330 bt333.1) bt340.1 (bt340.1 == 4) x1000 bt340.2.1 bt340.2.2) else (spec_l3DrawPath.j1 k x7 y330 bt333.1 t336 (rdOf ByteArray.empty y330 bt333.1) bt340.1 (bt340.1 == 5) x1000 bt340.2.1 bt340.2.2))))) else (none)) else (none))))) else (none))
def spec_l3DrawPath.j1 : Nat → Int → List ByteArray → Int → List ByteArray → ByteArray → Int → Bool → List Int → Int → Int → Option (Int × List ByteArray × ByteArray × Int × List ByteArray × Int × Int)
  | 0, _, _, _, _, _, _, _, _, _, _ => none
  | k + 1, x7, x8, x9, x10, x11, x34, x35, x1000, x1001, x1002 => if x35 = true then ((spec_l1DrawBytes.f k x1000 x1001 x1002 2).bind fun bt343 => (if x7 = 1 then ((spec_Root.f k x7 x8).bind fun t346 => ((spec_l3Forge.f k x1000 bt343.2.1 bt343.2.2 x7 bt343.1 x9 (x8.length : Int) t346).bind fun bt347 => (some (x7, x8, bt343.1, x9, bt347.1, bt347.2.1, bt347.2.2)))) else (some (x7, x8, bt343.1, x9, x10, bt343.2.1, bt343.2.2)))) else (if x34 = 6 then (if (x10.length : Int) > 0 then ((spec_l1Cur_pick.f x1000 x1001 x1002 (x10.length : Int)).bind fun bt352 => ((spec_l1DrawBytes.f k x1000 bt352.2.1 bt352.2.2 2).bind fun bt355 => (if 0 ≤ bt352.1 then (if bt352.1 < (x10.length : Int) then (some (x7, x8, x11, x9, (x10.set (bt352.1 : Int).toNat bt355.1), bt355.2.1, bt355.2.2)) else (none)) else (none)))) else (some (x7, x8, x11, x9, x10, x1001, x1002))) else (if x34 = 7 then ((spec_l2Width.f x7).bind fun t359 => ((spec_l1Times.f k (⟨#[119]⟩ : ByteArray) t359).bind fun t360 => (if x10.length < 8796093022208 then (some (x7, x8, x11, x9, (x10 ++ [t360]), x1001, x1002)) else (none)))) else (if x34 = 8 then ((spec_l1Cur_pick.f x1000 x1001 x1002 (wrap64 ((x8.length : Int) + 2))).bind fun bt364 => (some (x7, x8, x11, wrap64 (bt364.1 - 1), x10, bt364.2.1, bt364.2.2))) else (if x34 = 9 then ((spec_l1DrawKind.f x1000 x1001 x1002).bind fun bt367 => (some (bt367.1, x8, x11, x9, x10, bt367.2.1, bt367.2.2))) else (some (x7, x8, x11, x9, x10, x1001, x1002))))))
end
def spec_l3DrawPath.f (k : Nat) (s0_0 : List Int) (s0_1 : Int) (s0_2 : Int) : Option (Int × List ByteArray × ByteArray × Int × List ByteArray × Int × Int) := (spec_l1Cur_pick.f s0_0 s0_1 s0_2 2).bind fun bt319 => ((spec_l1Cur_pick.f s0_0 bt319.2.1 bt319.2.2 3).bind fun bt322 => (if bt322.1 > 0 then (spec_l3DrawPath.j0 k 1 s0_0 bt322.2.1 bt322.2.2) else (spec_l3DrawPath.j0 k bt319.1 s0_0 bt322.2.1 bt322.2.2)))
theorem spec_l3DrawPath.mono_l : ∀ k, (∀ y0 y1 y2 y3, LeO (spec_l3DrawPath.j0 k y0 y1 y2 y3) (spec_l3DrawPath.j0 (k + 1) y0 y1 y2 y3)) ∧ (∀ y0 y1 y2 y3 y4 y5 y6 y7 y8 y9, LeO (spec_l3DrawPath.j1 k y0 y1 y2 y3 y4 y5 y6 y7 y8 y9) (spec_l3DrawPath.j1 (k + 1) y0 y1 y2 y3 y4 y5 y6 y7 y8 y9))
  | 0 => by refine ⟨?_, ?_⟩ <;> intros <;> intro r h <;> simp [spec_l3DrawPath.j0, spec_l3DrawPath.j1] at h
  | k + 1 => by
    obtain ⟨ih0, ih1⟩ := spec_l3DrawPath.mono_l k
    refine ⟨?_, ?_⟩ <;> intros <;> first | unfold spec_l3DrawPath.j0 | unfold spec_l3DrawPath.j1
    repeat' first
      | (with_reducible first | exact ih0 .. | exact ih1 .. | exact spec_Path.mono .. | exact spec_Root.mono .. | exact spec_l1DrawBytes.mono .. | exact spec_l1Times.mono .. | exact spec_l2DrawEntries.mono .. | exact spec_l3Forge.mono .. | exact LeO.refl _ | exact LeO.none _ | refine LeO.ite ?_ ?_ | refine LeO.bind ?_ (fun _ => ?_))
      | exact ih0 .. | exact ih1 .. | exact spec_Path.mono .. | exact spec_Root.mono .. | exact spec_l1DrawBytes.mono .. | exact spec_l1Times.mono .. | exact spec_l2DrawEntries.mono .. | exact spec_l3Forge.mono .. | exact LeO.none _ | refine LeO.ite ?_ ?_ | refine LeO.bind ?_ (fun _ => ?_)
theorem spec_l3DrawPath.mono : ∀ a0 a1 a2 k, LeO (spec_l3DrawPath.f k a0 a1 a2) (spec_l3DrawPath.f (k + 1) a0 a1 a2) := by
  intro a0 a1 a2 k
  obtain ⟨ih0, ih1⟩ := spec_l3DrawPath.mono_l k
  unfold spec_l3DrawPath.f
  repeat' first
    | (with_reducible first | exact ih0 .. | exact ih1 .. | exact spec_Path.mono .. | exact spec_Root.mono .. | exact spec_l1DrawBytes.mono .. | exact spec_l1Times.mono .. | exact spec_l2DrawEntries.mono .. | exact spec_l3Forge.mono .. | exact LeO.refl _ | exact LeO.none _ | refine LeO.ite ?_ ?_ | refine LeO.bind ?_ (fun _ => ?_))
    | exact ih0 .. | exact ih1 .. | exact spec_Path.mono .. | exact spec_Root.mono .. | exact spec_l1DrawBytes.mono .. | exact spec_l1Times.mono .. | exact spec_l2DrawEntries.mono .. | exact spec_l3Forge.mono .. | exact LeO.none _ | refine LeO.ite ?_ ?_ | refine LeO.bind ?_ (fun _ => ?_)
set_option maxHeartbeats 8000000 in
set_option maxRecDepth 100000 in
theorem spec_l3DrawPath.calls (k : Nat) (g : Nat) (s0_0 : List Int) (s0_1 : Int) (s0_2 : Int) (r1 : Int) (r2 : List ByteArray) (r3 : ByteArray) (r4 : Int) (r5 : List ByteArray) (r6 : Int) (r7 : Int) (w0 w : World) (hI : IsS48 w0 w g s0_0 s0_1 s0_2) (hB : Below w0.heap.size w0 w) (h : spec_l3DrawPath.f k s0_0 s0_1 s0_2 = some (r1, r2, r3, r4, r5, r6, r7)) :
    Calls Tryz.prog 46 #[.pointer (some ⟨g, 0, none⟩)] w fun e w' => ∃ v1_ v4_ : Value, e = .returned (.tuple #[.int .i64 r1, v1_, .string r3, .int .i64 r4, v4_]) ∧ Kd.R Kd.string 9 w' w.heap.size (fun k_ => some k_ ≠ (v4_ : Value).ownBlock) v1_ r2 ∧ Kd.R Kd.string 9 w' w.heap.size (fun k_ => some k_ ≠ (v1_ : Value).ownBlock) v4_ r5 ∧ IsS48 w0 w' g s0_0 r6 r7 ∧ Below w0.heap.size w0 w' ∧ KeepBut w w' g none := by
  have HI0 := qK hI; have HK := qK (KeepBut.refl w g none); have HL := qK hB.size; clear hI; have HW0 := qK hB.size; have HB := qK hB; clear hB; have H : ((spec_l1Cur_pick.f s0_0 s0_1 s0_2 2).bind fun bt319 => ((spec_l1Cur_pick.f s0_0 bt319.2.1 bt319.2.2 3).bind fun bt322 => (if bt322.1 > 0 then (spec_l3DrawPath.j0 k 1 s0_0 bt322.2.1 bt322.2.2) else (spec_l3DrawPath.j0 k bt319.1 s0_0 bt322.2.1 bt322.2.2)))) = some (r1, r2, r3, r4, r5, r6, r7) := h; clear h; obtain ⟨⟨t319, t320, t321⟩, A2, H⟩ := qbi H; obtain ⟨⟨t322, t323, t324⟩, A3, H⟩ := qbi H; have HC4 := qK H; clear H; go_enter Tryz.func46, Tryz.ntmps46; go_upto_if 16 with (first | ((with_reducible refine gcl (f := 59) rfl ?_); refine gL 13 Tryz.func59 #[.pointer (some ⟨g, 0, none⟩), .int .i64 2] ?_; (with_reducible refine (spec_l1Cur_pick.calls g s0_0 s0_1 s0_2 2 t319 t320 t321 w0 _ ?_ ?_ A2.out).mono ?_); exact qI48; exact qBj48; rintro e w5 ⟨rfl, hi, hb, hk⟩; refine ⟨_, rfl, ?_⟩; replace HK := qK (KeepBut.trans qHK hk (.inl rfl)); replace HB := qK (hb); replace HI0 := qK (hi); (try clear hb); (try clear hk); (try clear hi)) | ((with_reducible refine gcl (f := 59) rfl ?_); refine gL 15 Tryz.func59 #[.pointer (some ⟨g, 0, none⟩), .int .i64 3] ?_; (with_reducible refine (spec_l1Cur_pick.calls g s0_0 t320 t321 3 t322 t323 t324 w0 _ ?_ ?_ A3.out).mono ?_); exact qI48; exact qBj48; rintro e w6 ⟨rfl, hi, hb, hk⟩; refine ⟨_, rfl, ?_⟩; replace HK := qK (KeepBut.trans qHK hk (.inl rfl)); replace HB := qK (hb); replace HI0 := qK (hi); (try clear hb); (try clear hk); (try clear hi))); (try simp only [Act.put, List.setIfInBounds_toArray, List.set_cons_zero, List.set_cons_succ]); go_cut [7] (fun v7 wc => ∃ (kq : Nat) (x7_3 : Int), v7 = .int .i64 x7_3 ∧ Aside0 (spec_l3DrawPath.j0 kq x7_3 s0_0 t323 t324 = some (r1, r2, r3, r4, r5, r6, r7)) ∧ Aside0 (kq ≤ k) ∧ Aside0 (IsS48 w0 wc g s0_0 t323 t324) ∧ Aside0 (KeepBut w wc g none) ∧ Aside0 (Below w0.heap.size w0 wc))
  case first =>
    have H := HC4.out; clear HC4; by_cases c7 : t322 > 0
    · rw [if_pos c7] at H; have c7b0 : decide (0 < t322) = true := decide_eq_true c7; clear c7; (first | rw [c7b0] | (simp only [i64_w, i32_w]; rw [c7b0]) | skip); have H' := qK H; clear H; go_wp2; go_meet
      case rel => exact ⟨_, (1), qS, H', ⟨by first | omega | exact Nat.le_refl _⟩, ⟨qI48⟩, ⟨qHK⟩, ⟨qBs48⟩⟩
    · rw [if_neg c7] at H; have c7b0 : decide (0 < t322) = false := decide_eq_false c7; clear c7; (first | rw [c7b0] | (simp only [i64_w, i32_w]; rw [c7b0]) | skip); have H' := qK H; clear H; go_wp2; go_meet
      case rel => exact ⟨_, (t319), qS, H', ⟨by first | omega | exact Nat.le_refl _⟩, ⟨qI48⟩, ⟨qHK⟩, ⟨qBs48⟩⟩
  case rest =>
    clear HC4; obtain ⟨kq, x7_3, rfl, HA, HJ3, HI0, HK, HB⟩ := hcut
    cases kq with
    | zero => exact absurd HA.out (by simp [spec_l3DrawPath.j0])
    | succ kj3 =>
      have H := HA.out; clear HA; simp only [spec_l3DrawPath.j0] at H; obtain ⟨⟨t325, t328, t329⟩, A8, H⟩ := qbi H; by_cases c9 : t325.length < 8796093022208
      · rw [if_pos c9] at H; have LMc9 := qK c9; clear c9; obtain ⟨y330, hy_⟩ : ∃ y_ : List ByteArray, y_ = (t325 ++ [(⟨#[101]⟩ : ByteArray)]) := ⟨_, rfl⟩; replace H : ((spec_l1Cur_pick.f s0_0 t328 t329 (y330.length : Int)).bind fun bt333 => ((spec_Path.f kj3 x7_3 y330 bt333.1).bind fun t336 => (if 0 ≤ bt333.1 then (if bt333.1 < (y330.length : Int) then ((spec_l1Cur_pick.f s0_0 bt333.2.1 bt333.2.2 10).bind fun bt340 => (if bt340.1 = 2 then (spec_l3DrawPath.j1 kj3 x7_3 y330 bt333.1 t336 (rdOf ByteArray.empty y330 bt333.1) bt340.1 (bt340.1 == 2) s0_0 bt340.2.1 bt340.2.2) else (if bt340.1 = 3 then (spec_l3DrawPath.j1 kj3 x7_3 y330 bt333.1 t336 (rdOf ByteArray.empty y330 bt333.1) bt340.1 (bt340.1 == 3) s0_0 bt340.2.1 bt340.2.2) else (if bt340.1 = 4 then (spec_l3DrawPath.j1 kj3 x7_3 y330 bt333.1 t336 (rdOf ByteArray.empty y330 bt333.1) bt340.1 (bt340.1 == 4) s0_0 bt340.2.1 bt340.2.2) else (spec_l3DrawPath.j1 kj3 x7_3 y330 bt333.1 t336 (rdOf ByteArray.empty y330 bt333.1) bt340.1 (bt340.1 == 5) s0_0 bt340.2.1 bt340.2.2))))) else (none)) else (none)))) = some (r1, r2, r3, r4, r5, r6, r7) := qh; have Ny330 := qK hy_; clear hy_; obtain ⟨⟨t333, t334, t335⟩, A10, H⟩ := qbi H; obtain ⟨t336, A11, H⟩ := qbi H; by_cases c12 : 0 ≤ t333
        · rw [if_pos c12] at H; have c12b0 := decide_eq_true c12; clear c12; by_cases c13 : t333 < (y330.length : Int)
          · rw [if_pos c13] at H; have c13b0 := decide_eq_true c13; clear c13; obtain ⟨⟨t340, t341, t342⟩, A14, H⟩ := qbi H; have HC15 := qK H; clear H; go_upto_if 35 with (first | ((with_reducible refine gcl (f := 91) rfl ?_); refine gL 18 Tryz.func91 #[.pointer (some ⟨g, 0, none⟩), .int .i64 9] ?_; (with_reducible refine (spec_l2DrawEntries.calls kj3 g s0_0 t323 t324 9 t325 t328 t329 w0 _ ?_ ?_ A8.out).mono ?_); exact qI48; exact qBj48; rintro e w16 ⟨v326, rfl, ho0, hi, hb, hk⟩; refine ⟨_, rfl, ?_⟩; have HO327 := qK (Kd.Rlo ho0 (keep_size (w := w) (g := g) (row := none) qHK)); replace HK := qK (KeepBut.trans qHK hk (.inl rfl)); replace HB := qK (hb); replace HI0 := qK (hi); (try clear hb); (try clear hk); (try clear hi); (try clear ho0)) | ((with_reducible refine gbu (b := .append) (xs := #[.tmp 18, .tmp 19]) rfl ?_); at_builtin; refine Kd.R_append Kd.string w.heap.size rfl (.tmp 18) (.tmp 19) 23 9 (.string ⟨#[]⟩) 16 rfl Tryz.underlying23 info9 rfl (by decide) (by omega) v326 t325 (⟨#[101]⟩ : ByteArray) [.string (⟨#[101]⟩ : ByteArray)] (fun _ => True) (fun _ => False) rfl rfl ?aP (fun _ hk => hk.elim) ?aF ?aO (Below.refl _ _) ?aS ?aL ?_; (case aP => exact rfl); (case aF => exact (fun _ _ => trivial)); (case aO => exact (qRb HO327)); (case aS => exact (keep_size (w := w) (g := g) (row := none) qHK)); (case aL => have := LMc9.out; omega); intro v331 w17 ho hb hg hat; rw [← Ny330.out] at ho; replace HB := qK (below_weaken qBs48 HL.out hb); replace HI0 := qK (IsS48.grown qI48 hg (IsS48.own_ne HI0.out HO327.out (by decide))); replace HK := qK (KeepBut.trans qHK (KeepBut.of_grown hg g) (Kd.R_base2 HO327.out)); have HO332 := qK (ho); clear HO327; clear ho hb hg hat; obtain ⟨Ao18, co18, eo18⟩ := Kd.R_slice HO332.out; subst eo18) | ((with_reducible refine gcl (f := 59) rfl ?_); refine gL 24 Tryz.func59 #[.pointer (some ⟨g, 0, none⟩), .int .i64 (y330.length : Int)] ?_; (with_reducible refine (spec_l1Cur_pick.calls g s0_0 t328 t329 (y330.length : Int) t333 t334 t335 w0 _ ?_ ?_ A10.out).mono ?_); exact qI48; exact qBj48; rintro e w19 ⟨rfl, hi, hb, hk⟩; refine ⟨_, rfl, ?_⟩; replace HO332 := qK (Kd.Rmo (Kd.R_keep (IsS48.apart (show IsS48 w0 _ g s0_0 t328 t329 from qI48) (qRb HO332) (by decide)) hk (fun _ h => h.2)) (fun _ h => h.1)); replace HK := qK (KeepBut.trans qHK hk (.inl rfl)); replace HB := qK (hb); replace HI0 := qK (hi); (try clear hb); (try clear hk); (try clear hi)) | ((with_reducible refine gcl (f := 92) rfl ?_); refine gL 28 Tryz.func92 #[.int .i64 x7_3, .slice Ao18 y330.length co18, .int .i64 t333] ?_; (with_reducible refine (spec_Path.calls kj3 x7_3 _ _ y330 t333 t336 _ ?side1 ?side2 A11.out).mono ?_); (case side1 => repeat (first | exact (Kd.R_reads' HO332.out).2.2 | (with_reducible refine Kd.Cal ?_ _) | (with_reducible refine Kd.CdN ?_ _) | (with_reducible refine Kd.Cdr ?_))); (case side2 => exact (Kd.R_reads' HO332.out).2.1); rintro e w20 ⟨v337, rfl, ho0, hb⟩; refine ⟨_, rfl, ?_⟩; have HO338 := qK (Kd.Rlo (Kd.R_new' ho0 (Kd.R_lt (qRb HO332))) (keep_size (w := w) (g := g) (row := none) qHK)); replace HO332 := qK (Kd.R_elder' (qRb HO332) (Kd.R_base ho0) hb); replace HK := qK (KeepBut.trans qHK (KeepBut.of_below hb g none) (.inl rfl)); replace HB := qK (bst qBs48 hb); replace HI0 := qK (IsS48.below qI48 hb); (try clear hb); (try clear hk); (try clear hi); (try clear ho0); have p339 : 0 ≤ (t333 : Int) := of_decide_eq_true qa; have q339 : t333 < (y330.length : Int) := of_decide_eq_true qa; obtain ⟨ad339, e339, hx339_0⟩ := Kd.at_string (Kd.R_reads' HO332.out).2.2 t333 p339 q339; cases e339; replace p339 := eq_true p339; replace q339 := eq_true q339) | ((with_reducible refine gcl (f := 59) rfl ?_); refine gL 34 Tryz.func59 #[.pointer (some ⟨g, 0, none⟩), .int .i64 10] ?_; (with_reducible refine (spec_l1Cur_pick.calls g s0_0 t334 t335 10 t340 t341 t342 w0 _ ?_ ?_ A14.out).mono ?_); exact qI48; exact qBj48; rintro e w21 ⟨rfl, hi, hb, hk⟩; refine ⟨_, rfl, ?_⟩; replace HO332 := qK (Kd.Rmo (Kd.R_keep (IsS48.apart (show IsS48 w0 _ g s0_0 t334 t335 from qI48) (qRb HO332) (by decide)) hk (fun _ h => h.2)) (fun _ h => h.1)); replace HO338 := qK (Kd.Rmo (Kd.R_keep (IsS48.apart (show IsS48 w0 _ g s0_0 t334 t335 from qI48) (qRb HO338) (by decide)) hk (fun _ h => h.2)) (fun _ h => h.1)); replace HK := qK (KeepBut.trans qHK hk (.inl rfl)); replace HB := qK (hb); replace HI0 := qK (hi); (try clear hb); (try clear hk); (try clear hi))); (try simp only [Act.put, List.setIfInBounds_toArray, List.set_cons_zero, List.set_cons_succ]); go_cut [35] (fun v35 wc => ∃ (kq : Nat) (x35_14 : Bool), v35 = .bool x35_14 ∧ Aside0 (spec_l3DrawPath.j1 kq x7_3 y330 t333 t336 (rdOf ByteArray.empty y330 t333) t340 x35_14 s0_0 t341 t342 = some (r1, r2, r3, r4, r5, r6, r7)) ∧ Aside0 (kq ≤ kj3) ∧ Aside0 (Kd.R Kd.string 9 wc w.heap.size (fun k_ => some k_ ≠ (v337 : Value).ownBlock) (.slice (some ad339) y330.length co18) y330) ∧ Aside0 (Kd.R Kd.string 9 wc w.heap.size (fun k_ => some k_ ≠ ((.slice (some ad339) y330.length co18) : Value).ownBlock) v337 t336) ∧ Aside0 (IsS48 w0 wc g s0_0 t341 t342) ∧ Aside0 (KeepBut w wc g none) ∧ Aside0 (Below w0.heap.size w0 wc))
            case first =>
              have H := HC15.out; clear HC15; by_cases c22 : t340 = 2
              · rw [if_pos c22] at H; obtain ⟨c22b0, c22b1⟩ := qe c22; clear c22; (first | rw [c22b0] | (simp only [i64_w, i32_w]; rw [c22b0]) | skip); have H' := qK H; clear H; go_wp2; go_meet
                case rel => exact ⟨_, ((t340 == 2)), qS, H', ⟨by have := HJ3.out; first | omega | exact Nat.le_refl _⟩, ⟨by (with_reducible repeat (first | apply Kd.Ral | apply Kd.RdN | apply Kd.Rdr)); exact Kd.Rmo HO332.out (fun _ hk => hk.2)⟩, ⟨by (with_reducible repeat (first | apply Kd.Ral | apply Kd.RdN | apply Kd.Rdr)); exact Kd.Rmo HO338.out (fun _ hk => hk.2)⟩, ⟨qI48⟩, ⟨qHK⟩, ⟨qBs48⟩⟩
              · rw [if_neg c22] at H; obtain ⟨c22b0, c22b1⟩ := qn c22; (first | rw [c22b0] | (simp only [i64_w, i32_w]; rw [c22b0]) | skip); by_cases c23 : t340 = 3
                · rw [if_pos c23] at H; obtain ⟨c23b0, c23b1⟩ := qe c23; clear c23; have H' := qK H; clear H; go_wp2; go_meet
                  case rel => exact ⟨_, ((t340 == 3)), qS, H', ⟨by have := HJ3.out; first | omega | exact Nat.le_refl _⟩, ⟨by (with_reducible repeat (first | apply Kd.Ral | apply Kd.RdN | apply Kd.Rdr)); exact Kd.Rmo HO332.out (fun _ hk => hk.2)⟩, ⟨by (with_reducible repeat (first | apply Kd.Ral | apply Kd.RdN | apply Kd.Rdr)); exact Kd.Rmo HO338.out (fun _ hk => hk.2)⟩, ⟨qI48⟩, ⟨qHK⟩, ⟨qBs48⟩⟩
                · rw [if_neg c23] at H; obtain ⟨c23b0, c23b1⟩ := qn c23; by_cases c24 : t340 = 4
                  · rw [if_pos c24] at H; obtain ⟨c24b0, c24b1⟩ := qe c24; clear c24; have H' := qK H; clear H; go_wp2; go_meet
                    case rel => exact ⟨_, ((t340 == 4)), qS, H', ⟨by have := HJ3.out; first | omega | exact Nat.le_refl _⟩, ⟨by (with_reducible repeat (first | apply Kd.Ral | apply Kd.RdN | apply Kd.Rdr)); exact Kd.Rmo HO332.out (fun _ hk => hk.2)⟩, ⟨by (with_reducible repeat (first | apply Kd.Ral | apply Kd.RdN | apply Kd.Rdr)); exact Kd.Rmo HO338.out (fun _ hk => hk.2)⟩, ⟨qI48⟩, ⟨qHK⟩, ⟨qBs48⟩⟩
                  · rw [if_neg c24] at H; obtain ⟨c24b0, c24b1⟩ := qn c24; have H' := qK H; clear H; go_wp2; go_meet
                    case rel => exact ⟨_, ((t340 == 5)), qS, H', ⟨by have := HJ3.out; first | omega | exact Nat.le_refl _⟩, ⟨by (with_reducible repeat (first | apply Kd.Ral | apply Kd.RdN | apply Kd.Rdr)); exact Kd.Rmo HO332.out (fun _ hk => hk.2)⟩, ⟨by (with_reducible repeat (first | apply Kd.Ral | apply Kd.RdN | apply Kd.Rdr)); exact Kd.Rmo HO338.out (fun _ hk => hk.2)⟩, ⟨qI48⟩, ⟨qHK⟩, ⟨qBs48⟩⟩
            case rest =>
              clear HC15; (try clear c9); (try clear c12); (try clear c12b0); (try clear c13); (try clear c13b0); (try clear hx339_0); (try clear p339); (try clear q339); obtain ⟨kq, x35_14, rfl, HA, HJ14, HO_8, HO_10, HI0, HK, HB⟩ := hcut
              cases kq with
              | zero => exact absurd HA.out (by simp [spec_l3DrawPath.j1])
              | succ kj14 =>
                have H := HA.out; clear HA; simp only [spec_l3DrawPath.j1] at H; by_cases c25 : x35_14 = true
                · subst c25; rw [if_pos rfl] at H; obtain ⟨⟨t343, t344, t345⟩, A26, H⟩ := qbi H; by_cases c27 : x7_3 = 1
                  · rw [if_pos c27] at H; obtain ⟨c27b0, c27b1⟩ := qe c27; clear c27; obtain ⟨t346, A28, H⟩ := qbi H; obtain ⟨⟨t347, t350, t351⟩, A29, H⟩ := qbi H; simp only [Option.some.injEq, Prod.mk.injEq] at H; obtain ⟨rfl, rfl, rfl, rfl, rfl, rfl, rfl⟩ := H; go_wp2_with (first | ((with_reducible refine gcl (f := 26) rfl ?_); refine gL 41 Tryz.func26 #[.pointer (some ⟨g, 0, none⟩), .int .i64 2] ?_; (with_reducible refine (spec_l1DrawBytes.calls kj14 g s0_0 t341 t342 2 t343 t344 t345 w0 _ ?_ ?_ A26.out).mono ?_); exact qI48; exact qBj48; rintro e w30 ⟨rfl, hi, hb, hk⟩; refine ⟨_, rfl, ?_⟩; replace HO_8 := qK (Kd.Rmo (Kd.R_keep (IsS48.apart (show IsS48 w0 _ g s0_0 t341 t342 from qI48) (qRb HO_8) (by decide)) hk (fun _ h => h.2)) (fun _ h => h.1)); replace HO_10 := qK (Kd.Rmo (Kd.R_keep (IsS48.apart (show IsS48 w0 _ g s0_0 t341 t342 from qI48) (qRb HO_10) (by decide)) hk (fun _ h => h.2)) (fun _ h => h.1)); replace HK := qK (KeepBut.trans qHK hk (.inl rfl)); replace HB := qK (hb); replace HI0 := qK (hi); (try clear hb); (try clear hk); (try clear hi)) | ((with_reducible refine gcl (f := 9) rfl ?_); refine gL 52 Tryz.func9 #[.int .i64 x7_3, .slice (some ad339) y330.length co18] ?_; (with_reducible refine (spec_Root.calls kj14 x7_3 _ _ y330 t346 _ ?side1 ?side2 A28.out).mono ?_); (case side1 => repeat (first | exact (Kd.R_reads' HO_8.out).2.2 | (with_reducible refine Kd.Cal ?_ _) | (with_reducible refine Kd.CdN ?_ _) | (with_reducible refine Kd.Cdr ?_))); (case side2 => exact (Kd.R_reads' HO_8.out).2.1); rintro e w31 ⟨rfl, hb⟩; refine ⟨_, rfl, ?_⟩; replace HO_8 := qK (Kd.Rbe (qRb HO_8) hb); replace HO_10 := qK (Kd.Rbe (qRb HO_10) hb); replace HK := qK (KeepBut.trans qHK (KeepBut.of_below hb g none) (.inl rfl)); replace HB := qK (bst qBs48 hb); replace HI0 := qK (IsS48.below qI48 hb); (try clear hb); (try clear hk); (try clear hi)) | ((with_reducible refine gcl (f := 93) rfl ?_); refine gL 53 Tryz.func93 #[.pointer (some ⟨g, 0, none⟩), .int .i64 x7_3, .string t343, .int .i64 t333, .int .i64 (y330.length : Int), .string t346] ?_; (with_reducible refine (spec_l3Forge.calls kj14 g s0_0 t344 t345 x7_3 t343 t333 (y330.length : Int) t346 t347 t350 t351 w0 _ ?_ ?_ A29.out).mono ?_); exact qI48; exact qBj48; rintro e w32 ⟨v348, rfl, ho0, hi, hb, hk⟩; refine ⟨_, rfl, ?_⟩; have HO349 := qK (Kd.Rlo (Kd.R_new' (Kd.R_new' ho0 (Kd.R_lt (qRb HO_8))) (Kd.R_lt (qRb HO_10))) (keep_size (w := w) (g := g) (row := none) qHK)); replace HO_8 := qK (Kd.Rmo (Kd.R_told (Kd.R_oldK (IsS48.apart (show IsS48 w0 _ g s0_0 t344 t345 from qI48) (qRb HO_8) (by decide)) hk) (Kd.R_base ho0)) (fun _ h_ => h_.1)); replace HO_10 := qK (Kd.Rmo (Kd.R_told (Kd.R_oldK (IsS48.apart (show IsS48 w0 _ g s0_0 t344 t345 from qI48) (qRb HO_10) (by decide)) hk) (Kd.R_base ho0)) (fun _ h_ => h_.1)); replace HK := qK (KeepBut.trans qHK hk (.inl rfl)); replace HB := qK (hb); replace HI0 := qK (hi); (try clear hb); (try clear hk); (try clear hi); (try clear ho0))); refine bodyPost_ret (results_list (rs := [.tmp 2, .tmp 3, .tmp 4, .tmp 5, .tmp 6]) rfl (by simp) (.tmp (.tmp (.tmp (.tmp (.tmp .nil)))))) rfl ?_; exact ⟨_, _, qR, by (with_reducible repeat (first | apply Kd.Ral | apply Kd.RdN | apply Kd.Rdr)); exact Kd.Rmo HO_8.out (fun _ hk => hk.2), by (with_reducible repeat (first | apply Kd.Ral | apply Kd.RdN | apply Kd.Rdr)); exact Kd.Rmo HO349.out (fun _ hk => hk.1.2), qI48, qBs48, qHK⟩
                  · rw [if_neg c27] at H; obtain ⟨c27b0, c27b1⟩ := qn c27; simp only [Option.some.injEq, Prod.mk.injEq] at H; obtain ⟨rfl, rfl, rfl, rfl, rfl, rfl, rfl⟩ := H; go_wp2_with (first | ((with_reducible refine gcl (f := 26) rfl ?_); refine gL 41 Tryz.func26 #[.pointer (some ⟨g, 0, none⟩), .int .i64 2] ?_; (with_reducible refine (spec_l1DrawBytes.calls kj14 g s0_0 t341 t342 2 t343 t344 t345 w0 _ ?_ ?_ A26.out).mono ?_); exact qI48; exact qBj48; rintro e w33 ⟨rfl, hi, hb, hk⟩; refine ⟨_, rfl, ?_⟩; replace HO_8 := qK (Kd.Rmo (Kd.R_keep (IsS48.apart (show IsS48 w0 _ g s0_0 t341 t342 from qI48) (qRb HO_8) (by decide)) hk (fun _ h => h.2)) (fun _ h => h.1)); replace HO_10 := qK (Kd.Rmo (Kd.R_keep (IsS48.apart (show IsS48 w0 _ g s0_0 t341 t342 from qI48) (qRb HO_10) (by decide)) hk (fun _ h => h.2)) (fun _ h => h.1)); replace HK := qK (KeepBut.trans qHK hk (.inl rfl)); replace HB := qK (hb); replace HI0 := qK (hi); (try clear hb); (try clear hk); (try clear hi))); refine bodyPost_ret (results_list (rs := [.tmp 2, .tmp 3, .tmp 4, .tmp 5, .tmp 6]) rfl (by simp) (.tmp (.tmp (.tmp (.tmp (.tmp .nil)))))) rfl ?_; exact ⟨_, _, qR, by (with_reducible repeat (first | apply Kd.Ral | apply Kd.RdN | apply Kd.Rdr)); exact HO_8.out, by (with_reducible repeat (first | apply Kd.Ral | apply Kd.RdN | apply Kd.Rdr)); exact HO_10.out, qI48, qBs48, qHK⟩
                · replace c25 := Bool.eq_false_iff.mpr c25; subst c25; rw [if_neg qff] at H; by_cases c34 : t340 = 6
                  · rw [if_pos c34] at H; obtain ⟨c34b0, c34b1⟩ := qe c34; clear c34; by_cases c35 : (t336.length : Int) > 0
                    · rw [if_pos c35] at H; have c35b0 : decide (0 < (t336.length : Int)) = true := decide_eq_true c35; have c35b1 : decide (0 < t336.length) = true := decide_eq_true (by omega); clear c35; obtain ⟨⟨t352, t353, t354⟩, A36, H⟩ := qbi H; obtain ⟨⟨t355, t356, t357⟩, A37, H⟩ := qbi H; by_cases c38 : 0 ≤ t352
                      · rw [if_pos c38] at H; have c38b0 := decide_eq_true c38; clear c38; by_cases c39 : t352 < (t336.length : Int)
                        · rw [if_pos c39] at H; have c39b0 := decide_eq_true c39; clear c39; obtain ⟨y358, hy_⟩ : ∃ y_ : List ByteArray, y_ = (t336.set (t352 : Int).toNat t355) := ⟨_, rfl⟩; replace H : (some (x7_3, y330, (rdOf ByteArray.empty y330 t333), t333, y358, t356, t357)) = some (r1, r2, r3, r4, r5, r6, r7) := qh; have Ny358 := qK hy_; clear hy_; simp only [Option.some.injEq, Prod.mk.injEq] at H; obtain ⟨rfl, rfl, rfl, rfl, rfl, rfl, rfl⟩ := H; obtain ⟨Ao41, co41, eo41⟩ := Kd.R_slice HO_10.out; subst eo41; go_wp2_with (first | ((with_reducible refine gcl (f := 59) rfl ?_); refine gL 63 Tryz.func59 #[.pointer (some ⟨g, 0, none⟩), .int .i64 (t336.length : Int)] ?_; (with_reducible refine (spec_l1Cur_pick.calls g s0_0 t341 t342 (t336.length : Int) t352 t353 t354 w0 _ ?_ ?_ A36.out).mono ?_); exact qI48; exact qBj48; rintro e w42 ⟨rfl, hi, hb, hk⟩; refine ⟨_, rfl, ?_⟩; replace HO_8 := qK (Kd.Rmo (Kd.R_keep (IsS48.apart (show IsS48 w0 _ g s0_0 t341 t342 from qI48) (qRb HO_8) (by decide)) hk (fun _ h => h.2)) (fun _ h => h.1)); replace HO_10 := qK (Kd.Rmo (Kd.R_keep (IsS48.apart (show IsS48 w0 _ g s0_0 t341 t342 from qI48) (qRb HO_10) (by decide)) hk (fun _ h => h.2)) (fun _ h => h.1)); replace HK := qK (KeepBut.trans qHK hk (.inl rfl)); replace HB := qK (hb); replace HI0 := qK (hi); (try clear hb); (try clear hk); (try clear hi)) | ((with_reducible refine gcl (f := 26) rfl ?_); refine gL 65 Tryz.func26 #[.pointer (some ⟨g, 0, none⟩), .int .i64 2] ?_; (with_reducible refine (spec_l1DrawBytes.calls kj14 g s0_0 t353 t354 2 t355 t356 t357 w0 _ ?_ ?_ A37.out).mono ?_); exact qI48; exact qBj48; rintro e w43 ⟨rfl, hi, hb, hk⟩; refine ⟨_, rfl, ?_⟩; replace HO_8 := qK (Kd.Rmo (Kd.R_keep (IsS48.apart (show IsS48 w0 _ g s0_0 t353 t354 from qI48) (qRb HO_8) (by decide)) hk (fun _ h => h.2)) (fun _ h => h.1)); replace HO_10 := qK (Kd.Rmo (Kd.R_keep (IsS48.apart (show IsS48 w0 _ g s0_0 t353 t354 from qI48) (qRb HO_10) (by decide)) hk (fun _ h => h.2)) (fun _ h => h.1)); replace HK := qK (KeepBut.trans qHK hk (.inl rfl)); replace HB := qK (hb); replace HI0 := qK (hi); (try clear hb); (try clear hk); (try clear hi); have p40 : 0 ≤ (t352 : Int) := of_decide_eq_true qa; have q40 : (t352 : Int) < ((t336.length : Int) : Int) := of_decide_eq_true qa; obtain ⟨go40, co40, eo40, gb40, gl40, cl40, HG40⟩ := Kd.R_form HO_10.out (by omega); (first | cases eo40 | (injection eo40 with ea_ en_ ec_; (first | subst ea_ | (injection ea_ with ea_; subst ea_)); subst ec_; clear en_)); have GB40 := qK gb40; have GG40 := qK HG40; clear gb40 gl40 HG40; obtain ⟨hx40_0, hf40_0⟩ := Kd.R_celln (⟨#[]⟩ : ByteArray) HO_10.out (t352 : Int) p40 q40; replace p40 := eq_true p40; replace q40 := eq_true q40; obtain ⟨hy44_, hz44_⟩ := Kd.R_celln (⟨#[]⟩ : ByteArray) HO_10.out (t352 : Int) (of_decide_eq_true qa) (of_decide_eq_true qa); have HP44 := Kd.R_putg HO_10.out (t352 : Int) t355) | ((with_reducible refine gst (t := 9) (p := 66) rfl ?_); refine ste (t := 9) (p := 66) (v := ?vo_w45) (w1 := (w43.setCell ⟨go40, (t352 : Int).toNat, none⟩ (.string t355))) ?hg ?ho ?hn ?hr ?_; (case ho => rfl); (case hg => rfl); (case hn => rfl); (case hr => first | (go_simp; done) | (go_simp; rfl)); intro w45 hw; have hg : w43.grownBy w45 (some go40) := (by rw [hw]; exact HP44.2); have hp_ : Kd.R Kd.string 9 w45 w.heap.size (fun k_ => some k_ ≠ (.slice (some ad339) y330.length co18 : Value).ownBlock) (.slice (some ⟨go40, 0, none⟩) t336.length co41) y358 := (by rw [hw, Ny358.out]; exact HP44.1); clear HP44; replace HO_8 := qK (Kd.R_after (v := (.slice (some ⟨go40, 0, none⟩) t336.length co41)) (v1 := (.slice (some ⟨go40, 0, none⟩) t336.length co41)) (ok := (fun _ => True)) (by (with_reducible repeat (first | apply Kd.Ral | apply Kd.RdN | apply Kd.Rdr)); exact Kd.Rmo HO_8.out (fun _ hk => ⟨trivial, hk⟩)) hg (.inl rfl)); replace HI0 := qK (IsS48.grown qI48 hg (IsS48.own_ne HI0.out HO_10.out (by decide))); replace HB := qK ((by rw [hw]; exact bse (HB.out) (Nat.le_trans HL.out GB40.out) : Below w0.heap.size w0 w45)); replace HK := qK (KeepBut.trans qHK (KeepBut.of_grown hg g) (Kd.R_base2 HO_10.out)); replace HO_10 := qK (hp_); clear hg hw hp_)); refine bodyPost_ret (results_list (rs := [.tmp 2, .tmp 3, .tmp 4, .tmp 5, .tmp 6]) rfl (by simp) (.tmp (.tmp (.tmp (.tmp (.tmp .nil)))))) rfl ?_; exact ⟨_, _, qR, by (with_reducible repeat (first | apply Kd.Ral | apply Kd.RdN | apply Kd.Rdr)); exact Kd.Rmo HO_8.out (fun _ hk => hk.2), by (with_reducible repeat (first | apply Kd.Ral | apply Kd.RdN | apply Kd.Rdr)); exact HO_10.out, qI48, qBs48, qHK⟩
                        · rw [if_neg c39] at H; exact absurd H (by simp)
                      · rw [if_neg c38] at H; exact absurd H (by simp)
                    · rw [if_neg c35] at H; have c35b0 : decide (0 < (t336.length : Int)) = false := decide_eq_false c35; have c35b1 : decide (0 < t336.length) = false := decide_eq_false (by omega); clear c35; simp only [Option.some.injEq, Prod.mk.injEq] at H; obtain ⟨rfl, rfl, rfl, rfl, rfl, rfl, rfl⟩ := H; obtain ⟨Ao46, co46, eo46⟩ := Kd.R_slice HO_10.out; subst eo46; go_wp2; refine bodyPost_ret (results_list (rs := [.tmp 2, .tmp 3, .tmp 4, .tmp 5, .tmp 6]) rfl (by simp) (.tmp (.tmp (.tmp (.tmp (.tmp .nil)))))) rfl ?_; exact ⟨_, _, qR, by (with_reducible repeat (first | apply Kd.Ral | apply Kd.RdN | apply Kd.Rdr)); exact HO_8.out, by (with_reducible repeat (first | apply Kd.Ral | apply Kd.RdN | apply Kd.Rdr)); exact HO_10.out, qI48, qBs48, qHK⟩
                  · rw [if_neg c34] at H; obtain ⟨c34b0, c34b1⟩ := qn c34; by_cases c47 : t340 = 7
                    · rw [if_pos c47] at H; obtain ⟨c47b0, c47b1⟩ := qe c47; clear c47; obtain ⟨t359, A48, H⟩ := qbi H; obtain ⟨t360, A49, H⟩ := qbi H; by_cases c50 : t336.length < 8796093022208
                      · rw [if_pos c50] at H; have LMc50 := qK c50; clear c50; obtain ⟨y361, hy_⟩ : ∃ y_ : List ByteArray, y_ = (t336 ++ [t360]) := ⟨_, rfl⟩; replace H : (some (x7_3, y330, (rdOf ByteArray.empty y330 t333), t333, y361, t341, t342)) = some (r1, r2, r3, r4, r5, r6, r7) := qh; have Ny361 := qK hy_; clear hy_; simp only [Option.some.injEq, Prod.mk.injEq] at H; obtain ⟨rfl, rfl, rfl, rfl, rfl, rfl, rfl⟩ := H; go_wp2_with (first | ((with_reducible refine gcl (f := 36) rfl ?_); refine gL 71 Tryz.func36 #[.int .i64 x7_3] ?_; (with_reducible refine (spec_l2Width.calls x7_3 t359 _ A48.out).mono ?_); rintro e w' ⟨rfl, ⟨nd, rfl⟩⟩; refine ⟨_, rfl, ?_⟩) | ((with_reducible refine gcl (f := 94) rfl ?_); refine gL 72 Tryz.func94 #[.string (⟨#[119]⟩ : ByteArray), .int .i64 t359] ?_; (with_reducible refine (spec_l1Times.calls kj14 (⟨#[119]⟩ : ByteArray) t359 t360 _ A49.out).mono ?_); rintro e w51 ⟨rfl, hb⟩; refine ⟨_, rfl, ?_⟩; replace HO_8 := qK (Kd.Rbe (qRb HO_8) hb); replace HO_10 := qK (Kd.Rbe (qRb HO_10) hb); replace HK := qK (KeepBut.trans qHK (KeepBut.of_below hb g none) (.inl rfl)); replace HB := qK (bst qBs48 hb); replace HI0 := qK (IsS48.below qI48 hb); (try clear hb); (try clear hk); (try clear hi)) | ((with_reducible refine gbu (b := .append) (xs := #[.tmp 69, .tmp 73]) rfl ?_); at_builtin; refine Kd.R_append Kd.string w.heap.size rfl (.tmp 69) (.tmp 73) 23 9 (.string ⟨#[]⟩) 16 rfl Tryz.underlying23 info9 rfl (by decide) (by omega) v337 t336 t360 [.string t360] (fun k_ => some k_ ≠ (.slice (some ad339) y330.length co18 : Value).ownBlock) (fun _ => False) rfl rfl ?aP (fun _ hk => hk.elim) ?aF ?aO (Below.refl _ _) ?aS ?aL ?_; (case aP => exact rfl); (case aF => exact (fun k_ hk => Kd.fresh' (Kd.R_lt (qRb HO_8)) k_ hk)); (case aO => exact (qRb HO_10)); (case aS => exact (keep_size (w := w) (g := g) (row := none) qHK)); (case aL => have := LMc50.out; omega); intro v362 w52 ho hb hg hat; rw [← Ny361.out] at ho; replace HO_8 := qK (Kd.R_after (ok := (fun _ => True)) (by (with_reducible repeat (first | apply Kd.Ral | apply Kd.RdN | apply Kd.Rdr)); exact Kd.Rmo HO_8.out (fun _ hk => ⟨trivial, hk⟩)) hg hat); replace HB := qK (below_weaken qBs48 HL.out hb); replace HI0 := qK (IsS48.grown qI48 hg (IsS48.own_ne HI0.out HO_10.out (by decide))); replace HK := qK (KeepBut.trans qHK (KeepBut.of_grown hg g) (Kd.R_base2 HO_10.out)); have HO363 := qK (ho); clear HO_10; clear ho hb hg hat)); refine bodyPost_ret (results_list (rs := [.tmp 2, .tmp 3, .tmp 4, .tmp 5, .tmp 6]) rfl (by simp) (.tmp (.tmp (.tmp (.tmp (.tmp .nil)))))) rfl ?_; exact ⟨_, _, qR, by (with_reducible repeat (first | apply Kd.Ral | apply Kd.RdN | apply Kd.Rdr)); exact Kd.Rmo HO_8.out (fun _ hk => hk.2), by (with_reducible repeat (first | apply Kd.Ral | apply Kd.RdN | apply Kd.Rdr)); exact HO363.out, qI48, qBs48, qHK⟩
                      · rw [if_neg c50] at H; exact absurd H (by simp)
                    · rw [if_neg c47] at H; obtain ⟨c47b0, c47b1⟩ := qn c47; by_cases c53 : t340 = 8
                      · rw [if_pos c53] at H; obtain ⟨c53b0, c53b1⟩ := qe c53; clear c53; obtain ⟨⟨t364, t365, t366⟩, A54, H⟩ := qbi H; simp only [Option.some.injEq, Prod.mk.injEq] at H; obtain ⟨rfl, rfl, rfl, rfl, rfl, rfl, rfl⟩ := H; go_wp2_with (first | ((with_reducible refine gcl (f := 59) rfl ?_); refine gL 81 Tryz.func59 #[.pointer (some ⟨g, 0, none⟩), .int .i64 (wrap64 ((y330.length : Int) + 2))] ?_; (with_reducible refine (spec_l1Cur_pick.calls g s0_0 t341 t342 (wrap64 ((y330.length : Int) + 2)) t364 t365 t366 w0 _ ?_ ?_ A54.out).mono ?_); exact qI48; exact qBj48; rintro e w55 ⟨rfl, hi, hb, hk⟩; refine ⟨_, rfl, ?_⟩; replace HO_8 := qK (Kd.Rmo (Kd.R_keep (IsS48.apart (show IsS48 w0 _ g s0_0 t341 t342 from qI48) (qRb HO_8) (by decide)) hk (fun _ h => h.2)) (fun _ h => h.1)); replace HO_10 := qK (Kd.Rmo (Kd.R_keep (IsS48.apart (show IsS48 w0 _ g s0_0 t341 t342 from qI48) (qRb HO_10) (by decide)) hk (fun _ h => h.2)) (fun _ h => h.1)); replace HK := qK (KeepBut.trans qHK hk (.inl rfl)); replace HB := qK (hb); replace HI0 := qK (hi); (try clear hb); (try clear hk); (try clear hi))); refine bodyPost_ret (results_list (rs := [.tmp 2, .tmp 3, .tmp 4, .tmp 5, .tmp 6]) rfl (by simp) (.tmp (.tmp (.tmp (.tmp (.tmp .nil)))))) rfl ?_; exact ⟨_, _, qR, by (with_reducible repeat (first | apply Kd.Ral | apply Kd.RdN | apply Kd.Rdr)); exact HO_8.out, by (with_reducible repeat (first | apply Kd.Ral | apply Kd.RdN | apply Kd.Rdr)); exact HO_10.out, qI48, qBs48, qHK⟩
                      · rw [if_neg c53] at H; obtain ⟨c53b0, c53b1⟩ := qn c53; by_cases c56 : t340 = 9
                        · rw [if_pos c56] at H; obtain ⟨c56b0, c56b1⟩ := qe c56; clear c56; obtain ⟨⟨t367, t368, t369⟩, A57, H⟩ := qbi H; simp only [Option.some.injEq, Prod.mk.injEq] at H; obtain ⟨rfl, rfl, rfl, rfl, rfl, rfl, rfl⟩ := H; go_wp2_with (first | ((with_reducible refine gcl (f := 95) rfl ?_); refine gL 86 Tryz.func95 #[.pointer (some ⟨g, 0, none⟩)] ?_; (with_reducible refine (spec_l1DrawKind.calls g s0_0 t341 t342 t367 t368 t369 w0 _ ?_ ?_ A57.out).mono ?_); exact qI48; exact qBj48; rintro e w58 ⟨rfl, hi, hb, hk⟩; refine ⟨_, rfl, ?_⟩; replace HO_8 := qK (Kd.Rmo (Kd.R_keep (IsS48.apart (show IsS48 w0 _ g s0_0 t341 t342 from qI48) (qRb HO_8) (by decide)) hk (fun _ h => h.2)) (fun _ h => h.1)); replace HO_10 := qK (Kd.Rmo (Kd.R_keep (IsS48.apart (show IsS48 w0 _ g s0_0 t341 t342 from qI48) (qRb HO_10) (by decide)) hk (fun _ h => h.2)) (fun _ h => h.1)); replace HK := qK (KeepBut.trans qHK hk (.inl rfl)); replace HB := qK (hb); replace HI0 := qK (hi); (try clear hb); (try clear hk); (try clear hi))); refine bodyPost_ret (results_list (rs := [.tmp 2, .tmp 3, .tmp 4, .tmp 5, .tmp 6]) rfl (by simp) (.tmp (.tmp (.tmp (.tmp (.tmp .nil)))))) rfl ?_; exact ⟨_, _, qR, by (with_reducible repeat (first | apply Kd.Ral | apply Kd.RdN | apply Kd.Rdr)); exact HO_8.out, by (with_reducible repeat (first | apply Kd.Ral | apply Kd.RdN | apply Kd.Rdr)); exact HO_10.out, qI48, qBs48, qHK⟩
                        · rw [if_neg c56] at H; obtain ⟨c56b0, c56b1⟩ := qn c56; simp only [Option.some.injEq, Prod.mk.injEq] at H; obtain ⟨rfl, rfl, rfl, rfl, rfl, rfl, rfl⟩ := H; go_wp2; refine bodyPost_ret (results_list (rs := [.tmp 2, .tmp 3, .tmp 4, .tmp 5, .tmp 6]) rfl (by simp) (.tmp (.tmp (.tmp (.tmp (.tmp .nil)))))) rfl ?_; exact ⟨_, _, qR, by (with_reducible repeat (first | apply Kd.Ral | apply Kd.RdN | apply Kd.Rdr)); exact HO_8.out, by (with_reducible repeat (first | apply Kd.Ral | apply Kd.RdN | apply Kd.Rdr)); exact HO_10.out, qI48, qBs48, qHK⟩
          · rw [if_neg c13] at H; exact absurd H (by simp)
        · rw [if_neg c12] at H; exact absurd H (by simp)
      · rw [if_neg c9] at H; exact absurd H (by simp)
def spec_DrawCollidePath.f (k : Nat) (l0 : List Int) : Option (Int × List ByteArray × ByteArray × Int × List ByteArray) := (spec_l3DrawPath.f k l0 0 0).bind fun bt371 => (some (bt371.1, bt371.2.1, bt371.2.2.1, bt371.2.2.2.1, bt371.2.2.2.2.1))
theorem spec_DrawCollidePath.mono : ∀ a0 k, LeO (spec_DrawCollidePath.f k a0) (spec_DrawCollidePath.f (k + 1) a0) := by
  intro a0 k
  unfold spec_DrawCollidePath.f
  repeat' first
    | (with_reducible first | exact spec_l3DrawPath.mono .. | exact LeO.refl _ | exact LeO.none _ | refine LeO.ite ?_ ?_ | refine LeO.bind ?_ (fun _ => ?_))
    | exact spec_l3DrawPath.mono .. | exact LeO.none _ | refine LeO.ite ?_ ?_ | refine LeO.bind ?_ (fun _ => ?_)
set_option maxHeartbeats 8000000 in
set_option maxRecDepth 100000 in
theorem spec_DrawCollidePath.calls (k : Nat) (A0 : Option Addr) (c0 : Nat) (l0 : List Int) (r1 : Int) (r2 : List ByteArray) (r3 : ByteArray) (r4 : Int) (r5 : List ByteArray) (w : World) (hr0 : Kd.C (Kd.int .u8) w A0 l0.length l0) (hc0 : l0.length ≤ c0) (h : spec_DrawCollidePath.f k l0 = some (r1, r2, r3, r4, r5)) :
    Calls Tryz.prog 13 #[.slice A0 l0.length c0] w fun e w' => ∃ v1_ v4_ : Value, e = .returned (.tuple #[.int .i64 r1, v1_, .string r3, .int .i64 r4, v4_]) ∧ Kd.R Kd.string 9 w' w.heap.size (fun k_ => some k_ ≠ (v4_ : Value).ownBlock) v1_ r2 ∧ Kd.R Kd.string 9 w' w.heap.size (fun k_ => some k_ ≠ (v1_ : Value).ownBlock) v4_ r5 ∧ Below w.heap.size w w' := by
  have hu48 := Tryz.underlying48; have HR0 := qK hr0; have HC0 := qK hc0; clear hr0 hc0; have HB := qK (Below.refl w.heap.size w); have H : ((spec_l3DrawPath.f k l0 0 0).bind fun bt371 => (some (bt371.1, bt371.2.1, bt371.2.2.1, bt371.2.2.2.1, bt371.2.2.2.2.1))) = some (r1, r2, r3, r4, r5) := h; clear h; obtain ⟨⟨t371, t372, t375, t376, t377, t380, t381⟩, A2, H⟩ := qbi H; simp only [Option.some.injEq, Prod.mk.injEq] at H; obtain ⟨rfl, rfl, rfl, rfl, rfl⟩ := H; go_enter Tryz.func13, Tryz.ntmps13; go_wp2_with (first | ((with_reducible refine gds (N := 9) rfl ?_); refine qbx 9 #[.slice A0 l0.length c0, .int .i64 0, .int .i64 0] 48 ?_; intro gb370 hg w3 hbox hb; have BK370 := qK (hbox); have GW370 := qK ((qW : w.heap.size ≤ gb370)); have HI370 := qK ((show IsS48 w w3 gb370 l0 0 0 from ⟨A0, c0, hbox, (by rw [hg]; exact (bsz qB)), HR0.out⟩)); replace HB := qHB HB hb; clear hb hbox hg) | ((with_reducible refine gcl (f := 46) rfl ?_); refine gL 10 Tryz.func46 #[.pointer (some ⟨gb370, 0, none⟩)] ?_; (with_reducible refine (spec_l3DrawPath.calls k gb370 l0 0 0 t371 t372 t375 t376 t377 t380 t381 w _ ?_ ?_ A2.out).mono ?_); exact qJ48; exact qBj48; rintro e w4 ⟨v373, v378, rfl, ho0, ho1, hi, hb, hk⟩; refine ⟨_, rfl, ?_⟩; have HO374 := qK (Kd.Rlo ho0 (bsz qBj48)); have HO379 := qK (Kd.Rlo ho1 (bsz qBj48)); replace HB := qK (hb); replace HI370 := qK (hi); (try clear hb); (try clear hk); (try clear hi); (try clear ho0); (try clear ho1))); refine bodyPost_ret (results_list (rs := [.tmp 2, .tmp 3, .tmp 4, .tmp 5, .tmp 6]) rfl (by simp) (.tmp (.tmp (.tmp (.tmp (.tmp .nil)))))) rfl ?_; exact ⟨_, _, qR, by (with_reducible repeat (first | apply Kd.Ral | apply Kd.RdN | apply Kd.Rdr)); exact HO374.out, by (with_reducible repeat (first | apply Kd.Ral | apply Kd.RdN | apply Kd.Rdr)); exact HO379.out, by exact qBj48⟩
def impl_widths.l0 : Nat → Int → List ByteArray → Int → Int → Option (Bool)
  | 0, _, _, _, _ => none
  | k + 1, x0, x7, x8, x9 => if x9 < x8 then (if 0 ≤ x9 then (if x9 < (x7.length : Int) then ((impl_width.f x0).bind fun t383 => (if ((rdOf ByteArray.empty x7 x9).size : Int) = t383 then (impl_widths.l0 k x0 x7 x8 (wrap64 (x9 + 1))) else (some false))) else (none)) else (none)) else ((impl_width.f x0).bind fun t384 => (some (decide (t384 > 0))))
def impl_widths.f (k : Nat) (a0 : Int) (l1 : List ByteArray) : Option (Bool) := impl_widths.l0 k a0 l1 (l1.length : Int) 0
theorem impl_widths.mono_l : ∀ k, (∀ y0 y1 y2 y3, LeO (impl_widths.l0 k y0 y1 y2 y3) (impl_widths.l0 (k + 1) y0 y1 y2 y3))
  | 0 => fun _ _ _ _ r h => by simp [impl_widths.l0] at h
  | k + 1 => by
    have ih0 := impl_widths.mono_l k
    · intro y0 y1 y2 y3
      unfold impl_widths.l0
      repeat' first
        | (with_reducible first | exact ih0 .. | exact LeO.refl _ | exact LeO.none _ | refine LeO.ite ?_ ?_ | refine LeO.bind ?_ (fun _ => ?_))
        | exact ih0 .. | exact LeO.none _ | refine LeO.ite ?_ ?_ | refine LeO.bind ?_ (fun _ => ?_)
theorem impl_widths.mono : ∀ a0 a1 k, LeO (impl_widths.f k a0 a1) (impl_widths.f (k + 1) a0 a1) := by
  intro a0 a1 k
  have ih0 := impl_widths.mono_l k
  unfold impl_widths.f
  repeat' first
    | (with_reducible first | exact ih0 .. | exact LeO.refl _ | exact LeO.none _ | refine LeO.ite ?_ ?_ | refine LeO.bind ?_ (fun _ => ?_))
    | exact ih0 .. | exact LeO.none _ | refine LeO.ite ?_ ?_ | refine LeO.bind ?_ (fun _ => ?_)
set_option maxHeartbeats 8000000 in
set_option maxRecDepth 100000 in
theorem impl_widths.calls (k : Nat) (a0 : Int) (A1 : Option Addr) (c1 : Nat) (l1 : List ByteArray) (r : Bool) (w : World) (hr1 : Kd.C Kd.string w A1 l1.length l1) (hc1 : l1.length ≤ c1) (h : impl_widths.f k a0 l1 = some r) :
    Calls Tryz.prog 49 #[.int .i64 a0, .slice A1 l1.length c1] w fun e w' => e = .returned (.bool r) ∧ Drawn0 w w' := by
  have HR1 := qK hr1; have HC1 := qK hc1; clear hr1 hc1; have H : (impl_widths.l0 k a0 l1 (l1.length : Int) 0) = some r := h; clear h; have H' := qK H; clear H; go_enter Tryz.func49, Tryz.ntmps49; go_wp2; go_loopg [9] k (fun kq v9 w' => ∃ (x9_1 : Int), v9 = .int .i64 x9_1 ∧ Aside0 (impl_widths.l0 kq a0 l1 (l1.length : Int) x9_1 = some r) ∧ Aside0 (kq ≤ k) ∧ Drawn0 w w')
  case atStart => exact ⟨(0), qS, H', ⟨Nat.le_refl _⟩, by repeat (first | exact Drawn0.refl _ | apply Drawn0.step)⟩
  case round =>
    clear H'; (try clear c1); obtain ⟨x9_1, rfl, HA, HK1, ⟨m1, rfl⟩⟩ := hrel
    cases gk with
    | zero => exact absurd HA.out (by simp [impl_widths.l0])
    | succ k1 =>
      have H := HA.out; clear HA; simp only [impl_widths.l0] at H; by_cases c3 : x9_1 < (l1.length : Int)
      · rw [if_pos c3] at H; have c3b0 := decide_eq_true c3; clear c3; by_cases c4 : 0 ≤ x9_1
        · rw [if_pos c4] at H; have c4b0 := decide_eq_true c4; clear c4; by_cases c5 : x9_1 < (l1.length : Int)
          · rw [if_pos c5] at H; have c5b0 := decide_eq_true c5; clear c5; obtain ⟨t383, A6, H⟩ := qbi H; by_cases c7 : ((rdOf ByteArray.empty l1 x9_1).size : Int) = t383
            · rw [if_pos c7] at H; obtain ⟨c7b0, c7b1⟩ := qe c7; clear c7; have H' := qK H; clear H; have p382 : 0 ≤ (x9_1 : Int) := of_decide_eq_true qa; have q382 : x9_1 < (l1.length : Int) := of_decide_eq_true qa; obtain ⟨ad382, e382, hx382_0⟩ := Kd.at_string HR1.out x9_1 p382 q382; cases e382; replace p382 := eq_true p382; replace q382 := eq_true q382; go_wp2_with (first | ((with_reducible refine gcl (f := 38) rfl ?_); refine gL 16 Tryz.func38 #[.int .i64 a0] ?_; (with_reducible refine (impl_width.calls a0 t383 _ A6.out).mono ?_); rintro e w' ⟨rfl, ⟨nd, rfl⟩⟩; refine ⟨_, rfl, ?_⟩)); go_roundg k1
              case measure => have := HK1.out; omega
              case rel => exact ⟨(wrap64 (x9_1 + 1)), qS, H', ⟨by have := HK1.out; omega⟩, by repeat (first | exact Drawn0.refl _ | apply Drawn0.step)⟩
            · rw [if_neg c7] at H; obtain ⟨c7b0, c7b1⟩ := qn c7; obtain rfl := qsi H; have p382 : 0 ≤ (x9_1 : Int) := of_decide_eq_true qa; have q382 : x9_1 < (l1.length : Int) := of_decide_eq_true qa; obtain ⟨ad382, e382, hx382_0⟩ := Kd.at_string HR1.out x9_1 p382 q382; cases e382; replace p382 := eq_true p382; replace q382 := eq_true q382; go_wp2_with (first | ((with_reducible refine gcl (f := 38) rfl ?_); refine gL 16 Tryz.func38 #[.int .i64 a0] ?_; (with_reducible refine (impl_width.calls a0 t383 _ A6.out).mono ?_); rintro e w' ⟨rfl, ⟨nd, rfl⟩⟩; refine ⟨_, rfl, ?_⟩)); go_ret; exact ⟨by first | rfl | (simp; done) | (simp [*]; done), by repeat (first | exact Drawn0.refl _ | apply Drawn0.step)⟩
          · rw [if_neg c5] at H; exact absurd H (by simp)
        · rw [if_neg c4] at H; exact absurd H (by simp)
      · rw [if_neg c3] at H; have c3b0 := decide_eq_false c3; clear c3; obtain ⟨t384, A8, H⟩ := qbi H; obtain rfl := qsi H; go_wp2_with (first | ((with_reducible refine gcl (f := 38) rfl ?_); refine gL 20 Tryz.func38 #[.int .i64 a0] ?_; (with_reducible refine (impl_width.calls a0 t384 _ A8.out).mono ?_); rintro e w' ⟨rfl, ⟨nd, rfl⟩⟩; refine ⟨_, rfl, ?_⟩)); go_ret; exact ⟨by first | rfl | (simp; done) | (simp [*]; done), by repeat (first | exact Drawn0.refl _ | apply Drawn0.step)⟩
def impl_claim.f : Nat → Int → ByteArray → Int → Int → List ByteArray → Option (ByteArray × Bool)
  | 0, _, _, _, _, _ => none
  | k + 1, a0, a1, a2, a3, l4 => if a3 = 1 then ((impl_Leaf.f a0 a1).bind fun t385 => (some (t385, ((l4.length : Int) == 0)))) else (if (l4.length : Int) = 0 then (some ((⟨#[]⟩ : ByteArray), false)) else ((impl_below.f k a3).bind fun t386 => (if 0 ≤ (wrap64 ((l4.length : Int) - 1)) then (if (wrap64 ((l4.length : Int) - 1)) < (l4.length : Int) then (if (wrap64 ((l4.length : Int) - 1)) ≤ (l4.length : Int) then (if a2 < t386 then ((impl_claim.f k a0 a1 a2 t386 (l4.take ((wrap64 ((l4.length : Int) - 1)) : Int).toNat)).bind fun bt389 => ((impl_Node.f a0 bt389.1 (rdOf ByteArray.empty l4 (wrap64 ((l4.length : Int) - 1)))).bind fun t391 => (some (t391, bt389.2)))) else ((impl_claim.f k a0 a1 (wrap64 (a2 - t386)) (wrap64 (a3 - t386)) (l4.take ((wrap64 ((l4.length : Int) - 1)) : Int).toNat)).bind fun bt392 => ((impl_Node.f a0 (rdOf ByteArray.empty l4 (wrap64 ((l4.length : Int) - 1))) bt392.1).bind fun t394 => (some (t394, bt392.2))))) else (none)) else (none)) else (none))))
theorem impl_claim.mono_l : ∀ k, (∀ y0 y1 y2 y3 y4, LeO (impl_claim.f k y0 y1 y2 y3 y4) (impl_claim.f (k + 1) y0 y1 y2 y3 y4))
  | 0 => fun _ _ _ _ _ r h => by simp [impl_claim.f] at h
  | k + 1 => by
    have ih0 := impl_claim.mono_l k
    · intro y0 y1 y2 y3 y4
      unfold impl_claim.f
      repeat' first
        | (with_reducible first | exact ih0 .. | exact impl_below.mono .. | exact LeO.refl _ | exact LeO.none _ | refine LeO.ite ?_ ?_ | refine LeO.bind ?_ (fun _ => ?_))
        | exact ih0 .. | exact impl_below.mono .. | exact LeO.none _ | refine LeO.ite ?_ ?_ | refine LeO.bind ?_ (fun _ => ?_)
theorem impl_claim.mono : ∀ a0 a1 a2 a3 a4 k, LeO (impl_claim.f k a0 a1 a2 a3 a4) (impl_claim.f (k + 1) a0 a1 a2 a3 a4) := by
  intro a0 a1 a2 a3 a4 k
  have ih0 := impl_claim.mono_l k
  exact ih0 a0 a1 a2 a3 a4
set_option maxHeartbeats 8000000 in
set_option maxRecDepth 100000 in
theorem impl_claim.calls (k : Nat) : ∀ (a0 : Int) (a1 : ByteArray) (a2 : Int) (a3 : Int) (A4 : Option Addr) (c4 : Nat) (l4 : List ByteArray) (r1 : ByteArray) (r2 : Bool) (w : World) (hG : GOK w) (hr4 : Kd.C Kd.string w A4 l4.length l4) (hc4 : l4.length ≤ c4) (h : impl_claim.f k a0 a1 a2 a3 l4 = some (r1, r2)),
    Calls Tryz.prog 50 #[.int .i64 a0, .string a1, .int .i64 a2, .int .i64 a3, .slice A4 l4.length c4] w fun e w' => e = .returned (.tuple #[.string r1, .bool r2]) ∧ Below w.heap.size w w' := by
  induction k using Nat.strongRecOn with
  | _ k ih =>
  intro a0 a1 a2 a3 A4 c4 l4 r1 r2 w hG hr4 hc4 h
  cases k with
  | zero => exact absurd h (by simp [impl_claim.f])
  | succ k =>
  simp only [impl_claim.f] at h; have HR4 := qK hr4; have HC4 := qK hc4; clear hr4 hc4; have HB := qK (Below.refl w.heap.size w); have H : (if a3 = 1 then ((impl_Leaf.f a0 a1).bind fun t385 => (some (t385, ((l4.length : Int) == 0)))) else (if (l4.length : Int) = 0 then (some ((⟨#[]⟩ : ByteArray), false)) else ((impl_below.f k a3).bind fun t386 => (if 0 ≤ (wrap64 ((l4.length : Int) - 1)) then (if (wrap64 ((l4.length : Int) - 1)) < (l4.length : Int) then (if (wrap64 ((l4.length : Int) - 1)) ≤ (l4.length : Int) then (if a2 < t386 then ((impl_claim.f k a0 a1 a2 t386 (l4.take ((wrap64 ((l4.length : Int) - 1)) : Int).toNat)).bind fun bt389 => ((impl_Node.f a0 bt389.1 (rdOf ByteArray.empty l4 (wrap64 ((l4.length : Int) - 1)))).bind fun t391 => (some (t391, bt389.2)))) else ((impl_claim.f k a0 a1 (wrap64 (a2 - t386)) (wrap64 (a3 - t386)) (l4.take ((wrap64 ((l4.length : Int) - 1)) : Int).toNat)).bind fun bt392 => ((impl_Node.f a0 (rdOf ByteArray.empty l4 (wrap64 ((l4.length : Int) - 1))) bt392.1).bind fun t394 => (some (t394, bt392.2))))) else (none)) else (none)) else (none))))) = some (r1, r2) := h; clear h; by_cases c6 : a3 = 1
  · rw [if_pos c6] at H; obtain ⟨c6b0, c6b1⟩ := qe c6; clear c6; obtain ⟨t385, A7, H⟩ := qbi H; simp only [Option.some.injEq, Prod.mk.injEq] at H; obtain ⟨rfl, rfl⟩ := H; go_enter Tryz.func50, Tryz.ntmps50; go_wp2_with (first | (go_at_call 37; (with_reducible refine (impl_Leaf.calls a0 a1 t385 _ ?_ A7.out).mono ?_); exact GOK.below hG qB; rintro e w8 ⟨rfl, hb⟩; replace HB := qHB HB hb; (try clear hb))); (repeat (go_quiet (first | (go_at_call 37; (with_reducible refine (impl_Leaf.calls a0 a1 t385 _ ?_ A7.out).mono ?_); exact GOK.below hG qB; rintro e w8 ⟨rfl, hb⟩; replace HB := qHB HB hb; (try clear hb))); try go_wp2_with (first | (go_at_call 37; (with_reducible refine (impl_Leaf.calls a0 a1 t385 _ ?_ A7.out).mono ?_); exact GOK.below hG qB; rintro e w8 ⟨rfl, hb⟩; replace HB := qHB HB hb; (try clear hb))))); go_ret2; exact ⟨qR, qB⟩
  · rw [if_neg c6] at H; obtain ⟨c6b0, c6b1⟩ := qn c6; by_cases c9 : (l4.length : Int) = 0
    · rw [if_pos c9] at H; obtain ⟨c9b0, c9b1⟩ := qe c9; clear c9; simp only [Option.some.injEq, Prod.mk.injEq] at H; obtain ⟨rfl, rfl⟩ := H; go_enter Tryz.func50, Tryz.ntmps50; go_wp2; (repeat (go_quiet (fail); try go_wp2)); go_ret2; exact ⟨qR, qB⟩
    · rw [if_neg c9] at H; obtain ⟨c9b0, c9b1⟩ := qn c9; have c9b2 : ¬ (l4 = []) := fun h_ => c9 (by rw [h_]; rfl); obtain ⟨t386, A10, H⟩ := qbi H; obtain ⟨ji11, hji11⟩ : ∃ j_ : Int, (wrap64 ((l4.length : Int) - 1)) = j_ := ⟨_, rfl⟩; (replace H : (if 0 ≤ (ji11) then (if (ji11) < (l4.length : Int) then (if (ji11) ≤ (l4.length : Int) then (if a2 < t386 then ((impl_claim.f k a0 a1 a2 t386 (l4.take ((ji11) : Int).toNat)).bind fun bt389 => ((impl_Node.f a0 bt389.1 (rdOf ByteArray.empty l4 (ji11))).bind fun t391 => (some (t391, bt389.2)))) else ((impl_claim.f k a0 a1 (wrap64 (a2 - t386)) (wrap64 (a3 - t386)) (l4.take ((ji11) : Int).toNat)).bind fun bt392 => ((impl_Node.f a0 (rdOf ByteArray.empty l4 (ji11)) bt392.1).bind fun t394 => (some (t394, bt392.2))))) else (none)) else (none)) else (none)) = some (r1, r2) := by first | (rw [hji11] at H; exact H) | (simp only [hji11] at H ⊢; exact H)); (try rw [hji11] at A10); have hji11w : (IntKind.i64.wrap ((l4.length : Int) - 1)) = ji11 := (i64_w _).trans hji11; by_cases c12 : 0 ≤ (ji11)
      · rw [if_pos c12] at H; have c12b0 := decide_eq_true c12; clear c12; by_cases c13 : (ji11) < (l4.length : Int)
        · rw [if_pos c13] at H; have c13b0 := decide_eq_true c13; clear c13; have c14b0 := eq_true (of_decide_eq_true qa : 0 ≤ (ji11)); by_cases c15 : (ji11) ≤ (l4.length : Int)
          · rw [if_pos c15] at H; have c15b0 := eq_true c15; have c15b1 := decide_eq_true c15; clear c15; by_cases c16 : a2 < t386
            · rw [if_pos c16] at H; have c16b0 := decide_eq_true c16; clear c16; obtain ⟨⟨t389, t390⟩, A17, H⟩ := qbi H; obtain ⟨t391, A18, H⟩ := qbi H; simp only [Option.some.injEq, Prod.mk.injEq] at H; obtain ⟨rfl, rfl⟩ := H; go_enter Tryz.func50, Tryz.ntmps50; go_wp2_with (first | (go_at_call 41; (with_reducible refine (impl_below.calls k a3 t386 _ A10.out).mono ?_); rintro e w' ⟨rfl, ⟨nd, rfl⟩⟩; (try first | exact ⟨rfl, _, World.drewN_drewN _ _ _⟩ | exact ⟨rfl, _, Eq.trans (World.drewN_drewN _ _ _) (congrArg (World.drewN _) (Nat.add_assoc _ _ _))⟩); have p387 : 0 ≤ ((ji11) : Int) := of_decide_eq_true qa; have q387 : (ji11) < (l4.length : Int) := of_decide_eq_true qa; obtain ⟨ad387, e387, hx387_0⟩ := Kd.at_string HR4.out (ji11) p387 q387; cases e387; replace p387 := eq_true p387; replace q387 := eq_true q387; obtain ⟨i019, hi019, _, hsz19, _⟩ := info_parts info9; obtain ⟨hcut19, hA19, hC19⟩ := print_take_of (P := Tryz.prog) Value.string (⟨#[]⟩ : ByteArray) 23 9 .i64 Tryz.underlying23 hi019 hsz19 (some ad387) c4 l4 (ji11) (of_decide_eq_true qa) (of_decide_eq_true qa) HC4.out; have HR388 := qK (Kd.C_of_reads (h1 := fun _ => rfl) (hA19 _ (Kd.reads_of_C HR4.out))); have HC388 := qK hC19; clear hA19 hC19 hi019 hsz19) | (go_at_call 50; refine calls_of_args (args' := #[.int .i64 a0, .string a1, .int .i64 a2, .int .i64 t386, .slice _ (l4.take ((ji11) : Int).toNat).length _]) (by rw [show (l4.take ((ji11) : Int).toNat).length = ((ji11) : Int).toNat from (by rw [List.length_take]; have h_ : ji11 ≤ (l4.length : Int) := of_decide_eq_true (by first | (with_reducible assumption) | assumption); omega)]) ?_; (with_reducible refine (ih k (by omega) a0 a1 a2 t386 _ _ (l4.take ((ji11) : Int).toNat) t389 t390 _ ?side1 ?side2 ?side3 A17.out).mono ?_); (case side1 => exact GOK.below hG qB); (case side2 => repeat (first | exact HR388.out | (with_reducible refine Kd.Cal ?_ _) | (with_reducible refine Kd.CdN ?_ _) | (with_reducible refine Kd.Cdr ?_))); (case side3 => exact HC388.out); rintro e w20 ⟨rfl, hb⟩; replace HB := qHB HB hb; (try clear hb)) | (go_at_call 29; (with_reducible refine (impl_Node.calls a0 t389 (rdOf ByteArray.empty l4 (ji11)) t391 _ ?_ A18.out).mono ?_); exact GOK.below hG qB; rintro e w21 ⟨rfl, hb⟩; replace HB := qHB HB hb; (try clear hb))); (repeat (go_quiet (first | (go_at_call 41; (with_reducible refine (impl_below.calls k a3 t386 _ A10.out).mono ?_); rintro e w' ⟨rfl, ⟨nd, rfl⟩⟩; (try first | exact ⟨rfl, _, World.drewN_drewN _ _ _⟩ | exact ⟨rfl, _, Eq.trans (World.drewN_drewN _ _ _) (congrArg (World.drewN _) (Nat.add_assoc _ _ _))⟩); have p387 : 0 ≤ ((ji11) : Int) := of_decide_eq_true qa; have q387 : (ji11) < (l4.length : Int) := of_decide_eq_true qa; obtain ⟨ad387, e387, hx387_0⟩ := Kd.at_string HR4.out (ji11) p387 q387; cases e387; replace p387 := eq_true p387; replace q387 := eq_true q387; obtain ⟨i019, hi019, _, hsz19, _⟩ := info_parts info9; obtain ⟨hcut19, hA19, hC19⟩ := print_take_of (P := Tryz.prog) Value.string (⟨#[]⟩ : ByteArray) 23 9 .i64 Tryz.underlying23 hi019 hsz19 (some ad387) c4 l4 (ji11) (of_decide_eq_true qa) (of_decide_eq_true qa) HC4.out; have HR388 := qK (Kd.C_of_reads (h1 := fun _ => rfl) (hA19 _ (Kd.reads_of_C HR4.out))); have HC388 := qK hC19; clear hA19 hC19 hi019 hsz19) | (go_at_call 50; refine calls_of_args (args' := #[.int .i64 a0, .string a1, .int .i64 a2, .int .i64 t386, .slice _ (l4.take ((ji11) : Int).toNat).length _]) (by rw [show (l4.take ((ji11) : Int).toNat).length = ((ji11) : Int).toNat from (by rw [List.length_take]; have h_ : ji11 ≤ (l4.length : Int) := of_decide_eq_true (by first | (with_reducible assumption) | assumption); omega)]) ?_; (with_reducible refine (ih k (by omega) a0 a1 a2 t386 _ _ (l4.take ((ji11) : Int).toNat) t389 t390 _ ?side1 ?side2 ?side3 A17.out).mono ?_); (case side1 => exact GOK.below hG qB); (case side2 => repeat (first | exact HR388.out | (with_reducible refine Kd.Cal ?_ _) | (with_reducible refine Kd.CdN ?_ _) | (with_reducible refine Kd.Cdr ?_))); (case side3 => exact HC388.out); rintro e w20 ⟨rfl, hb⟩; replace HB := qHB HB hb; (try clear hb)) | (go_at_call 29; (with_reducible refine (impl_Node.calls a0 t389 (rdOf ByteArray.empty l4 (ji11)) t391 _ ?_ A18.out).mono ?_); exact GOK.below hG qB; rintro e w21 ⟨rfl, hb⟩; replace HB := qHB HB hb; (try clear hb))); try go_wp2_with (first | (go_at_call 41; (with_reducible refine (impl_below.calls k a3 t386 _ A10.out).mono ?_); rintro e w' ⟨rfl, ⟨nd, rfl⟩⟩; (try first | exact ⟨rfl, _, World.drewN_drewN _ _ _⟩ | exact ⟨rfl, _, Eq.trans (World.drewN_drewN _ _ _) (congrArg (World.drewN _) (Nat.add_assoc _ _ _))⟩); have p387 : 0 ≤ ((ji11) : Int) := of_decide_eq_true qa; have q387 : (ji11) < (l4.length : Int) := of_decide_eq_true qa; obtain ⟨ad387, e387, hx387_0⟩ := Kd.at_string HR4.out (ji11) p387 q387; cases e387; replace p387 := eq_true p387; replace q387 := eq_true q387; obtain ⟨i019, hi019, _, hsz19, _⟩ := info_parts info9; obtain ⟨hcut19, hA19, hC19⟩ := print_take_of (P := Tryz.prog) Value.string (⟨#[]⟩ : ByteArray) 23 9 .i64 Tryz.underlying23 hi019 hsz19 (some ad387) c4 l4 (ji11) (of_decide_eq_true qa) (of_decide_eq_true qa) HC4.out; have HR388 := qK (Kd.C_of_reads (h1 := fun _ => rfl) (hA19 _ (Kd.reads_of_C HR4.out))); have HC388 := qK hC19; clear hA19 hC19 hi019 hsz19) | (go_at_call 50; refine calls_of_args (args' := #[.int .i64 a0, .string a1, .int .i64 a2, .int .i64 t386, .slice _ (l4.take ((ji11) : Int).toNat).length _]) (by rw [show (l4.take ((ji11) : Int).toNat).length = ((ji11) : Int).toNat from (by rw [List.length_take]; have h_ : ji11 ≤ (l4.length : Int) := of_decide_eq_true (by first | (with_reducible assumption) | assumption); omega)]) ?_; (with_reducible refine (ih k (by omega) a0 a1 a2 t386 _ _ (l4.take ((ji11) : Int).toNat) t389 t390 _ ?side1 ?side2 ?side3 A17.out).mono ?_); (case side1 => exact GOK.below hG qB); (case side2 => repeat (first | exact HR388.out | (with_reducible refine Kd.Cal ?_ _) | (with_reducible refine Kd.CdN ?_ _) | (with_reducible refine Kd.Cdr ?_))); (case side3 => exact HC388.out); rintro e w20 ⟨rfl, hb⟩; replace HB := qHB HB hb; (try clear hb)) | (go_at_call 29; (with_reducible refine (impl_Node.calls a0 t389 (rdOf ByteArray.empty l4 (ji11)) t391 _ ?_ A18.out).mono ?_); exact GOK.below hG qB; rintro e w21 ⟨rfl, hb⟩; replace HB := qHB HB hb; (try clear hb))))); go_ret2; exact ⟨by first | rfl | (simp [eWn, eWs] <;> rfl) | (simp only [← hji11]; first | rfl | (simp [eWn, eWs] <;> rfl)) | (simp [*, eWn, eWs] <;> rfl), qB⟩
            · rw [if_neg c16] at H; have c16b0 := decide_eq_false c16; clear c16; obtain ⟨⟨t392, t393⟩, A22, H⟩ := qbi H; obtain ⟨t394, A23, H⟩ := qbi H; simp only [Option.some.injEq, Prod.mk.injEq] at H; obtain ⟨rfl, rfl⟩ := H; go_enter Tryz.func50, Tryz.ntmps50; go_wp2_with (first | (go_at_call 41; (with_reducible refine (impl_below.calls k a3 t386 _ A10.out).mono ?_); rintro e w' ⟨rfl, ⟨nd, rfl⟩⟩; (try first | exact ⟨rfl, _, World.drewN_drewN _ _ _⟩ | exact ⟨rfl, _, Eq.trans (World.drewN_drewN _ _ _) (congrArg (World.drewN _) (Nat.add_assoc _ _ _))⟩); have p387 : 0 ≤ ((ji11) : Int) := of_decide_eq_true qa; have q387 : (ji11) < (l4.length : Int) := of_decide_eq_true qa; obtain ⟨ad387, e387, hx387_0⟩ := Kd.at_string HR4.out (ji11) p387 q387; cases e387; replace p387 := eq_true p387; replace q387 := eq_true q387; obtain ⟨i024, hi024, _, hsz24, _⟩ := info_parts info9; obtain ⟨hcut24, hA24, hC24⟩ := print_take_of (P := Tryz.prog) Value.string (⟨#[]⟩ : ByteArray) 23 9 .i64 Tryz.underlying23 hi024 hsz24 (some ad387) c4 l4 (ji11) (of_decide_eq_true qa) (of_decide_eq_true qa) HC4.out; have HR388 := qK (Kd.C_of_reads (h1 := fun _ => rfl) (hA24 _ (Kd.reads_of_C HR4.out))); have HC388 := qK hC24; clear hA24 hC24 hi024 hsz24) | (go_at_call 50; refine calls_of_args (args' := #[.int .i64 a0, .string a1, .int .i64 (wrap64 (a2 - t386)), .int .i64 (wrap64 (a3 - t386)), .slice _ (l4.take ((ji11) : Int).toNat).length _]) (by rw [show (l4.take ((ji11) : Int).toNat).length = ((ji11) : Int).toNat from (by rw [List.length_take]; have h_ : ji11 ≤ (l4.length : Int) := of_decide_eq_true (by first | (with_reducible assumption) | assumption); omega)]) ?_; (with_reducible refine (ih k (by omega) a0 a1 (wrap64 (a2 - t386)) (wrap64 (a3 - t386)) _ _ (l4.take ((ji11) : Int).toNat) t392 t393 _ ?side1 ?side2 ?side3 A22.out).mono ?_); (case side1 => exact GOK.below hG qB); (case side2 => repeat (first | exact HR388.out | (with_reducible refine Kd.Cal ?_ _) | (with_reducible refine Kd.CdN ?_ _) | (with_reducible refine Kd.Cdr ?_))); (case side3 => exact HC388.out); rintro e w25 ⟨rfl, hb⟩; replace HB := qHB HB hb; (try clear hb)) | (go_at_call 29; (with_reducible refine (impl_Node.calls a0 (rdOf ByteArray.empty l4 (ji11)) t392 t394 _ ?_ A23.out).mono ?_); exact GOK.below hG qB; rintro e w26 ⟨rfl, hb⟩; replace HB := qHB HB hb; (try clear hb))); (repeat (go_quiet (first | (go_at_call 41; (with_reducible refine (impl_below.calls k a3 t386 _ A10.out).mono ?_); rintro e w' ⟨rfl, ⟨nd, rfl⟩⟩; (try first | exact ⟨rfl, _, World.drewN_drewN _ _ _⟩ | exact ⟨rfl, _, Eq.trans (World.drewN_drewN _ _ _) (congrArg (World.drewN _) (Nat.add_assoc _ _ _))⟩); have p387 : 0 ≤ ((ji11) : Int) := of_decide_eq_true qa; have q387 : (ji11) < (l4.length : Int) := of_decide_eq_true qa; obtain ⟨ad387, e387, hx387_0⟩ := Kd.at_string HR4.out (ji11) p387 q387; cases e387; replace p387 := eq_true p387; replace q387 := eq_true q387; obtain ⟨i024, hi024, _, hsz24, _⟩ := info_parts info9; obtain ⟨hcut24, hA24, hC24⟩ := print_take_of (P := Tryz.prog) Value.string (⟨#[]⟩ : ByteArray) 23 9 .i64 Tryz.underlying23 hi024 hsz24 (some ad387) c4 l4 (ji11) (of_decide_eq_true qa) (of_decide_eq_true qa) HC4.out; have HR388 := qK (Kd.C_of_reads (h1 := fun _ => rfl) (hA24 _ (Kd.reads_of_C HR4.out))); have HC388 := qK hC24; clear hA24 hC24 hi024 hsz24) | (go_at_call 50; refine calls_of_args (args' := #[.int .i64 a0, .string a1, .int .i64 (wrap64 (a2 - t386)), .int .i64 (wrap64 (a3 - t386)), .slice _ (l4.take ((ji11) : Int).toNat).length _]) (by rw [show (l4.take ((ji11) : Int).toNat).length = ((ji11) : Int).toNat from (by rw [List.length_take]; have h_ : ji11 ≤ (l4.length : Int) := of_decide_eq_true (by first | (with_reducible assumption) | assumption); omega)]) ?_; (with_reducible refine (ih k (by omega) a0 a1 (wrap64 (a2 - t386)) (wrap64 (a3 - t386)) _ _ (l4.take ((ji11) : Int).toNat) t392 t393 _ ?side1 ?side2 ?side3 A22.out).mono ?_); (case side1 => exact GOK.below hG qB); (case side2 => repeat (first | exact HR388.out | (with_reducible refine Kd.Cal ?_ _) | (with_reducible refine Kd.CdN ?_ _) | (with_reducible refine Kd.Cdr ?_))); (case side3 => exact HC388.out); rintro e w25 ⟨rfl, hb⟩; replace HB := qHB HB hb; (try clear hb)) | (go_at_call 29; (with_reducible refine (impl_Node.calls a0 (rdOf ByteArray.empty l4 (ji11)) t392 t394 _ ?_ A23.out).mono ?_); exact GOK.below hG qB; rintro e w26 ⟨rfl, hb⟩; replace HB := qHB HB hb; (try clear hb))); try go_wp2_with (first | (go_at_call 41; (with_reducible refine (impl_below.calls k a3 t386 _ A10.out).mono ?_); rintro e w' ⟨rfl, ⟨nd, rfl⟩⟩; (try first | exact ⟨rfl, _, World.drewN_drewN _ _ _⟩ | exact ⟨rfl, _, Eq.trans (World.drewN_drewN _ _ _) (congrArg (World.drewN _) (Nat.add_assoc _ _ _))⟩); have p387 : 0 ≤ ((ji11) : Int) := of_decide_eq_true qa; have q387 : (ji11) < (l4.length : Int) := of_decide_eq_true qa; obtain ⟨ad387, e387, hx387_0⟩ := Kd.at_string HR4.out (ji11) p387 q387; cases e387; replace p387 := eq_true p387; replace q387 := eq_true q387; obtain ⟨i024, hi024, _, hsz24, _⟩ := info_parts info9; obtain ⟨hcut24, hA24, hC24⟩ := print_take_of (P := Tryz.prog) Value.string (⟨#[]⟩ : ByteArray) 23 9 .i64 Tryz.underlying23 hi024 hsz24 (some ad387) c4 l4 (ji11) (of_decide_eq_true qa) (of_decide_eq_true qa) HC4.out; have HR388 := qK (Kd.C_of_reads (h1 := fun _ => rfl) (hA24 _ (Kd.reads_of_C HR4.out))); have HC388 := qK hC24; clear hA24 hC24 hi024 hsz24) | (go_at_call 50; refine calls_of_args (args' := #[.int .i64 a0, .string a1, .int .i64 (wrap64 (a2 - t386)), .int .i64 (wrap64 (a3 - t386)), .slice _ (l4.take ((ji11) : Int).toNat).length _]) (by rw [show (l4.take ((ji11) : Int).toNat).length = ((ji11) : Int).toNat from (by rw [List.length_take]; have h_ : ji11 ≤ (l4.length : Int) := of_decide_eq_true (by first | (with_reducible assumption) | assumption); omega)]) ?_; (with_reducible refine (ih k (by omega) a0 a1 (wrap64 (a2 - t386)) (wrap64 (a3 - t386)) _ _ (l4.take ((ji11) : Int).toNat) t392 t393 _ ?side1 ?side2 ?side3 A22.out).mono ?_); (case side1 => exact GOK.below hG qB); (case side2 => repeat (first | exact HR388.out | (with_reducible refine Kd.Cal ?_ _) | (with_reducible refine Kd.CdN ?_ _) | (with_reducible refine Kd.Cdr ?_))); (case side3 => exact HC388.out); rintro e w25 ⟨rfl, hb⟩; replace HB := qHB HB hb; (try clear hb)) | (go_at_call 29; (with_reducible refine (impl_Node.calls a0 (rdOf ByteArray.empty l4 (ji11)) t392 t394 _ ?_ A23.out).mono ?_); exact GOK.below hG qB; rintro e w26 ⟨rfl, hb⟩; replace HB := qHB HB hb; (try clear hb))))); go_ret2; exact ⟨by first | rfl | (simp [eWn, eWs] <;> rfl) | (simp only [← hji11]; first | rfl | (simp [eWn, eWs] <;> rfl)) | (simp [*, eWn, eWs] <;> rfl), qB⟩
          · rw [if_neg c15] at H; exact absurd H (by simp)
        · rw [if_neg c13] at H; exact absurd H (by simp)
      · rw [if_neg c12] at H; exact absurd H (by simp)
def impl_CheckPath.f (k : Nat) (a0 : Int) (a1 : ByteArray) (a2 : Int) (a3 : Int) (a4 : ByteArray) (l5 : List ByteArray) : Option (Bool) := if a3 > 2147483648 then (some false) else (if a2 < 0 then (some false) else (if a2 ≥ a3 then (some false) else ((impl_widths.f k a0 l5).bind fun t395 => (if t395 = true then (if (l5.length : Int) > 64 then (some false) else ((impl_claim.f k a0 a1 a2 a3 l5).bind fun bt396 => (if bt396.2 = true then (some (bt396.1.toList == a4.toList)) else (some false)))) else (some false)))))
theorem impl_CheckPath.mono : ∀ a0 a1 a2 a3 a4 a5 k, LeO (impl_CheckPath.f k a0 a1 a2 a3 a4 a5) (impl_CheckPath.f (k + 1) a0 a1 a2 a3 a4 a5) := by
  intro a0 a1 a2 a3 a4 a5 k
  unfold impl_CheckPath.f
  repeat' first
    | (with_reducible first | exact impl_claim.mono .. | exact impl_widths.mono .. | exact LeO.refl _ | exact LeO.none _ | refine LeO.ite ?_ ?_ | refine LeO.bind ?_ (fun _ => ?_))
    | exact impl_claim.mono .. | exact impl_widths.mono .. | exact LeO.none _ | refine LeO.ite ?_ ?_ | refine LeO.bind ?_ (fun _ => ?_)
set_option maxHeartbeats 8000000 in
set_option maxRecDepth 100000 in
theorem impl_CheckPath.calls (k : Nat) (a0 : Int) (a1 : ByteArray) (a2 : Int) (a3 : Int) (a4 : ByteArray) (A5 : Option Addr) (c5 : Nat) (l5 : List ByteArray) (r : Bool) (w : World) (hG : GOK w) (hr5 : Kd.C Kd.string w A5 l5.length l5) (hc5 : l5.length ≤ c5) (h : impl_CheckPath.f k a0 a1 a2 a3 a4 l5 = some r) :
    Calls Tryz.prog 15 #[.int .i64 a0, .string a1, .int .i64 a2, .int .i64 a3, .string a4, .slice A5 l5.length c5] w fun e w' => e = .returned (.bool r) ∧ Below w.heap.size w w' := by
  have HR5 := qK hr5; have HC5 := qK hc5; clear hr5 hc5; have HB := qK (Below.refl w.heap.size w); have H : (if a3 > 2147483648 then (some false) else (if a2 < 0 then (some false) else (if a2 ≥ a3 then (some false) else ((impl_widths.f k a0 l5).bind fun t395 => (if t395 = true then (if (l5.length : Int) > 64 then (some false) else ((impl_claim.f k a0 a1 a2 a3 l5).bind fun bt396 => (if bt396.2 = true then (some (bt396.1.toList == a4.toList)) else (some false)))) else (some false)))))) = some r := h; clear h; by_cases c7 : a3 > 2147483648
  · rw [if_pos c7] at H; have c7b0 : decide (2147483648 < a3) = true := decide_eq_true c7; clear c7; obtain rfl := qsi H; go_enter Tryz.func15, Tryz.ntmps15; go_wp2; go_ret; exact ⟨qR, qB⟩
  · rw [if_neg c7] at H; have c7b0 : decide (2147483648 < a3) = false := decide_eq_false c7; clear c7; by_cases c8 : a2 < 0
    · rw [if_pos c8] at H; have c8b0 := decide_eq_true c8; clear c8; obtain rfl := qsi H; go_enter Tryz.func15, Tryz.ntmps15; go_wp2; go_ret; exact ⟨qR, qB⟩
    · rw [if_neg c8] at H; have c8b0 := decide_eq_false c8; clear c8; by_cases c9 : a2 ≥ a3
      · rw [if_pos c9] at H; have c9b0 : decide (a3 ≤ a2) = true := decide_eq_true c9; clear c9; obtain rfl := qsi H; go_enter Tryz.func15, Tryz.ntmps15; go_wp2; go_ret; exact ⟨qR, qB⟩
      · rw [if_neg c9] at H; have c9b0 : decide (a3 ≤ a2) = false := decide_eq_false c9; clear c9; obtain ⟨t395, A10, H⟩ := qbi H; by_cases c11 : t395 = true
        · subst c11; rw [if_pos rfl] at H; by_cases c12 : (l5.length : Int) > 64
          · rw [if_pos c12] at H; have c12b0 : decide (64 < (l5.length : Int)) = true := decide_eq_true c12; have c12b1 : decide (64 < l5.length) = true := decide_eq_true (by omega); clear c12; obtain rfl := qsi H; go_enter Tryz.func15, Tryz.ntmps15; go_wp2_with (first | (go_at_call 49; (with_reducible refine (impl_widths.calls k a0 _ _ l5 true _ ?side1 ?side2 A10.out).mono ?_); (case side1 => repeat (first | exact HR5.out | (with_reducible refine Kd.Cal ?_ _) | (with_reducible refine Kd.CdN ?_ _) | (with_reducible refine Kd.Cdr ?_))); (case side2 => exact HC5.out); rintro e w' ⟨rfl, ⟨nd, rfl⟩⟩)); go_ret; exact ⟨qR, qB⟩
          · rw [if_neg c12] at H; have c12b0 : decide (64 < (l5.length : Int)) = false := decide_eq_false c12; have c12b1 : decide (64 < l5.length) = false := decide_eq_false (by omega); clear c12; obtain ⟨⟨t396, t397⟩, A13, H⟩ := qbi H; by_cases c14 : t397 = true
            · subst c14; rw [if_pos rfl] at H; obtain rfl := qsi H; go_enter Tryz.func15, Tryz.ntmps15; go_wp2_with (first | (go_at_call 49; (with_reducible refine (impl_widths.calls k a0 _ _ l5 true _ ?side1 ?side2 A10.out).mono ?_); (case side1 => repeat (first | exact HR5.out | (with_reducible refine Kd.Cal ?_ _) | (with_reducible refine Kd.CdN ?_ _) | (with_reducible refine Kd.Cdr ?_))); (case side2 => exact HC5.out); rintro e w' ⟨rfl, ⟨nd, rfl⟩⟩) | ((with_reducible refine gcl (f := 50) rfl ?_); refine gL 43 Tryz.func50 #[.int .i64 a0, .string a1, .int .i64 a2, .int .i64 a3, .slice A5 l5.length c5] ?_; (with_reducible refine (impl_claim.calls k a0 a1 a2 a3 _ _ l5 t396 true _ ?side1 ?side2 ?side3 A13.out).mono ?_); (case side1 => exact GOK.below hG qB); (case side2 => repeat (first | exact HR5.out | (with_reducible refine Kd.Cal ?_ _) | (with_reducible refine Kd.CdN ?_ _) | (with_reducible refine Kd.Cdr ?_))); (case side3 => exact HC5.out); rintro e w15 ⟨rfl, hb⟩; refine ⟨_, rfl, ?_⟩; replace HB := qHB HB hb; (try clear hb))); go_ret; exact ⟨qR, qB⟩
            · replace c14 := Bool.eq_false_iff.mpr c14; subst c14; rw [if_neg qff] at H; obtain rfl := qsi H; go_enter Tryz.func15, Tryz.ntmps15; go_wp2_with (first | (go_at_call 49; (with_reducible refine (impl_widths.calls k a0 _ _ l5 true _ ?side1 ?side2 A10.out).mono ?_); (case side1 => repeat (first | exact HR5.out | (with_reducible refine Kd.Cal ?_ _) | (with_reducible refine Kd.CdN ?_ _) | (with_reducible refine Kd.Cdr ?_))); (case side2 => exact HC5.out); rintro e w' ⟨rfl, ⟨nd, rfl⟩⟩) | ((with_reducible refine gcl (f := 50) rfl ?_); refine gL 43 Tryz.func50 #[.int .i64 a0, .string a1, .int .i64 a2, .int .i64 a3, .slice A5 l5.length c5] ?_; (with_reducible refine (impl_claim.calls k a0 a1 a2 a3 _ _ l5 t396 false _ ?side1 ?side2 ?side3 A13.out).mono ?_); (case side1 => exact GOK.below hG qB); (case side2 => repeat (first | exact HR5.out | (with_reducible refine Kd.Cal ?_ _) | (with_reducible refine Kd.CdN ?_ _) | (with_reducible refine Kd.Cdr ?_))); (case side3 => exact HC5.out); rintro e w16 ⟨rfl, hb⟩; refine ⟨_, rfl, ?_⟩; replace HB := qHB HB hb; (try clear hb))); go_ret; exact ⟨qR, qB⟩
        · replace c11 := Bool.eq_false_iff.mpr c11; subst c11; rw [if_neg qff] at H; obtain rfl := qsi H; go_enter Tryz.func15, Tryz.ntmps15; go_wp2_with (first | (go_at_call 49; (with_reducible refine (impl_widths.calls k a0 _ _ l5 false _ ?side1 ?side2 A10.out).mono ?_); (case side1 => repeat (first | exact HR5.out | (with_reducible refine Kd.Cal ?_ _) | (with_reducible refine Kd.CdN ?_ _) | (with_reducible refine Kd.Cdr ?_))); (case side2 => exact HC5.out); rintro e w' ⟨rfl, ⟨nd, rfl⟩⟩)); go_ret; exact ⟨qR, qB⟩
def impl_leafText.f (a0 : ByteArray) : Option (ByteArray) := if 1 + a0.size ≤ 9223372036854775807 then (some ((⟨#[0]⟩ : ByteArray) ++ a0)) else (none)
set_option maxHeartbeats 8000000 in
set_option maxRecDepth 100000 in
theorem impl_leafText.calls (a0 : ByteArray) (r : ByteArray) (w : World) (h : impl_leafText.f a0 = some r) :
    Calls Tryz.prog 53 #[.string a0] w fun e w' => e = .returned (.string r) ∧ Drawn0 w w' := by
  have H : (if 1 + a0.size ≤ 9223372036854775807 then (some ((⟨#[0]⟩ : ByteArray) ++ a0)) else (none)) = some r := h; clear h; by_cases c2 : 1 + a0.size ≤ 9223372036854775807
  · rw [if_pos c2] at H; have c2b0 := eq_true c2; have c2b1 := decide_eq_true c2; (try have c2b2 : (9223372036854775807 < 1 + a0.size) = False := eq_false (Nat.not_lt.2 c2)); obtain rfl := qsi H; go_enter Tryz.func53, Tryz.ntmps53; go_wp2; go_ret; exact ⟨by first | rfl | (simp; done) | (simp [*]; done), by repeat (first | exact Drawn0.refl _ | apply Drawn0.step)⟩
  · rw [if_neg c2] at H; exact absurd H (by simp)
def impl_nodeText.f (a0 : ByteArray) (a1 : ByteArray) : Option (ByteArray) := if 1 + a0.size ≤ 9223372036854775807 then (if ((⟨#[1]⟩ : ByteArray) ++ a0).size + a1.size ≤ 9223372036854775807 then (some (((⟨#[1]⟩ : ByteArray) ++ a0) ++ a1)) else (none)) else (none)
set_option maxHeartbeats 8000000 in
set_option maxRecDepth 100000 in
theorem impl_nodeText.calls (a0 : ByteArray) (a1 : ByteArray) (r : ByteArray) (w : World) (h : impl_nodeText.f a0 a1 = some r) :
    Calls Tryz.prog 54 #[.string a0, .string a1] w fun e w' => e = .returned (.string r) ∧ Drawn0 w w' := by
  have H : (if 1 + a0.size ≤ 9223372036854775807 then (if ((⟨#[1]⟩ : ByteArray) ++ a0).size + a1.size ≤ 9223372036854775807 then (some (((⟨#[1]⟩ : ByteArray) ++ a0) ++ a1)) else (none)) else (none)) = some r := h; clear h; by_cases c3 : 1 + a0.size ≤ 9223372036854775807
  · rw [if_pos c3] at H; have c3b0 := eq_true c3; have c3b1 := decide_eq_true c3; (try have c3b2 : (9223372036854775807 < 1 + a0.size) = False := eq_false (Nat.not_lt.2 c3)); by_cases c4 : ((⟨#[1]⟩ : ByteArray) ++ a0).size + a1.size ≤ 9223372036854775807
    · rw [if_pos c4] at H; have c4b0 := eq_true c4; have c4b1 := decide_eq_true c4; (try have c4b2 : (9223372036854775807 < ((⟨#[1]⟩ : ByteArray) ++ a0).size + a1.size) = False := eq_false (Nat.not_lt.2 c4)); obtain rfl := qsi H; go_enter Tryz.func54, Tryz.ntmps54; go_wp2; go_ret; exact ⟨by first | rfl | (simp; done) | (simp [*]; done), by repeat (first | exact Drawn0.refl _ | apply Drawn0.step)⟩
    · rw [if_neg c4] at H; exact absurd H (by simp)
  · rw [if_neg c3] at H; exact absurd H (by simp)
def impl_halves.f (k : Nat) (a0 : Int) (l1 : List ByteArray) : Option (ByteArray) := (impl_below.f k (l1.length : Int)).bind fun t398 => (if 0 ≤ t398 then (if t398 ≤ (l1.length : Int) then ((impl_Root.f k a0 (l1.take (t398 : Int).toNat)).bind fun t400 => ((impl_Root.f k a0 (l1.drop (t398 : Int).toNat)).bind fun t402 => ((impl_nodeText.f t400 t402).bind fun t403 => (some t403)))) else (none)) else (none))
theorem impl_halves.mono : ∀ a0 a1 k, LeO (impl_halves.f k a0 a1) (impl_halves.f (k + 1) a0 a1) := by
  intro a0 a1 k
  unfold impl_halves.f
  repeat' first
    | (with_reducible first | exact impl_Root.mono .. | exact impl_below.mono .. | exact LeO.refl _ | exact LeO.none _ | refine LeO.ite ?_ ?_ | refine LeO.bind ?_ (fun _ => ?_))
    | exact impl_Root.mono .. | exact impl_below.mono .. | exact LeO.none _ | refine LeO.ite ?_ ?_ | refine LeO.bind ?_ (fun _ => ?_)
def impl_halves.T2 : Bool × List (List Nat × List Nat) := (true, [([], []), ([], []), ([], []), ([1, 2], [1, 2]), ([0, 3], [0, 3]), ([], []), ([], []), ([], []), ([6, 7], [6, 7]), ([5, 8, 4], [5, 8]), ([4, 9, 9], [4, 9]), ([10, 10, 0, 1, 2, 3, 4, 5, 6, 7, 8, 9, 10], [10])])
def impl_halves.B2 : List Nat := [0, 0, 0, 6, 15, 0, 0, 0, 192, 511, 1023, 2047]
theorem impl_halves.tab2 : rtab .any (opsOf Tryz.f55 2) = impl_halves.T2 := by kernel_rfl
theorem impl_halves.bits2 : waitsOk impl_halves.T2.2 impl_halves.B2 = true := by kernel_rfl
set_option maxHeartbeats 8000000 in
set_option maxRecDepth 100000 in
theorem impl_halves.calls (k : Nat) (a0 : Int) (A1 : Option Addr) (c1 : Nat) (l1 : List ByteArray) (r : ByteArray) (w : World) (hG : GOK w) (hr1 : Kd.C Kd.string w A1 l1.length l1) (hc1 : l1.length ≤ c1) (h : impl_halves.f k a0 l1 = some r) :
    Calls Tryz.prog 55 #[.int .i64 a0, .slice A1 l1.length c1] w fun e w' => e = .returned (.string r) ∧ Below w.heap.size w w' := by
  have HR1 := qK hr1; have HC1 := qK hc1; clear hr1 hc1; have HB := qK (Below.refl w.heap.size w); have H : ((impl_below.f k (l1.length : Int)).bind fun t398 => (if 0 ≤ t398 then (if t398 ≤ (l1.length : Int) then ((impl_Root.f k a0 (l1.take (t398 : Int).toNat)).bind fun t400 => ((impl_Root.f k a0 (l1.drop (t398 : Int).toNat)).bind fun t402 => ((impl_nodeText.f t400 t402).bind fun t403 => (some t403)))) else (none)) else (none))) = some r := h; clear h; obtain ⟨t398, A3, H⟩ := qbi H; by_cases c4 : 0 ≤ t398
  · rw [if_pos c4] at H; have c4b0 := eq_true c4; have c4b1 := decide_eq_true c4; clear c4; by_cases c5 : t398 ≤ (l1.length : Int)
    · rw [if_pos c5] at H; have c5b0 := eq_true c5; have c5b1 := decide_eq_true c5; clear c5; obtain ⟨t400, A6, H⟩ := qbi H; have c7b0 := eq_true (of_decide_eq_true qa : 0 ≤ t398); have c8b0 := eq_true (of_decide_eq_true qa : t398 ≤ (l1.length : Int)); obtain ⟨t402, A9, H⟩ := qbi H; obtain ⟨t403, A10, H⟩ := qbi H; obtain rfl := qsi H; go_enter Tryz.func55, Tryz.ntmps55; (try go_wp2_with (first | ((with_reducible refine gcl (f := 41) rfl ?_); refine gL 8 Tryz.func41 #[.int .i64 (l1.length : Int)] ?_; (with_reducible refine (impl_below.calls k (l1.length : Int) t398 _ A3.out).mono ?_); rintro e w' ⟨rfl, ⟨nd, rfl⟩⟩; refine ⟨_, rfl, ?_⟩))); replace HB := qK (bd1 (pbd HB.out nd)); obtain ⟨i012, hi012, _, hsz12, _⟩ := info_parts info9; obtain ⟨hcut12, hA12, hC12⟩ := print_take_of (P := Tryz.prog) Value.string (⟨#[]⟩ : ByteArray) 23 9 .i64 Tryz.underlying23 hi012 hsz12 A1 c1 l1 t398 (of_decide_eq_true qa) (of_decide_eq_true qa) HC1.out; have HR399 := qK (Kd.C_of_reads (h1 := fun _ => rfl) (hA12 _ (Kd.reads_of_C HR1.out))); have HC399 := qK hC12; clear hA12 hC12 hi012 hsz12; obtain ⟨i013, hi013, _, hsz13, _⟩ := info_parts info9; obtain ⟨A13, hcut13, hA13, hC13⟩ := print_drop_of (P := Tryz.prog) Value.string (⟨#[]⟩ : ByteArray) 23 9 .i64 Tryz.underlying23 hi013 hsz13 A1 c1 l1 t398 (of_decide_eq_true qa) (of_decide_eq_true qa) HC1.out; have HR401 := qK (Kd.C_of_reads (h1 := fun _ => rfl) (hA13 _ (Kd.reads_of_C HR1.out))); have HC401 := qK hC13; clear hA13 hC13 hi013 hsz13; refine qs 12 (fun w' => True) (ds := []) trivial (fun hHeld => ?_); refine with_tabW impl_halves.tab2 impl_halves.bits2 (fun HT_ HW_ => ?_); generalize (w.drewN nd).drew = w11 at HB HR399 HR401 hHeld ⊢; refine qp 0 9 ?_; refine qp 1 10 ?_; refine qp 2 11 ?_; refine qp 3 12 ?_; refine qp 5 14 ?_; refine qp 6 15 ?_; refine qp 7 16 ?_; refine qp 8 17 ?_; refine qo 4 13 (fun K hK => ?_); refine goes_ Tryz.func12 (by kernel_rfl) rfl #[.int .i64 a0, .slice A1 (l1.take (t398 : Int).toNat).length c1] (by rfl) rfl rfl (by (try simp only [List.map_toArray, List.map_cons, List.map_nil]); first | done | (rw [show (l1.take (t398 : Int).toNat).length = t398.toNat from (by rw [List.length_take]; have h_ : (t398 : Int) ≤ (l1.length : Int) := of_decide_eq_true qa; omega)] <;> rfl) | rfl | (simp only [List.length_drop, List.length_take]; rfl)) ?_; (with_reducible refine (impl_Root.calls k a0 _ _ (l1.take (t398 : Int).toNat) t400 _ ?side1 ?side2 ?side3 A6.out).mono ?_); (case side1 => exact GOK.below hG qB); (case side2 => exact qC HR399); (case side3 => exact HC399.out); rintro e w14 ⟨rfl, hb⟩; refine ⟨_, rfl, ?_⟩; replace HB := qHB HB hb; (try clear hb); refine hK.out _ _ trivial (fun hHeld => ?_); clear hK K; refine norm_ (a' := ?_) ?_ ?_; rotate_left
      · show Act.put _ (some 13) _ = _; simp only [Act.put, List.setIfInBounds_toArray, List.set_cons_zero, List.set_cons_succ, i64_w, i32_w]; rfl
      refine qo 9 18 (fun K hK => ?_); refine goes_ Tryz.func12 (by kernel_rfl) rfl #[.int .i64 a0, .slice A13 (l1.drop (t398 : Int).toNat).length (c1 - t398.toNat)] (by rfl) rfl rfl (by (try simp only [List.map_toArray, List.map_cons, List.map_nil]); first | done | (rw [show (l1.drop (t398 : Int).toNat).length = (l1.length - t398.toNat) from List.length_drop] <;> rfl) | rfl | (simp only [List.length_drop, List.length_take]; rfl)) ?_; (with_reducible refine (impl_Root.calls k a0 _ _ (l1.drop (t398 : Int).toNat) t402 _ ?side1 ?side2 ?side3 A9.out).mono ?_); (case side1 => exact GOK.below hG qB); (case side2 => exact qC HR401); (case side3 => exact HC401.out); rintro e w15 ⟨rfl, hb⟩; refine ⟨_, rfl, ?_⟩; replace HB := qHB HB hb; (try clear hb); refine hK.out _ _ trivial (fun hHeld => ?_); clear hK K; refine norm_ (a' := ?_) ?_ ?_; rotate_left
      · show Act.put _ (some 18) _ = _; simp only [Act.put, List.setIfInBounds_toArray, List.set_cons_zero, List.set_cons_succ, i64_w, i32_w]; rfl
      refine qo 10 19 (fun K hK => ?_); refine gG Tryz.func54 #[.string t400, .string t402] ?_; (with_reducible refine (impl_nodeText.calls t400 t402 t403 _ A10.out).mono ?_); rintro e w' ⟨rfl, ⟨nd, rfl⟩⟩; refine ⟨_, rfl, ?_⟩; refine hK.out _ _ trivial (fun hHeld => ?_); clear hK K; refine norm_ (a' := ?_) ?_ ?_; rotate_left
      · show Act.put _ (some 19) _ = _; simp only [Act.put, List.setIfInBounds_toArray, List.set_cons_zero, List.set_cons_succ, i64_w, i32_w]; rfl
      refine qp 11 4 ?_; refine done_ (done_of HT_.out (by kernel_rfl)) ?_; (try go_wp2); go_ret; exact ⟨qR, qB⟩
    · rw [if_neg c5] at H; exact absurd H (by simp)
  · rw [if_neg c4] at H; exact absurd H (by simp)
end Go.Proofs.YtajkbbifemeanaaGreatDoor.L
end
section
set_option linter.unusedVariables false
set_option linter.unusedSimpArgs false
namespace Go.Proofs.YtajkbbifemeanaaGreatDoor.L
open Go Go.RowKit Go.Lib Go.Proofs Go.Extern Go.Extern.Stop Go.Stop Go.Proofs.YtajkbbifemeanaaGreatDoor Go.Proofs.YtajkbbifemeanaaGreatDoorW.PrintWords Go.Proofs.YtajkbbifemeanaaGreatDoorW.PrintLast Go.Proofs.YtajkbbifemeanaaGreatDoorW.PrintMore
abbrev TC : TypeId := 134
abbrev TPC : TypeId := 136
abbrev TRT : TypeId := 198
/-- A type's handle. -/
abbrev hnd (t : Nat) : Value := .pointer (some ⟨2, t, none⟩)
section
variable (w : World) (x y : Value) (g gc gb : Nat)
theorem c_valueOfP (p : Value) : (ReflectliteValue.unpack (.iface TPC (.pointer (some ⟨gc, 0, none⟩)))).run Tryz.prog w = .ok (.agg #[hnd TPC, .pointer (some ⟨w.heap.size, 0, none⟩), .int .u64 150]) (w.alloc (.cells #[.pointer (some ⟨gc, 0, none⟩)] TPC)) := by kernel_rfl
theorem c_valueOfC : (ReflectliteValue.unpack (.iface TC (.agg #[x, y]))).run Tryz.prog w = .ok (.agg #[hnd TC, .pointer (some ⟨w.heap.size, 0, none⟩), .int .u64 153]) (w.alloc (.cells #[x, y] TC)) := by kernel_rfl
theorem c_type : (ReflectliteValue.methodAny (ReflectliteValue.valueError "reflectlite.Value.Type" 0) (fun t _ _ _ => ReflectliteType.toType t) #[.agg #[hnd TPC, .pointer (some ⟨g, 0, none⟩), .int .u64 150]]).run Tryz.prog w = .ok (.iface TRT (.agg #[hnd TPC])) w := by kernel_rfl
theorem c_typeOf : (ReflectliteType.typeOf #[.iface TC (.agg #[x, y])]).run Tryz.prog w = .ok (.iface TRT (.agg #[hnd TC])) w := by kernel_rfl
theorem m_kind (v : Value) : (Go.method 350 TRT (.agg #[v]) "Kind").run Tryz.prog w = .ok (186, v) w := by kernel_rfl
theorem m_elem (v : Value) : (Go.method 350 TRT v "Elem").run Tryz.prog w = .ok (196, v) w := by kernel_rfl
theorem m_impl (v : Value) : (Go.method 350 TRT v "Implements").run Tryz.prog w = .ok (197, v) w := by kernel_rfl
theorem m_asgn (v : Value) : (Go.method 350 TRT v "AssignableTo").run Tryz.prog w = .ok (194, v) w := by kernel_rfl
theorem k_ptr : (ReflectliteType.abiMethod (fun t => (fun a => Value.int .u8 ((a : Nat) : Int)) <$> Rtype.kind t) #[hnd TPC]).run Tryz.prog w = .ok (.int .u8 22) w := by kernel_rfl
theorem k_cand : (ReflectliteType.abiMethod (fun t => (fun a => Value.int .u8 ((a : Nat) : Int)) <$> Rtype.kind t) #[hnd TC]).run Tryz.prog w = .ok (.int .u8 25) w := by kernel_rfl
theorem e_ptr : (ReflectliteType.method ReflectliteType.elem #[.agg #[hnd TPC]]).run Tryz.prog w = .ok (.iface TRT (.agg #[hnd TC])) w := by kernel_rfl
theorem a_cand : (ReflectliteType.relation "AssignableTo" ReflectliteType.assignableTo #[.agg #[hnd TC], .iface TRT (.agg #[hnd TC])]).run Tryz.prog w = .ok (.bool true) w := by kernel_rfl
theorem i_cand (u : Nat) (hu : u = 80) : (ReflectliteType.relation "Implements" ReflectliteType.implements_ #[.agg #[hnd TC], .iface TRT (.agg #[hnd u])]).run Tryz.prog w = .ok (.bool true) w := by subst hu; kernel_rfl
theorem p_ptr : (ReflectliteValue.parts (.agg #[hnd TPC, .pointer (some ⟨g, 0, none⟩), .int .u64 150])).run Tryz.prog w = .ok (some (TPC, ⟨g, 0, none⟩, 150)) w := by kernel_rfl
theorem p_cand : (ReflectliteValue.parts (.agg #[hnd TC, .pointer (some ⟨g, 0, none⟩), .int .u64 153])).run Tryz.prog w = .ok (some (TC, ⟨g, 0, none⟩, 153)) w := by kernel_rfl
theorem p_dest : (ReflectliteValue.parts (.agg #[hnd TC, .pointer (some ⟨g, 0, none⟩), .int .u64 409])).run Tryz.prog w = .ok (some (TC, ⟨g, 0, none⟩, 409)) w := by kernel_rfl
theorem el_ptr : (Rtype.elem? TPC).run Tryz.prog w = .ok (some TC) w := by kernel_rfl
theorem mk_dest : (ReflectliteValue.mk TC ⟨g, 0, none⟩ ReflectliteValue.flagAddr).run Tryz.prog w = .ok (.agg #[hnd TC, .pointer (some ⟨g, 0, none⟩), .int .u64 409]) w := by kernel_rfl
theorem da_cand : (Rtype.directlyAssignable TC TC).run Tryz.prog w = .ok true w := by kernel_rfl
end
theorem run_load_ptr {w : World} {g gc : Nat} (hc : w.heap[g]? = some (.cells #[.pointer (some ⟨gc, 0, none⟩)] TPC (0, 0))) : (loadVar TPC ⟨g, 0, none⟩).run Tryz.prog w = .ok (.pointer (some ⟨gc, 0, none⟩)) w := by
  have hcell : w.cell? ⟨g, 0, none⟩ = some (.pointer (some ⟨gc, 0, none⟩)) := (bce hc 0).trans rfl
  have hu := Tryz.underlying136
  go_simp
theorem method_one (z : Sem Value) (f : TypeId → Addr → Nat → Nat → Sem Value) (v : Value) : ReflectliteValue.method z f #[v] = (do match ← ReflectliteValue.parts v with | none => z | some (t, a, fl) => f t a fl (fl % 32)) := rfl
theorem r_isNil {w : World} {g gc : Nat} (hc : w.heap[g]? = some (.cells #[.pointer (some ⟨gc, 0, none⟩)] TPC (0, 0))) :
    (ReflectliteValue.method (ReflectliteValue.valueError "reflectlite.Value.IsNil" 0) ReflectliteValue.isNil #[.agg #[hnd TPC, .pointer (some ⟨g, 0, none⟩), .int .u64 150]]).run Tryz.prog w = .ok (.bool false) w := by
  rw [method_one]
  simp [p_ptr, ReflectliteValue.isNil, run_load_ptr hc, Sem.run_bind, Result.andThen]
theorem r_elem {w : World} {g gc : Nat} (hc : w.heap[g]? = some (.cells #[.pointer (some ⟨gc, 0, none⟩)] TPC (0, 0))) :
    (ReflectliteValue.method (ReflectliteValue.valueError "reflectlite.Value.Elem" 0) ReflectliteValue.elem #[.agg #[hnd TPC, .pointer (some ⟨g, 0, none⟩), .int .u64 150]]).run Tryz.prog w = .ok (.agg #[hnd TC, .pointer (some ⟨gc, 0, none⟩), .int .u64 409]) w := by
  rw [method_one]
  simp [p_ptr, ReflectliteValue.elem, run_load_ptr hc, el_ptr, mk_dest, Sem.run_bind, Result.andThen]
theorem infoTC : (Tryz.prog.info? TC).map (·.size) = some 2 := by kernel_rfl
theorem r_set {w : World} {gc gb : Nat} {x y a b : ByteArray} (h1 : w.heap[gb]? = some (.cells #[.string x, .string y] TC (0, 0))) (h2 : w.heap[gc]? = some (.cells #[.string a, .string b] TC (0, 0))) :
    (ReflectliteValue.set #[.agg #[hnd TC, .pointer (some ⟨gc, 0, none⟩), .int .u64 409], .agg #[hnd TC, .pointer (some ⟨gb, 0, none⟩), .int .u64 153]]).run Tryz.prog w = .ok (.tuple #[]) (w.setRow gc #[.string x, .string y]) := by
  have e1 := run_loadVar_row (P := Tryz.prog) w gb TC TC #[.string x, .string y] (0, 0) _ h1 Tryz.underlying134 rfl infoTC
  have e2 := run_storeVar_row (P := Tryz.prog) w gc TC TC #[.string a, .string b] #[.string x, .string y] h2 infoTC rfl (by simp [Value.oneCell'])
  show Sem.run Tryz.prog (ReflectliteValue.parts (.agg #[hnd TC, .pointer (some ⟨gc, 0, none⟩), .int .u64 409]) >>= fun u => ReflectliteValue.parts (.agg #[hnd TC, .pointer (some ⟨gb, 0, none⟩), .int .u64 153]) >>= fun v => _) w = _
  simp [p_dest, p_cand, ReflectliteValue.flagAddr, e1, e2, da_cand, Sem.run_bind, Result.andThen]
end Go.Proofs.YtajkbbifemeanaaGreatDoor.L
end
section
set_option linter.unusedVariables false
set_option linter.unusedSimpArgs false
namespace Go.Proofs.YtajkbbifemeanaaGreatDoor.L
open Go Go.RowKit Go.Lib Go.Proofs Go.Extern Go.Extern.Stop Go.Stop Go.Proofs.YtajkbbifemeanaaGreatDoor Go.Proofs.YtajkbbifemeanaaGreatDoorW.PrintWords Go.Proofs.YtajkbbifemeanaaGreatDoorW.PrintLast Go.Proofs.YtajkbbifemeanaaGreatDoorW.PrintMore
set_option maxHeartbeats 16000000 in
set_option maxRecDepth 100000 in
theorem as_any (x y a b : ByteArray) (g gc : Nat) (tv : Value) (w0 : World) (g4 : Nat) {o4 : Obj} (w : World) (hB : Below w0.heap.size w0 w) (hlo : w0.heap.size ≤ gc)
    (h4 : w.heap[g4]? = some o4) (hn : g4 ≠ gc) (h1 : w.heap[g]? = some (.cells #[.pointer (some ⟨gc, 0, none⟩)] TPC (0, 0))) (h2 : w.heap[gc]? = some (.cells #[.string a, .string b] TC (0, 0))) :
    Calls Tryz.prog 132 #[.iface TC (.agg #[.string x, .string y]), tv, .agg #[hnd TPC, .pointer (some ⟨g, 0, none⟩), .int .u64 150], .iface TRT (.agg #[hnd TC])] w fun e w' =>
      e = .returned (.bool true) ∧ Below w0.heap.size w0 w' ∧ w'.heap[g4]? = some o4 ∧ w'.heap[gc]? = some (.cells #[.string x, .string y] TC (0, 0)) := by
  have HB := qK hB
  have HL := qK hlo
  have H1 := qK h1
  have H2 := qK h2
  have H4 := qK h4
  have N4 := qK hn
  clear hB hlo h1 h2 h4 hn
  have hto := @run_callFunc_extern Tryz.prog 150 _ ReflectliteType.typeOf Tryz.func150 (by kernel_rfl) (by kernel_rfl) (by kernel_rfl) (by kernel_rfl)
  have has := @run_callFunc_extern Tryz.prog 194 _ (ReflectliteType.relation "AssignableTo" ReflectliteType.assignableTo) Tryz.func194 (by kernel_rfl) (by kernel_rfl) (by kernel_rfl) (by kernel_rfl)
  have hel := @run_callFunc_extern Tryz.prog 151 _ (ReflectliteValue.method (ReflectliteValue.valueError "reflectlite.Value.Elem" 0) ReflectliteValue.elem) Tryz.func151 (by kernel_rfl) (by kernel_rfl) (by kernel_rfl) (by kernel_rfl)
  have hvo := @run_callFunc_extern Tryz.prog 129 _ (fun args => ReflectliteValue.unpack (args.getD 0 (.tuple #[]))) Tryz.func129 (by kernel_rfl) (by kernel_rfl) (by kernel_rfl) (by kernel_rfl)
  have hse := @run_callFunc_extern Tryz.prog 152 _ ReflectliteValue.set Tryz.func152 (by kernel_rfl) (by kernel_rfl) (by kernel_rfl) (by kernel_rfl)
  have f1 := fun W => c_typeOf W (.string x) (.string y)
  have f2 := m_asgn
  have f3 := a_cand
  have hu := Tryz.underlying179
  go_enter Tryz.func132, Tryz.ntmps132
  go_wp2_with ((with_reducible refine gds (N := 6) rfl ?_); refine qbx 6 #[hnd TPC, .pointer (some ⟨g, 0, none⟩), .int .u64 150] 179 ?_; intro g6 hg w1 hbox hb; replace HB := qK (bst HB.out hb); replace H1 := qK (bbe H1.out hb); replace H2 := qK (bbe H2.out hb); replace H4 := qK (bbe H4.out hb); have B6 := qK hbox; clear hb hbox hg)
  refine wp_loop_rounds 1 ?_
  rw [rounds_succ]
  go_upto_region 2 with (fail)
  have hz := qz3 B6.out
  have e1 := r_elem (w := w1) H1.out
  have e2 := c_valueOfC w1 (.string x) (.string y)
  have e3 := r_set (w := w1.alloc (.cells #[.string x, .string y] TC)) (gc := gc) (gb := w1.heap.size) (heap_alloc_last _ _) (bbe H2.out (bal (Below.refl _ _) _))
  go_wp2
  go_ret
  refine ⟨rfl, ?_, ?_, ?_⟩
  · exact below_row (bal HB.out _) HL.out _
  · exact blk_row (bbe H4.out (bal (Below.refl _ _) _)) N4.out _
  · exact heap_row (bbe H2.out (bal (Below.refl _ _) _))
set_option maxHeartbeats 16000000 in
set_option maxRecDepth 100000 in
theorem As_any (x y a b : ByteArray) (gc : Nat) (w0 : World) (g4 : Nat) {o4 : Obj} (w : World) (hB : Below w0.heap.size w0 w) (hlo : w0.heap.size ≤ gc)
    (hE : w0.cell? ⟨0, 0, none⟩ = some (.iface TRT (.agg #[hnd 80])))
    (h4 : w.heap[g4]? = some o4) (hn : g4 ≠ gc) (h2 : w.heap[gc]? = some (.cells #[.string a, .string b] TC (0, 0))) :
    Calls Tryz.prog 98 #[.iface TC (.agg #[.string x, .string y]), .iface TPC (.pointer (some ⟨gc, 0, none⟩))] w fun e w' =>
      e = .returned (.bool true) ∧ Below w0.heap.size w0 w' ∧ w'.heap[g4]? = some o4 ∧ w'.heap[gc]? = some (.cells #[.string x, .string y] TC (0, 0)) := by
  have HB := qK hB
  have HL := qK hlo
  have HE := qK hE
  have H2 := qK h2
  have H4 := qK h4
  have N4 := qK hn
  clear hB hlo hE h2 h4 hn
  have hvo := @run_callFunc_extern Tryz.prog 129 _ (fun args => ReflectliteValue.unpack (args.getD 0 (.tuple #[]))) Tryz.func129 (by kernel_rfl) (by kernel_rfl) (by kernel_rfl) (by kernel_rfl)
  have hty := @run_callFunc_extern Tryz.prog 130 _ (ReflectliteValue.methodAny (ReflectliteValue.valueError "reflectlite.Value.Type" 0) fun t _ _ _ => ReflectliteType.toType t) Tryz.func130 (by kernel_rfl) (by kernel_rfl) (by kernel_rfl) (by kernel_rfl)
  have hni := @run_callFunc_extern Tryz.prog 131 _ (ReflectliteValue.method (ReflectliteValue.valueError "reflectlite.Value.IsNil" 0) ReflectliteValue.isNil) Tryz.func131 (by kernel_rfl) (by kernel_rfl) (by kernel_rfl) (by kernel_rfl)
  have hki := @run_callFunc_extern Tryz.prog 186 _ (ReflectliteType.abiMethod fun t => do pure (.int .u8 (← Rtype.kind t))) Tryz.func186 (by kernel_rfl) (by kernel_rfl) (by kernel_rfl) (by kernel_rfl)
  have hre := @run_callFunc_extern Tryz.prog 196 _ (ReflectliteType.method ReflectliteType.elem) Tryz.func196 (by kernel_rfl) (by kernel_rfl) (by kernel_rfl) (by kernel_rfl)
  have him := @run_callFunc_extern Tryz.prog 197 _ (ReflectliteType.relation "Implements" ReflectliteType.implements_) Tryz.func197 (by kernel_rfl) (by kernel_rfl) (by kernel_rfl) (by kernel_rfl)
  have q1 := fun W : World => run_eql_iface_nil (P := Tryz.prog) (w := W) 80 (by kernel_rfl) TC (.agg #[.string x, .string y])
  have q2 := fun W : World => run_eql_iface_nil (P := Tryz.prog) (w := W) 20 (by kernel_rfl) TPC (.pointer (some ⟨gc, 0, none⟩))
  have f1 := fun W => c_valueOfP W gc .nilIface
  have f2 := c_type
  have f3 := m_kind
  have f4 := k_ptr
  have f5 := m_elem
  have f6 := e_ptr
  have f7 := k_cand
  have f8 := m_impl
  have f9 := fun W => i_cand W 80 rfl
  have hu := Tryz.underlying179
  go_enter Tryz.func98, Tryz.ntmps98
  go_upto_region 6 with (first | ((with_reducible refine gds (N := 5) rfl ?_); refine qbx 5 #[.pointer none, .pointer none, .int .u64 0] 179 ?_; intro g5 hg w1 hbox hb; have HB0 := HB.out; have H20 := H2.out; have H40 := H4.out; replace HB := qK (bst (bal HB.out _) hb); have H1 := qK (bbe (heap_alloc_last w _) hb); replace H2 := qK (bbe (bbe H2.out (bal (Below.refl _ _) _)) hb); replace H4 := qK (bbe (bbe H4.out (bal (Below.refl _ _) _)) hb); have B5 := qK hbox; have N45 := qK (show g4 ≠ g5 by rw [hg, World.size_alloc]; have := blt H40; omega); have G5 := qK (show w0.heap.size ≤ g5 by rw [hg]; exact (bal HB0 _).size); have N5 := qK (show w.heap.size ≠ g5 ∧ gc ≠ g5 by rw [hg, World.size_alloc]; exact ⟨by omega, by have := blt H20; omega⟩); clear hb hbox hg HB0 H20 H40) | ((with_reducible refine gst (t := 179) (p := 5) rfl ?_); refine wpList_store_row rfl 179 (.tmp 5) (.tmp 14) rfl g5 #[hnd TPC, .pointer (some ⟨w.heap.size, 0, none⟩), .int .u64 150] ?hx ?hy 179 #[.pointer none, .pointer none, .int .u64 0] ?hg ?hi ?ho ?h1 ?_; (case hx => rfl); (case hy => rfl); (case hg => exact B5.out); (case hi => exact (by kernel_rfl)); (case ho => exact rfl); (case h1 => exact (by simp [Value.oneCell']))))
  replace B5 := qK (heap_row (cs' := #[hnd TPC, .pointer (some ⟨w.heap.size, 0, none⟩), .int .u64 150]) B5.out)
  replace H1 := qK (blk_row H1.out N5.out.1 #[hnd TPC, .pointer (some ⟨w.heap.size, 0, none⟩), .int .u64 150])
  replace H2 := qK (blk_row H2.out N5.out.2 #[hnd TPC, .pointer (some ⟨w.heap.size, 0, none⟩), .int .u64 150])
  replace H4 := qK (blk_row H4.out N45.out #[hnd TPC, .pointer (some ⟨w.heap.size, 0, none⟩), .int .u64 150])
  replace HB := qK (below_row HB.out G5.out #[hnd TPC, .pointer (some ⟨w.heap.size, 0, none⟩), .int .u64 150])
  generalize World.setRow _ g5 _ = w2 at B5 H1 H2 H4 HB ⊢
  have hz := qz3 B5.out
  have hn := r_isNil (w := w2) H1.out
  have he : w2.cell? ⟨0, 0, none⟩ = some (.iface TRT (.agg #[hnd 80])) := (HB.out.cell (World.block_lt_of_cell? _ _ HE.out)).trans HE.out
  go_wp2_with (go_at_call 132; (with_reducible refine (as_any x y a b w.heap.size gc _ w0 g4 _ HB.out HL.out H4.out N4.out H1.out H2.out).mono ?_); rintro e w' ⟨rfl, hb, h4, h2⟩)
  go_ret
  exact ⟨rfl, hb, h4, h2⟩
end Go.Proofs.YtajkbbifemeanaaGreatDoor.L
end
section
set_option linter.unusedVariables false
set_option linter.unusedSimpArgs false
namespace Go.Proofs.YtajkbbifemeanaaGreatDoor.L
open Go Go.RowKit Go.Proofs Go.Proofs.YtajkbbifemeanaaGreatDoor Go.Proofs.YtajkbbifemeanaaGreatDoorW.PrintWords Go.Proofs.YtajkbbifemeanaaGreatDoorW.PrintLast Go.Proofs.YtajkbbifemeanaaGreatDoorW.PrintMore
abbrev CandO := Option (ByteArray × ByteArray)
def heldO (x y : ByteArray) : CandO := if x.toList = y.toList then none else some (x, y)
def endedO (kind : Int) : CandO → Option (Bool × ByteArray × ByteArray)
  | none => some (false, ⟨#[]⟩, ⟨#[]⟩)
  | some (x, y) => (impl_Digest.f kind x).bind fun d => (impl_Digest.f kind y).bind fun e => if d.toList = e.toList then some (true, x, y) else some (false, ⟨#[]⟩, ⟨#[]⟩)
/-- The first candidate, or what comes behind. -/
def orO : CandO → Option CandO → Option CandO
  | some e, _ => some (some e)
  | none, r => r
def walkO (kind : Int) (entry : ByteArray) : Nat → Int → List ByteArray → List ByteArray → Option CandO
  | 0, _, _, _ => none
  | k + 1, i, l, p => if (l.length : Int) = 1 then ((impl_leafText.f entry).bind fun x => (impl_leafText.f (rdOf ByteArray.empty l 0)).bind fun y => some (heldO x y)) else
      ((impl_below.f k (l.length : Int)).bind fun t => (if 1 ≤ p.length ∧ p.length ≤ 9223372036854775807 then (if 0 ≤ t then (if t ≤ (l.length : Int) then (if i < t then
        ((impl_claim.f k kind entry i t (p.take (p.length - 1))).bind fun c => (impl_nodeText.f c.1 (rdOf ByteArray.empty p ((p.length - 1 : Nat) : Int))).bind fun x => (impl_halves.f k kind l).bind fun h => orO (heldO x h) (walkO kind entry k i (l.take t.toNat) (p.take (p.length - 1))))
        else ((impl_claim.f k kind entry (wrap64 (i - t)) (wrap64 ((l.length : Int) - t)) (p.take (p.length - 1))).bind fun c => (impl_nodeText.f (rdOf ByteArray.empty p ((p.length - 1 : Nat) : Int)) c.1).bind fun x => (impl_halves.f k kind l).bind fun h => orO (heldO x h) (walkO kind entry k (wrap64 (i - t)) (l.drop t.toNat) (p.take (p.length - 1)))))
        else none) else none) else none))
theorem orO_mono {o : CandO} {a b : Option CandO} (h : LeO a b) : LeO (orO o a) (orO o b) := by
  cases o with
  | none => exact h
  | some e => exact LeO.refl _
theorem walkO.mono (kind : Int) (entry : ByteArray) : ∀ k i l p, LeO (walkO kind entry k i l p) (walkO kind entry (k + 1) i l p)
  | 0 => fun _ _ _ r h => by simp [walkO] at h
  | k + 1 => by
    have ih := walkO.mono kind entry k
    intro i l p
    unfold walkO
    repeat' first
      | (with_reducible first | exact ih _ _ _ | exact impl_below.mono .. | exact impl_claim.mono .. | exact impl_halves.mono .. | exact LeO.refl _ | exact LeO.none _ | refine LeO.ite ?_ ?_ | refine LeO.bind ?_ (fun _ => ?_) | refine orO_mono ?_)
def impl_CollidePath.f (k : Nat) (a0 : Int) (l1 : List ByteArray) (a2 : ByteArray) (a3 : Int) (l4 : List ByteArray) : Option (Bool × ByteArray × ByteArray) :=
  if a3 < 0 then some (false, ⟨#[]⟩, ⟨#[]⟩) else if a3 ≥ (l1.length : Int) then some (false, ⟨#[]⟩, ⟨#[]⟩) else
    (impl_widths.f k a0 l4).bind fun b => if b = true then (if (l4.length : Int) > 64 then some (false, ⟨#[]⟩, ⟨#[]⟩) else
      (impl_claim.f k a0 a2 a3 (l1.length : Int) l4).bind fun c => if c.2 = true then (walkO a0 a2 k a3 l1 l4).bind fun o => endedO a0 o else some (false, ⟨#[]⟩, ⟨#[]⟩)) else some (false, ⟨#[]⟩, ⟨#[]⟩)
theorem impl_CollidePath.mono : ∀ a0 a1 a2 a3 a4 k, LeO (impl_CollidePath.f k a0 a1 a2 a3 a4) (impl_CollidePath.f (k + 1) a0 a1 a2 a3 a4) := by
  intro a0 a1 a2 a3 a4 k
  unfold impl_CollidePath.f
  repeat' first
    | (with_reducible first | exact walkO.mono _ _ _ _ _ _ | exact impl_widths.mono .. | exact impl_claim.mono .. | exact LeO.refl _ | exact LeO.none _ | refine LeO.ite ?_ ?_ | refine LeO.bind ?_ (fun _ => ?_))
end Go.Proofs.YtajkbbifemeanaaGreatDoor.L
end
section
set_option linter.unusedVariables false
set_option linter.unusedSimpArgs false
namespace Go.Proofs.YtajkbbifemeanaaGreatDoor.L
open Go Go.RowKit Go.Lib Go.Proofs Go.Extern Go.Extern.Stop Go.Stop Go.Proofs.YtajkbbifemeanaaGreatDoor Go.Proofs.YtajkbbifemeanaaGreatDoorW.PrintWords Go.Proofs.YtajkbbifemeanaaGreatDoorW.PrintLast Go.Proofs.YtajkbbifemeanaaGreatDoorW.PrintMore
/-- A candidate as an error. -/
def errV : CandO → Value
  | none => .nilIface
  | some (x, y) => .iface TC (.agg #[.string x, .string y])
theorem cell_keep {w w' : World} (hb : Below w.heap.size w w') {ad : Addr} {v : Value} (h : w.cell? ad = some v) : w'.cell? ad = some v := (hb.cell (World.block_lt_of_cell? w _ h)).trans h
/-- A region that draws, its held fact not yet there at the beginning. -/
theorem qs0 {P : Program} {ops : Array Oper} {Q : Exit → Act → World → Prop} {id : Nat} (n : Nat) (S : World → Prop) {ds : List Nat} {a : Act} {w : World}
    (h : wpAnyLast P .any ops Q S ds n (Array.replicate n false) a w.drew) (hm : P.follows .mixedOrders = true := by kernel_rfl) (hn : ops.size = n := by rfl) : (Code.region id ops true).wp P Q a w := by
  subst hn
  exact wp_region_last hm h
set_option maxHeartbeats 16000000 in
set_option maxRecDepth 100000 in
theorem held_any (x y : ByteArray) (w : World) : Calls Tryz.prog 52 #[.string x, .string y] w fun e w' => e = .returned (errV (heldO x y)) ∧ w = w' := by
  unfold heldO
  by_cases c : x.toList = y.toList
  · rw [if_pos c]
    obtain ⟨c1, c2⟩ := qe c
    clear c
    go_enter Tryz.func52, Tryz.ntmps52
    go_wp2
    go_ret
    exact ⟨rfl, rfl⟩
  · rw [if_neg c]
    obtain ⟨c1, c2⟩ := qn c
    clear c
    have hu := Tryz.underlying134
    go_enter Tryz.func52, Tryz.ntmps52
    go_wp2
    go_ret
    exact ⟨rfl, rfl⟩
set_option maxHeartbeats 16000000 in
set_option maxRecDepth 100000 in
theorem As_nil (tv : Value) (w : World) : Calls Tryz.prog 98 #[.nilIface, tv] w fun e w' => e = .returned (.bool false) ∧ w = w' := by
  have q1 := run_eql_nil_nil_at (P := Tryz.prog) (w := w) 80 (by kernel_rfl)
  go_enter Tryz.func98, Tryz.ntmps98
  go_wp2
  go_ret
  exact ⟨rfl, rfl⟩
theorem infoP : (Tryz.prog.info? 38).map (·.size) = some 3 := by kernel_rfl
set_option maxHeartbeats 16000000 in
set_option maxRecDepth 100000 in
theorem ended_nil (kind : Int) (w : World) (hG : GOK w) : Calls Tryz.prog 56 #[.int .i64 kind, .nilIface] w fun e w' => e = .returned (.agg #[.bool false, .string (⟨#[]⟩ : ByteArray), .string (⟨#[]⟩ : ByteArray)]) ∧ Below w.heap.size w w' := by
  have HB := qK (Below.refl w.heap.size w)
  have HG := qK hG
  clear hG
  have hu := Tryz.underlying38
  have hu5 := Tryz.underlying134
  go_enter Tryz.func56, Tryz.ntmps56
  go_upto_region 2 with (first | ((with_reducible refine gds (N := 4) rfl ?_); refine qbx 4 #[.bool false, .string (⟨#[]⟩ : ByteArray), .string (⟨#[]⟩ : ByteArray)] 38 ?_; intro g4 hg w' hbox hb; have G4 := qK (show w.heap.size ≤ g4 by rw [hg]; exact HB.out.size); replace HB := qK (bst HB.out hb); have B4 := qK hbox; clear hb hbox hg) | ((with_reducible refine gds (N := 5) rfl ?_); refine qbx 5 #[.string (⟨#[]⟩ : ByteArray), .string (⟨#[]⟩ : ByteArray)] 134 ?_; intro g5 hg w' hbox hb; have G5 := qK (show w.heap.size ≤ g5 by rw [hg]; exact HB.out.size); have N45 := qK (show g4 ≠ g5 by rw [hg]; exact Nat.ne_of_lt (blt B4.out)); replace B4 := qK (bbe B4.out hb); replace HB := qK (bst HB.out hb); have B5 := qK hbox; clear hb hbox hg) | ((with_reducible refine gst (t := 134) (p := 5) rfl ?_); refine wpList_store_row rfl 134 (.tmp 5) (.tmp 6) rfl g5 #[.string (⟨#[]⟩ : ByteArray), .string (⟨#[]⟩ : ByteArray)] ?hx ?hy 134 #[.string (⟨#[]⟩ : ByteArray), .string (⟨#[]⟩ : ByteArray)] ?hg ?hi ?ho ?h1 ?_; (case hx => rfl); (case hy => rfl); (case hg => exact B5.out); (case hi => exact infoTC); (case ho => exact rfl); (case h1 => exact (by simp [Value.oneCell']))))
  replace B4 := qK (blk_row B4.out N45.out #[.string (⟨#[]⟩ : ByteArray), .string (⟨#[]⟩ : ByteArray)])
  replace B5 := qK (heap_row (cs' := #[.string (⟨#[]⟩ : ByteArray), .string (⟨#[]⟩ : ByteArray)]) B5.out)
  replace HB := qK (below_row HB.out G5.out #[.string (⟨#[]⟩ : ByteArray), .string (⟨#[]⟩ : ByteArray)])
  generalize World.setRow _ g5 _ = w2 at B4 B5 HB ⊢
  refine qs0 15 (fun _ => True) (ds := []) ?_
  replace B4 := qK (bbe B4.out (bd1 (Below.refl _ _)))
  replace HB := qK (bst HB.out (bd1 (Below.refl _ _)))
  generalize World.drew w2 = w3 at B4 HB ⊢
  refine qp 0 7 ?_
  refine qp 1 8 ?_
  refine qo 2 9 (fun K hK => ?_)
  refine goes_ (N := some 9) Tryz.func98 (by kernel_rfl) rfl #[.nilIface, .iface TPC (.pointer (some ⟨g5, 0, none⟩))] (by rfl) rfl rfl qA ?_
  refine (As_nil _ _).mono ?_
  rintro e w4 ⟨rfl, rfl⟩
  refine ⟨_, rfl, ?_⟩
  refine hK.out _ _ trivial (fun hHeld => ?_)
  clear hK K
  refine norm_ (a' := ?_) ?_ ?_
  rotate_left
  · show Act.put _ (some 9) _ = _
    simp only [Act.put, List.setIfInBounds_toArray, List.set_cons_zero, List.set_cons_succ, i64_w, i32_w]
    rfl
  refine qp 3 10 ?_
  refine qp 4 11 ?_
  refine qu 5 12 ?_
  refine qu 6 13 ?_
  refine qu 7 14 ?_
  refine qu 8 15 ?_
  refine qu 9 16 ?_
  refine qu 10 17 ?_
  refine qu 11 18 ?_
  refine qu 12 19 ?_
  refine qu 13 20 ?_
  refine qp 14 21 ?_
  refine done_ (by kernel_rfl) ?_
  go_wp2_with ((with_reducible refine gst (t := 38) (p := 4) rfl ?_); refine wpList_store_row rfl 38 (.tmp 4) (.tmp 22) rfl g4 #[.bool false, .string (⟨#[]⟩ : ByteArray), .string (⟨#[]⟩ : ByteArray)] ?hx ?hy 38 #[.bool false, .string (⟨#[]⟩ : ByteArray), .string (⟨#[]⟩ : ByteArray)] ?hg ?hi ?ho ?h1 ?_; (case hx => rfl); (case hy => rfl); (case hg => exact B4.out); (case hi => exact infoP); (case ho => exact rfl); (case h1 => exact (by simp [Value.oneCell'])))
  replace HB := qK (below_row HB.out G4.out #[.bool false, .string (⟨#[]⟩ : ByteArray), .string (⟨#[]⟩ : ByteArray)])
  replace B4 := qK (heap_row (cs' := #[.bool false, .string (⟨#[]⟩ : ByteArray), .string (⟨#[]⟩ : ByteArray)]) B4.out)
  exact bodyPost_ret (v := .agg #[.bool false, .string (⟨#[]⟩ : ByteArray), .string (⟨#[]⟩ : ByteArray)]) (results_cell_row rfl _ _ g4 38 #[.bool false, .string (⟨#[]⟩ : ByteArray), .string (⟨#[]⟩ : ByteArray)] (0, 0) _ rfl B4.out Tryz.underlying38 rfl infoP) rfl ⟨rfl, HB.out⟩
set_option maxHeartbeats 16000000 in
set_option maxRecDepth 100000 in
theorem ended_some (kind : Int) (x y d e : ByteArray) (w : World) (hG : GOK w) (hd : impl_Digest.f kind x = some d) (he : impl_Digest.f kind y = some e) (hde : d.toList = e.toList) :
    Calls Tryz.prog 56 #[.int .i64 kind, .iface TC (.agg #[.string x, .string y])] w fun e w' => e = .returned (.agg #[.bool true, .string x, .string y]) ∧ Below w.heap.size w w' := by
  have HD := qK hd
  have HE := qK he
  obtain ⟨c1, c2⟩ := qe hde
  clear hd he hde
  have HB := qK (Below.refl w.heap.size w)
  have HG := qK hG
  clear hG
  have hu := Tryz.underlying38
  have hu5 := Tryz.underlying134
  go_enter Tryz.func56, Tryz.ntmps56
  go_upto_region 2 with (first | ((with_reducible refine gds (N := 4) rfl ?_); refine qbx 4 #[.bool false, .string (⟨#[]⟩ : ByteArray), .string (⟨#[]⟩ : ByteArray)] 38 ?_; intro g4 hg w' hbox hb; have G4 := qK (show w.heap.size ≤ g4 by rw [hg]; exact HB.out.size); replace HB := qK (bst HB.out hb); have B4 := qK hbox; clear hb hbox hg) | ((with_reducible refine gds (N := 5) rfl ?_); refine qbx 5 #[.string (⟨#[]⟩ : ByteArray), .string (⟨#[]⟩ : ByteArray)] 134 ?_; intro g5 hg w' hbox hb; have G5 := qK (show w.heap.size ≤ g5 by rw [hg]; exact HB.out.size); have N45 := qK (show g4 ≠ g5 by rw [hg]; exact Nat.ne_of_lt (blt B4.out)); replace B4 := qK (bbe B4.out hb); replace HB := qK (bst HB.out hb); have B5 := qK hbox; clear hb hbox hg) | ((with_reducible refine gst (t := 134) (p := 5) rfl ?_); refine wpList_store_row rfl 134 (.tmp 5) (.tmp 6) rfl g5 #[.string (⟨#[]⟩ : ByteArray), .string (⟨#[]⟩ : ByteArray)] ?hx ?hy 134 #[.string (⟨#[]⟩ : ByteArray), .string (⟨#[]⟩ : ByteArray)] ?hg ?hi ?ho ?h1 ?_; (case hx => rfl); (case hy => rfl); (case hg => exact B5.out); (case hi => exact infoTC); (case ho => exact rfl); (case h1 => exact (by simp [Value.oneCell']))))
  replace B4 := qK (blk_row B4.out N45.out #[.string (⟨#[]⟩ : ByteArray), .string (⟨#[]⟩ : ByteArray)])
  replace B5 := qK (heap_row (cs' := #[.string (⟨#[]⟩ : ByteArray), .string (⟨#[]⟩ : ByteArray)]) B5.out)
  replace HB := qK (below_row HB.out G5.out #[.string (⟨#[]⟩ : ByteArray), .string (⟨#[]⟩ : ByteArray)])
  generalize World.setRow _ g5 _ = w2 at B4 B5 HB ⊢
  refine qs0 15 (fun w' => w'.cell? ⟨g5, 0, none⟩ = some (.string x) ∧ w'.cell? ⟨g5, 1, none⟩ = some (.string y)) (ds := [2]) ?_
  replace B4 := qK (bbe B4.out (bd1 (Below.refl _ _)))
  replace B5 := qK (bbe B5.out (bd1 (Below.refl _ _)))
  replace HB := qK (bst HB.out (bd1 (Below.refl _ _)))
  generalize World.drew w2 = w3 at B4 B5 HB ⊢
  refine qp 0 7 ?_
  refine qp 1 8 ?_
  refine qL 2 9 (fun K hK => ?_)
  refine goes_ (N := some 9) Tryz.func98 (by kernel_rfl) rfl #[.iface TC (.agg #[.string x, .string y]), .iface TPC (.pointer (some ⟨g5, 0, none⟩))] (by rfl) rfl rfl qA ?_
  refine (As_any x y (⟨#[]⟩ : ByteArray) (⟨#[]⟩ : ByteArray) g5 w g4 _ HB.out G5.out HG.out.2 B4.out N45.out B5.out).mono ?_
  rintro e w4 ⟨rfl, hb, h4, h5⟩
  refine ⟨_, rfl, ?_⟩
  replace B4 := qK h4
  replace B5 := qK h5
  replace HB := qK hb
  clear hb h4 h5
  have hHeld : w4.cell? ⟨g5, 0, none⟩ = some (.string x) ∧ w4.cell? ⟨g5, 1, none⟩ = some (.string y) := ⟨(bce B5.out 0).trans rfl, (bce B5.out 1).trans rfl⟩
  refine hK.out _ _ ?_
  clear hK K
  refine norm_ (a' := ?_) ?_ ?_
  rotate_left
  · show Act.put _ (some 9) _ = _
    simp only [Act.put, List.setIfInBounds_toArray, List.set_cons_zero, List.set_cons_succ, i64_w, i32_w]
    rfl
  refine qp 3 10 ?_
  refine qp 4 11 ?_
  refine qp 5 12 ?_
  refine qp 6 13 ?_
  refine qt 7 14 ?_
  refine qp 9 16 ?_
  refine qp 10 17 ?_
  refine qt 11 18 ?_
  refine qo 8 15 (fun K hK => ?_)
  refine gG Tryz.func28 #[.int .i64 kind, .string x] ?_
  with_reducible refine (impl_Digest.calls kind x d _ (HG.out.below HB.out) HD.out).mono ?_
  rintro e w' ⟨rfl, hb⟩
  refine ⟨_, rfl, ?_⟩
  replace B4 := qK (bbe B4.out hb)
  replace B5 := qK (bbe B5.out hb)
  replace HB := qK (bst HB.out hb)
  clear hb
  refine hK.out _ _ ⟨(bce B5.out 0).trans rfl, (bce B5.out 1).trans rfl⟩ (fun hHeld => ?_)
  clear hK K
  refine norm_ (a' := ?_) ?_ ?_
  rotate_left
  · show Act.put _ (some 15) _ = _
    simp only [Act.put, List.setIfInBounds_toArray, List.set_cons_zero, List.set_cons_succ, i64_w, i32_w]
    rfl
  refine qo 12 19 (fun K hK => ?_)
  refine gG Tryz.func28 #[.int .i64 kind, .string y] ?_
  with_reducible refine (impl_Digest.calls kind y e _ (HG.out.below HB.out) HE.out).mono ?_
  rintro e w' ⟨rfl, hb⟩
  refine ⟨_, rfl, ?_⟩
  replace B4 := qK (bbe B4.out hb)
  replace B5 := qK (bbe B5.out hb)
  replace HB := qK (bst HB.out hb)
  clear hb
  refine hK.out _ _ ⟨(bce B5.out 0).trans rfl, (bce B5.out 1).trans rfl⟩ (fun hHeld => ?_)
  clear hK K
  refine norm_ (a' := ?_) ?_ ?_
  rotate_left
  · show Act.put _ (some 19) _ = _
    simp only [Act.put, List.setIfInBounds_toArray, List.set_cons_zero, List.set_cons_succ, i64_w, i32_w]
    rfl
  refine qp 13 20 ?_
  refine qp 14 21 ?_
  refine done_ (by kernel_rfl) ?_
  have hz := qz2 B5.out
  go_wp2_with ((with_reducible refine gst (t := 38) (p := 4) rfl ?_); refine wpList_store_row rfl 38 (.tmp 4) (.tmp 27) rfl g4 #[.bool true, .string x, .string y] ?hx ?hy 38 #[.bool false, .string (⟨#[]⟩ : ByteArray), .string (⟨#[]⟩ : ByteArray)] ?hg ?hi ?ho ?h1 ?_; (case hx => rfl); (case hy => rfl); (case hg => exact B4.out); (case hi => exact infoP); (case ho => exact rfl); (case h1 => exact (by simp [Value.oneCell'])))
  replace HB := qK (below_row HB.out G4.out #[.bool true, .string x, .string y])
  replace B4 := qK (heap_row (cs' := #[.bool true, .string x, .string y]) B4.out)
  exact bodyPost_ret (v := .agg #[.bool true, .string x, .string y]) (results_cell_row rfl _ _ g4 38 #[.bool true, .string x, .string y] (0, 0) _ rfl B4.out Tryz.underlying38 rfl infoP) rfl ⟨rfl, HB.out⟩
set_option maxHeartbeats 16000000 in
set_option maxRecDepth 100000 in
theorem ended_none (kind : Int) (x y d e : ByteArray) (w : World) (hG : GOK w) (hd : impl_Digest.f kind x = some d) (he : impl_Digest.f kind y = some e) (hde : ¬ d.toList = e.toList) :
    Calls Tryz.prog 56 #[.int .i64 kind, .iface TC (.agg #[.string x, .string y])] w fun e w' => e = .returned (.agg #[.bool false, .string (⟨#[]⟩ : ByteArray), .string (⟨#[]⟩ : ByteArray)]) ∧ Below w.heap.size w w' := by
  have HD := qK hd
  have HE := qK he
  obtain ⟨c1, c2⟩ := qn hde
  clear hd he hde
  have HB := qK (Below.refl w.heap.size w)
  have HG := qK hG
  clear hG
  have hu := Tryz.underlying38
  have hu5 := Tryz.underlying134
  go_enter Tryz.func56, Tryz.ntmps56
  go_upto_region 2 with (first | ((with_reducible refine gds (N := 4) rfl ?_); refine qbx 4 #[.bool false, .string (⟨#[]⟩ : ByteArray), .string (⟨#[]⟩ : ByteArray)] 38 ?_; intro g4 hg w' hbox hb; have G4 := qK (show w.heap.size ≤ g4 by rw [hg]; exact HB.out.size); replace HB := qK (bst HB.out hb); have B4 := qK hbox; clear hb hbox hg) | ((with_reducible refine gds (N := 5) rfl ?_); refine qbx 5 #[.string (⟨#[]⟩ : ByteArray), .string (⟨#[]⟩ : ByteArray)] 134 ?_; intro g5 hg w' hbox hb; have G5 := qK (show w.heap.size ≤ g5 by rw [hg]; exact HB.out.size); have N45 := qK (show g4 ≠ g5 by rw [hg]; exact Nat.ne_of_lt (blt B4.out)); replace B4 := qK (bbe B4.out hb); replace HB := qK (bst HB.out hb); have B5 := qK hbox; clear hb hbox hg) | ((with_reducible refine gst (t := 134) (p := 5) rfl ?_); refine wpList_store_row rfl 134 (.tmp 5) (.tmp 6) rfl g5 #[.string (⟨#[]⟩ : ByteArray), .string (⟨#[]⟩ : ByteArray)] ?hx ?hy 134 #[.string (⟨#[]⟩ : ByteArray), .string (⟨#[]⟩ : ByteArray)] ?hg ?hi ?ho ?h1 ?_; (case hx => rfl); (case hy => rfl); (case hg => exact B5.out); (case hi => exact infoTC); (case ho => exact rfl); (case h1 => exact (by simp [Value.oneCell']))))
  replace B4 := qK (blk_row B4.out N45.out #[.string (⟨#[]⟩ : ByteArray), .string (⟨#[]⟩ : ByteArray)])
  replace B5 := qK (heap_row (cs' := #[.string (⟨#[]⟩ : ByteArray), .string (⟨#[]⟩ : ByteArray)]) B5.out)
  replace HB := qK (below_row HB.out G5.out #[.string (⟨#[]⟩ : ByteArray), .string (⟨#[]⟩ : ByteArray)])
  generalize World.setRow _ g5 _ = w2 at B4 B5 HB ⊢
  refine qs0 15 (fun w' => w'.cell? ⟨g5, 0, none⟩ = some (.string x) ∧ w'.cell? ⟨g5, 1, none⟩ = some (.string y)) (ds := [2]) ?_
  replace B4 := qK (bbe B4.out (bd1 (Below.refl _ _)))
  replace B5 := qK (bbe B5.out (bd1 (Below.refl _ _)))
  replace HB := qK (bst HB.out (bd1 (Below.refl _ _)))
  generalize World.drew w2 = w3 at B4 B5 HB ⊢
  refine qp 0 7 ?_
  refine qp 1 8 ?_
  refine qL 2 9 (fun K hK => ?_)
  refine goes_ (N := some 9) Tryz.func98 (by kernel_rfl) rfl #[.iface TC (.agg #[.string x, .string y]), .iface TPC (.pointer (some ⟨g5, 0, none⟩))] (by rfl) rfl rfl qA ?_
  refine (As_any x y (⟨#[]⟩ : ByteArray) (⟨#[]⟩ : ByteArray) g5 w g4 _ HB.out G5.out HG.out.2 B4.out N45.out B5.out).mono ?_
  rintro e w4 ⟨rfl, hb, h4, h5⟩
  refine ⟨_, rfl, ?_⟩
  replace B4 := qK h4
  replace B5 := qK h5
  replace HB := qK hb
  clear hb h4 h5
  have hHeld : w4.cell? ⟨g5, 0, none⟩ = some (.string x) ∧ w4.cell? ⟨g5, 1, none⟩ = some (.string y) := ⟨(bce B5.out 0).trans rfl, (bce B5.out 1).trans rfl⟩
  refine hK.out _ _ ?_
  clear hK K
  refine norm_ (a' := ?_) ?_ ?_
  rotate_left
  · show Act.put _ (some 9) _ = _
    simp only [Act.put, List.setIfInBounds_toArray, List.set_cons_zero, List.set_cons_succ, i64_w, i32_w]
    rfl
  refine qp 3 10 ?_
  refine qp 4 11 ?_
  refine qp 5 12 ?_
  refine qp 6 13 ?_
  refine qt 7 14 ?_
  refine qp 9 16 ?_
  refine qp 10 17 ?_
  refine qt 11 18 ?_
  refine qo 8 15 (fun K hK => ?_)
  refine gG Tryz.func28 #[.int .i64 kind, .string x] ?_
  with_reducible refine (impl_Digest.calls kind x d _ (HG.out.below HB.out) HD.out).mono ?_
  rintro e w' ⟨rfl, hb⟩
  refine ⟨_, rfl, ?_⟩
  replace B4 := qK (bbe B4.out hb)
  replace B5 := qK (bbe B5.out hb)
  replace HB := qK (bst HB.out hb)
  clear hb
  refine hK.out _ _ ⟨(bce B5.out 0).trans rfl, (bce B5.out 1).trans rfl⟩ (fun hHeld => ?_)
  clear hK K
  refine norm_ (a' := ?_) ?_ ?_
  rotate_left
  · show Act.put _ (some 15) _ = _
    simp only [Act.put, List.setIfInBounds_toArray, List.set_cons_zero, List.set_cons_succ, i64_w, i32_w]
    rfl
  refine qo 12 19 (fun K hK => ?_)
  refine gG Tryz.func28 #[.int .i64 kind, .string y] ?_
  with_reducible refine (impl_Digest.calls kind y e _ (HG.out.below HB.out) HE.out).mono ?_
  rintro e w' ⟨rfl, hb⟩
  refine ⟨_, rfl, ?_⟩
  replace B4 := qK (bbe B4.out hb)
  replace B5 := qK (bbe B5.out hb)
  replace HB := qK (bst HB.out hb)
  clear hb
  refine hK.out _ _ ⟨(bce B5.out 0).trans rfl, (bce B5.out 1).trans rfl⟩ (fun hHeld => ?_)
  clear hK K
  refine norm_ (a' := ?_) ?_ ?_
  rotate_left
  · show Act.put _ (some 19) _ = _
    simp only [Act.put, List.setIfInBounds_toArray, List.set_cons_zero, List.set_cons_succ, i64_w, i32_w]
    rfl
  refine qp 13 20 ?_
  refine qp 14 21 ?_
  refine done_ (by kernel_rfl) ?_
  go_wp2_with ((with_reducible refine gst (t := 38) (p := 4) rfl ?_); refine wpList_store_row rfl 38 (.tmp 4) (.tmp 22) rfl g4 #[.bool false, .string (⟨#[]⟩ : ByteArray), .string (⟨#[]⟩ : ByteArray)] ?hx ?hy 38 #[.bool false, .string (⟨#[]⟩ : ByteArray), .string (⟨#[]⟩ : ByteArray)] ?hg ?hi ?ho ?h1 ?_; (case hx => rfl); (case hy => rfl); (case hg => exact B4.out); (case hi => exact infoP); (case ho => exact rfl); (case h1 => exact (by simp [Value.oneCell'])))
  replace HB := qK (below_row HB.out G4.out #[.bool false, .string (⟨#[]⟩ : ByteArray), .string (⟨#[]⟩ : ByteArray)])
  replace B4 := qK (heap_row (cs' := #[.bool false, .string (⟨#[]⟩ : ByteArray), .string (⟨#[]⟩ : ByteArray)]) B4.out)
  exact bodyPost_ret (v := .agg #[.bool false, .string (⟨#[]⟩ : ByteArray), .string (⟨#[]⟩ : ByteArray)]) (results_cell_row rfl _ _ g4 38 #[.bool false, .string (⟨#[]⟩ : ByteArray), .string (⟨#[]⟩ : ByteArray)] (0, 0) _ rfl B4.out Tryz.underlying38 rfl infoP) rfl ⟨rfl, HB.out⟩
theorem ended_any (kind : Int) (o : CandO) (r1 : Bool) (r2 r3 : ByteArray) (w : World) (hG : GOK w) (h : endedO kind o = some (r1, r2, r3)) :
    Calls Tryz.prog 56 #[.int .i64 kind, errV o] w fun e w' => e = .returned (.agg #[.bool r1, .string r2, .string r3]) ∧ Below w.heap.size w w' := by
  cases o with
  | none =>
    obtain ⟨rfl, rfl, rfl⟩ : false = r1 ∧ (⟨#[]⟩ : ByteArray) = r2 ∧ (⟨#[]⟩ : ByteArray) = r3 := by simpa [endedO] using h
    exact ended_nil kind w hG
  | some p =>
    obtain ⟨x, y⟩ := p
    unfold endedO at h
    obtain ⟨d, hd, h⟩ := Option.bind_eq_some_iff.mp h
    obtain ⟨e, he, h⟩ := Option.bind_eq_some_iff.mp h
    by_cases c : d.toList = e.toList
    · rw [if_pos c] at h
      obtain ⟨rfl, rfl, rfl⟩ : true = r1 ∧ x = r2 ∧ y = r3 := by simpa using h
      exact ended_some kind x y d e w hG hd he c
    · rw [if_neg c] at h
      obtain ⟨rfl, rfl, rfl⟩ : false = r1 ∧ (⟨#[]⟩ : ByteArray) = r2 ∧ (⟨#[]⟩ : ByteArray) = r3 := by simpa using h
      exact ended_none kind x y d e w hG hd he c
end Go.Proofs.YtajkbbifemeanaaGreatDoor.L
end
section
set_option linter.unusedVariables false
set_option linter.unusedSimpArgs false
namespace Go.Proofs.YtajkbbifemeanaaGreatDoor.L
open Go Go.RowKit Go.Lib Go.Proofs Go.Extern Go.Extern.Stop Go.Stop Go.Proofs.YtajkbbifemeanaaGreatDoor Go.Proofs.YtajkbbifemeanaaGreatDoorW.PrintWords Go.Proofs.YtajkbbifemeanaaGreatDoorW.PrintLast Go.Proofs.YtajkbbifemeanaaGreatDoorW.PrintMore
/-- A call of a closure within a region that draws. -/
theorem goesC_ {P : Program} {ops : Array Oper} {Q : Exit → Act → World → Prop} {oi : Oper} {N : Option Tmp} {a : Act} {w : World} {K : Act → World → Prop} {f : FuncId} {fn : Func} {x : Operand} {cap : Array Value} {as_ : Array Operand} {ts : Array TypeId} (hf : P.funcs[f]? = some fn) (hname : (fn.name == "runtime.NumGoroutine") = false) (hb : fn.body.isSome = true) (args : Array Value)
    (hw : Region.wanted oi (yielded ops a.tmps) = true) (hN : oi.dst = N) (hop : oi.op = .call { callee := .value x, args := as_, argTypes := ts }) (hx : a.eval x = .func (.func f) #[] cap) (hargs : as_.map a.eval ++ cap = args)
    (h : Calls P f args w fun e w' => ∃ v, e = .returned v ∧ K (a.put N v) w') : if Region.wanted oi (yielded ops a.tmps) = true then Oper.wp P oi a w K Q else K (a.put N undef) w := by
  refine call_ f args hw hN ?_ h
  have he := enters_ hf hname hb args w
  unfold execOp
  simp [hop, resolve, Deferred.ofValue, hx, invoke, hargs, he]
/-- What the closure of CollidePath has captured. -/
structure ClP (w0 : World) (ge gk gw : Nat) (entry : ByteArray) (kind : Int) (W : World) : Prop where
  hb : Below w0.heap.size w0 W
  he : W.heap[ge]? = some (.cells #[.string entry] 9 (0, 0))
  hk : W.heap[gk]? = some (.cells #[.int .i64 kind] 3 (0, 0))
  hw : W.heap[gw]? = some (.cells #[.func (.func 51) #[] #[.pointer (some ⟨ge, 0, none⟩), .pointer (some ⟨gk, 0, none⟩), .pointer (some ⟨gw, 0, none⟩)]] 78 (0, 0))
section
variable {w0 W W' : World} {ge gk gw : Nat} {entry : ByteArray} {kind : Int}
theorem ClP.below (h : ClP w0 ge gk gw entry kind W) (hb : Below W.heap.size W W') : ClP w0 ge gk gw entry kind W' :=
  ⟨bst h.hb hb, bbe h.he hb, bbe h.hk hb, bbe h.hw hb⟩
theorem ClP.ck (h : ClP w0 ge gk gw entry kind W) : W.cell? ⟨gk, 0, none⟩ = some (.int .i64 kind) := (bce h.hk 0).trans rfl
theorem ClP.ce (h : ClP w0 ge gk gw entry kind W) : W.cell? ⟨ge, 0, none⟩ = some (.string entry) := (bce h.he 0).trans rfl
theorem ClP.cw (h : ClP w0 ge gk gw entry kind W) : W.cell? ⟨gw, 0, none⟩ = some (.func (.func 51) #[] #[.pointer (some ⟨ge, 0, none⟩), .pointer (some ⟨gk, 0, none⟩), .pointer (some ⟨gw, 0, none⟩)]) := (bce h.hw 0).trans rfl
end
set_option maxHeartbeats 16000000 in
set_option maxRecDepth 100000 in
theorem walk_any (kind : Int) (entry : ByteArray) (w0 : World) (ge gk gw : Nat) (hG : GOK w0) (k : Nat) : ∀ (i : Int) (A : Option Addr) (cl : Nat) (l : List ByteArray) (Ap : Option Addr) (cp : Nat) (p : List ByteArray) (r : CandO) (W : World) (hS : ClP w0 ge gk gw entry kind W)
    (hC : Kd.C Kd.string w0 A l.length l) (hc : l.length ≤ cl) (hP : Kd.C Kd.string w0 Ap p.length p) (hp : p.length ≤ cp) (h : walkO kind entry k i l p = some r),
    Calls Tryz.prog 51 #[.int .i64 i, .slice A l.length cl, .slice Ap p.length cp, .pointer (some ⟨ge, 0, none⟩), .pointer (some ⟨gk, 0, none⟩), .pointer (some ⟨gw, 0, none⟩)] W fun e w' => e = .returned (errV r) ∧ ClP w0 ge gk gw entry kind w' := by
  induction k with
  | zero => intro i A cl l Ap cp p r W _ _ _ _ _ h; exact absurd h (by simp [walkO])
  | succ k ih =>
  intro i A cl l Ap cp p r W hS hC hc hP hp h
  rw [walkO] at h
  have HS := qK hS
  have HG := qK hG
  have HC := qK hC
  have HCC := qK hc
  have HP := qK hP
  have HPC := qK hp
  have IH := qK ih
  clear hS hG hC hc hP hp ih
  by_cases c6 : (l.length : Int) = 1
  · rw [if_pos c6] at h
    obtain ⟨c6b0, c6b1⟩ := qe c6
    obtain ⟨x, hx, h⟩ := Option.bind_eq_some_iff.mp h
    obtain ⟨y, hy, h⟩ := Option.bind_eq_some_iff.mp h
    obtain rfl := Option.some.inj h
    have HX := qK hx
    have HY := qK hy
    clear hx hy h
    have p564 : 0 ≤ (0 : Int) := by omega
    have q564 : 0 < (l.length : Int) := by omega
    clear c6
    have HCw := qK (Kd.Cbe HC.out HS.out.hb)
    obtain ⟨ad564, e564, hx564_0⟩ := Kd.at_string HCw.out 0 p564 q564
    cases e564
    have qi564 : (0 < l.length) = True := eq_true (by omega)
    (try rw [show ((0 : Int)).toNat = 0 from rfl] at hx564_0)
    (try rw [Addr.add_zero'] at hx564_0)
    replace p564 := eq_true p564
    replace q564 := eq_true q564
    go_enter Tryz.func51, Tryz.ntmps51
    go_upto_region 3 with (fail)
    refine qs 8 (fun w' => w'.cell? ⟨ge, 0, none⟩ = some (.string entry) ∧ w'.cell? ad564 = some (.string (rdOf ByteArray.empty l 0))) (ds := []) ⟨HS.out.ce, hx564_0⟩ (fun hHeld => ?_)
    replace HS := qK (HS.out.below (bd1 (Below.refl _ _)))
    generalize World.drew _ = w2 at HS hHeld ⊢
    refine qt 0 24 ?_
    refine qp 2 26 ?_
    refine qp 3 27 ?_
    refine qt 4 28 ?_
    refine qo 1 25 (fun K hK => ?_)
    refine gG Tryz.func53 #[.string entry] ?_
    with_reducible refine (impl_leafText.calls entry x _ HX.out).mono ?_
    rintro e w3 ⟨rfl, ⟨nd, rfl⟩⟩
    replace HS := qK (HS.out.below (pbd (Below.refl _ _) nd))
    refine ⟨_, rfl, ?_⟩
    refine hK.out _ _ hHeld (fun hHeld => ?_)
    clear hK K
    refine norm_ (a' := ?_) ?_ ?_
    rotate_left
    · show Act.put _ (some 25) _ = _
      simp only [Act.put, List.setIfInBounds_toArray, List.set_cons_zero, List.set_cons_succ, i64_w, i32_w]
      rfl
    generalize World.drewN _ nd = w3 at HS hHeld ⊢
    refine qo 5 29 (fun K hK => ?_)
    refine gG Tryz.func53 #[.string (rdOf ByteArray.empty l 0)] ?_
    with_reducible refine (impl_leafText.calls (rdOf ByteArray.empty l 0) y _ HY.out).mono ?_
    rintro e w4 ⟨rfl, ⟨nd, rfl⟩⟩
    replace HS := qK (HS.out.below (pbd (Below.refl _ _) nd))
    refine ⟨_, rfl, ?_⟩
    refine hK.out _ _ hHeld (fun hHeld => ?_)
    clear hK K
    refine norm_ (a' := ?_) ?_ ?_
    rotate_left
    · show Act.put _ (some 29) _ = _
      simp only [Act.put, List.setIfInBounds_toArray, List.set_cons_zero, List.set_cons_succ, i64_w, i32_w]
      rfl
    generalize World.drewN _ nd = w4 at HS hHeld ⊢
    refine qo 6 30 (fun K hK => ?_)
    refine gG Tryz.func52 #[.string x, .string y] ?_
    with_reducible refine (held_any x y _).mono ?_
    rintro e w5 ⟨rfl, rfl⟩
    refine ⟨_, rfl, ?_⟩
    refine hK.out _ _ hHeld (fun hHeld => ?_)
    clear hK K
    refine norm_ (a' := ?_) ?_ ?_
    rotate_left
    · show Act.put _ (some 30) _ = _
      simp only [Act.put, List.setIfInBounds_toArray, List.set_cons_zero, List.set_cons_succ, i64_w, i32_w]
      rfl
    refine qp 7 9 ?_
    refine done_ (by kernel_rfl) ?_
    try go_wp2
    go_ret
    exact ⟨rfl, HS.out⟩
  rw [if_neg c6] at h
  obtain ⟨c6b0, c6b1⟩ := qn c6
  obtain ⟨t, hT, h⟩ := Option.bind_eq_some_iff.mp h
  by_cases hp1 : 1 ≤ p.length ∧ p.length ≤ 9223372036854775807
  case neg => rw [if_neg hp1] at h; cases h
  rw [if_pos hp1] at h
  by_cases c11 : 0 ≤ t
  case neg => rw [if_neg c11] at h; cases h
  rw [if_pos c11] at h
  by_cases c12 : t ≤ (l.length : Int)
  case neg => rw [if_neg c12] at h; cases h
  rw [if_pos c12] at h
  have HT := qK hT
  have P11 := qK c11
  have P12 := qK c12
  clear hT c6
  -- the path's last element, and what is before it
  have hpl : p.length ≤ 9223372036854775807 := hp1.2
  have hp1 := hp1.1
  obtain ⟨ap, e564, hx564_0⟩ := Kd.at_string (Kd.Cbe HP.out HS.out.hb) ((p.length - 1 : Nat) : Int) (by omega) (by omega)
  cases e564
  rw [show (((p.length - 1 : Nat) : Int)).toNat = p.length - 1 from Int.toNat_natCast _] at hx564_0
  obtain ⟨z, hz⟩ : ∃ z, rdOf ByteArray.empty p ((p.length - 1 : Nat) : Int) = z := ⟨_, rfl⟩
  rw [hz] at hx564_0 h
  obtain ⟨y, hy⟩ : ∃ y, p.take (p.length - 1) = y := ⟨_, rfl⟩
  have hyl : p.length - 1 = y.length := by rw [← hy, List.length_take]; omega
  obtain ⟨i0_, hi0, _, hsz0, _⟩ := info_parts info9
  obtain ⟨_, hA0, hC0⟩ := print_take_of (P := Tryz.prog) Value.string (⟨#[]⟩ : ByteArray) 23 9 .i64 Tryz.underlying23 hi0 hsz0 (some ap) cp p ((p.length - 1 : Nat) : Int) (by omega) (by omega) HPC.out
  have HY := qK (show Kd.C Kd.string w0 (some ap) y.length y from by subst hy; exact Kd.C_of_reads (h1 := fun _ => rfl) (hA0 _ (Kd.reads_of_C HP.out)))
  have HYC : Aside0 (y.length ≤ cp) := qK (by have := HPC.out; omega)
  clear hA0 hC0 hi0 hsz0
  rw [hy] at h
  have f1 : wrap64 ((p.length : Int) - 1) = ((p.length - 1 : Nat) : Int) := by unfold wrap64; omega
  have f2 : p.length - 1 ≤ cp := by have := HPC.out; omega
  have f3 : p.length - 1 < p.length := by omega
  have HE := qK hx564_0
  have HF := qK f1
  have HF2 := qK f2
  have HF3 := qK f3
  have HYL := qK hyl
  have H0 := qK h
  clear hx564_0 f1 f2 f3 hyl h hz hy hp1 hpl c11 c12
  go_enter Tryz.func51, Tryz.ntmps51
  go_upto_region 5 with (go_at_call 41; (with_reducible refine (impl_below.calls k (l.length : Int) t _ HT.out).mono ?_); rintro e w' ⟨rfl, ⟨nd, rfl⟩⟩; have HN := qK (HS.out.below (pbd (Below.refl _ _) nd)); have HM := qK (cell_keep (pbd (Below.refl _ _) nd) HE.out); clear HS HE)
  have f1 := HF.out
  have f2 := HF2.out
  have f3 := HF3.out
  refine qs 13 (fun w' => w'.cell? (ap.add (p.length - 1)) = some (.string z)) (ds := []) (cell_keep (bd1 (Below.refl _ _)) HM.out) (fun hHeld => ?_)
  have HS := qK (HN.out.below (bd1 (Below.refl _ _)))
  clear HN HM
  generalize World.drew _ = w2 at HS hHeld ⊢
  refine qp 0 33 ?_
  refine qp 1 34 ?_
  refine qp 2 35 ?_
  refine qp 3 36 ?_
  refine qp 4 37 ?_
  refine qt 5 38 ?_
  refine qp 6 39 ?_
  refine qp 7 40 ?_
  refine qp 8 41 ?_
  refine qp 9 42 ?_
  refine qp 10 43 ?_
  refine qp 11 12 ?_
  refine qp 12 13 ?_
  refine done_ (by kernel_rfl) ?_
  clear f1 f2 f3 hHeld
  rw [HYL.out]
  clear HYL HF HF2 HF3
  have h := H0.out
  clear H0
  by_cases c18 : i < t
  · rw [if_pos c18] at h
    have c18b := decide_eq_true c18
    clear c18
    obtain ⟨i1_, hi1, _, hsz1, _⟩ := info_parts info9
    obtain ⟨hcut, hA1, hC1⟩ := print_take_of (P := Tryz.prog) Value.string (⟨#[]⟩ : ByteArray) 23 9 .i64 Tryz.underlying23 hi1 hsz1 A cl l t P11.out P12.out HCC.out
    have HR567 := qK (show Kd.C Kd.string w0 A (l.take t.toNat).length (l.take t.toNat) from Kd.C_of_reads (h1 := fun _ => rfl) (hA1 _ (Kd.reads_of_C HC.out)))
    have HC567 := qK hC1
    clear hA1 hC1 hi1 hsz1
    obtain ⟨c, hcl, h⟩ := Option.bind_eq_some_iff.mp h
    obtain ⟨c, ok⟩ := c
    obtain ⟨x, hx, h⟩ := Option.bind_eq_some_iff.mp h
    obtain ⟨hh, hha, h⟩ := Option.bind_eq_some_iff.mp h
    have HCL := qK hcl
    have HX := qK hx
    have HHA := qK hha
    clear hcl hx hha
    have hz1 := qz1 HS.out.he
    have hz2 := qz1 HS.out.hk
    go_upto_region 8 with (go_at_call 50; (with_reducible refine (impl_claim.calls k kind entry i t (some ap) cp y c ok _ (HG.out.below HS.out.hb) (Kd.Cbe HY.out HS.out.hb) HYC.out HCL.out).mono ?_); rintro e w' ⟨rfl, hb⟩; replace HS := qK (HS.out.below hb); clear hb)
    clear hz1 hz2
    refine qs 8 (fun w' => w'.cell? ⟨gk, 0, none⟩ = some (.int .i64 kind)) (ds := []) HS.out.ck (fun hHeld => ?_)
    replace HS := qK (HS.out.below (bd1 (Below.refl _ _)))
    generalize World.drew _ = w4 at HS hHeld ⊢
    refine qp 0 56 ?_
    refine qp 1 57 ?_
    refine qt 3 59 ?_
    refine qp 4 60 ?_
    refine qo 2 58 (fun K hK => ?_)
    refine gG Tryz.func54 #[.string c, .string z] ?_
    with_reducible refine (impl_nodeText.calls c z x _ HX.out).mono ?_
    rintro e w5 ⟨rfl, ⟨nd, rfl⟩⟩
    replace HS := qK (HS.out.below (pbd (Below.refl _ _) nd))
    refine ⟨_, rfl, ?_⟩
    refine hK.out _ _ hHeld (fun hHeld => ?_)
    clear hK K
    refine norm_ (a' := ?_) ?_ ?_
    rotate_left
    · show Act.put _ (some 58) _ = _
      simp only [Act.put, List.setIfInBounds_toArray, List.set_cons_zero, List.set_cons_succ, i64_w, i32_w]
      rfl
    generalize World.drewN _ nd = w5 at HS hHeld ⊢
    refine qo 5 61 (fun K hK => ?_)
    refine gG Tryz.func55 #[.int .i64 kind, .slice A l.length cl] ?_
    with_reducible refine (impl_halves.calls k kind A cl l hh _ (HG.out.below HS.out.hb) (Kd.Cbe HC.out HS.out.hb) HCC.out HHA.out).mono ?_
    rintro e w6 ⟨rfl, hb⟩
    replace HS := qK (HS.out.below hb)
    clear hb
    refine ⟨_, rfl, ?_⟩
    refine hK.out _ _ HS.out.ck (fun hHeld => ?_)
    clear hK K
    refine norm_ (a' := ?_) ?_ ?_
    rotate_left
    · show Act.put _ (some 61) _ = _
      simp only [Act.put, List.setIfInBounds_toArray, List.set_cons_zero, List.set_cons_succ, i64_w, i32_w]
      rfl
    refine qo 6 62 (fun K hK => ?_)
    refine gG Tryz.func52 #[.string x, .string hh] ?_
    with_reducible refine (held_any x hh _).mono ?_
    rintro e w7 ⟨rfl, rfl⟩
    refine ⟨_, rfl, ?_⟩
    refine hK.out _ _ HS.out.ck (fun hHeld => ?_)
    clear hK K
    refine norm_ (a' := ?_) ?_ ?_
    rotate_left
    · show Act.put _ (some 62) _ = _
      simp only [Act.put, List.setIfInBounds_toArray, List.set_cons_zero, List.set_cons_succ, i64_w, i32_w]
      rfl
    refine qp 7 16 ?_
    refine done_ (by kernel_rfl) ?_
    cases ho : heldO x hh with
    | some e =>
      obtain ⟨e1, e2⟩ := e
      rw [ho] at h
      obtain rfl := Option.some.inj h
      clear ho
      have q1 := fun W : World => run_neq_iface_nil (P := Tryz.prog) (w := W) 80 (by kernel_rfl) TC (.agg #[.string e1, .string e2])
      simp only [errV]
      go_wp2
      go_ret
      exact ⟨rfl, HS.out⟩
    | none =>
      rw [ho] at h
      have H := qK (show walkO kind entry k i (l.take (t : Int).toNat) y = some r from h)
      clear ho h
      have q1 := fun W : World => run_neq_nil_nil_at (P := Tryz.prog) (w := W) 80 (by kernel_rfl)
      simp only [errV]
      go_upto_region 11 with (fail)
      refine qs 8 (fun w' => w'.cell? ⟨gw, 0, none⟩ = some (.func (.func 51) #[] #[.pointer (some ⟨ge, 0, none⟩), .pointer (some ⟨gk, 0, none⟩), .pointer (some ⟨gw, 0, none⟩)])) (ds := []) HS.out.cw (fun hHeld => ?_)
      replace HS := qK (HS.out.below (bd1 (Below.refl _ _)))
      generalize World.drew _ = w8 at HS hHeld ⊢
      refine qt 0 66 ?_
      refine qp 1 67 ?_
      refine qp 2 68 ?_
      refine qp 3 69 ?_
      refine qp 4 70 ?_
      refine qp 5 71 ?_
      refine qo 6 72 (fun K hK => ?_)
      refine goesC_ (N := some 72) Tryz.func51 (by kernel_rfl) rfl #[.int .i64 i, .slice A (l.take (t : Int).toNat).length cl, .slice (some ap) y.length cp, .pointer (some ⟨ge, 0, none⟩), .pointer (some ⟨gk, 0, none⟩), .pointer (some ⟨gw, 0, none⟩)] (by rfl) rfl rfl rfl (by (try simp only [List.map_toArray, List.map_cons, List.map_nil]); first | done | (rw [show (l.take (t : Int).toNat).length = t.toNat from (by rw [List.length_take]; have h_ := P12.out; omega)] <;> rfl) | rfl | (simp only [List.length_drop, List.length_take]; rfl)) ?_
      with_reducible refine (IH.out i A cl (l.take (t : Int).toNat) (some ap) cp y r _ HS.out HR567.out HC567.out HY.out HYC.out H.out).mono ?_
      rintro e w9 ⟨rfl, hs⟩
      replace HS := qK hs
      clear hs
      refine ⟨_, rfl, ?_⟩
      refine hK.out _ _ HS.out.cw (fun hHeld => ?_)
      clear hK K
      refine norm_ (a' := ?_) ?_ ?_
      rotate_left
      · show Act.put _ (some 72) _ = _
        simp only [Act.put, List.setIfInBounds_toArray, List.set_cons_zero, List.set_cons_succ, i64_w, i32_w]
        rfl
      refine qp 7 9 ?_
      refine done_ (by kernel_rfl) ?_
      try go_wp2
      go_ret
      exact ⟨rfl, HS.out⟩
  · rw [if_neg c18] at h
    have c18b := decide_eq_false c18
    clear c18
    obtain ⟨i1_, hi1, _, hsz1, _⟩ := info_parts info9
    obtain ⟨A20, hcut, hA1, hC1⟩ := print_drop_of (P := Tryz.prog) Value.string (⟨#[]⟩ : ByteArray) 23 9 .i64 Tryz.underlying23 hi1 hsz1 A cl l t P11.out P12.out HCC.out
    have HR569 := qK (show Kd.C Kd.string w0 A20 (l.drop t.toNat).length (l.drop t.toNat) from Kd.C_of_reads (h1 := fun _ => rfl) (hA1 _ (Kd.reads_of_C HC.out)))
    have HC569 := qK hC1
    clear hA1 hC1 hi1 hsz1
    obtain ⟨c, hcl, h⟩ := Option.bind_eq_some_iff.mp h
    obtain ⟨c, ok⟩ := c
    obtain ⟨x, hx, h⟩ := Option.bind_eq_some_iff.mp h
    obtain ⟨hh, hha, h⟩ := Option.bind_eq_some_iff.mp h
    have HCL := qK hcl
    have HX := qK hx
    have HHA := qK hha
    clear hcl hx hha
    have hz1 := qz1 HS.out.he
    have hz2 := qz1 HS.out.hk
    go_upto_region 13 with (go_at_call 50; (with_reducible refine (impl_claim.calls k kind entry (wrap64 (i - t)) (wrap64 ((l.length : Int) - t)) (some ap) cp y c ok _ (HG.out.below HS.out.hb) (Kd.Cbe HY.out HS.out.hb) HYC.out HCL.out).mono ?_); rintro e w' ⟨rfl, hb⟩; replace HS := qK (HS.out.below hb); clear hb)
    clear hz1 hz2
    refine qs 8 (fun w' => w'.cell? ⟨gk, 0, none⟩ = some (.int .i64 kind)) (ds := []) HS.out.ck (fun hHeld => ?_)
    replace HS := qK (HS.out.below (bd1 (Below.refl _ _)))
    generalize World.drew _ = w4 at HS hHeld ⊢
    refine qp 0 86 ?_
    refine qp 1 87 ?_
    refine qt 3 89 ?_
    refine qp 4 90 ?_
    refine qo 2 88 (fun K hK => ?_)
    refine gG Tryz.func54 #[.string z, .string c] ?_
    with_reducible refine (impl_nodeText.calls z c x _ HX.out).mono ?_
    rintro e w5 ⟨rfl, ⟨nd, rfl⟩⟩
    replace HS := qK (HS.out.below (pbd (Below.refl _ _) nd))
    refine ⟨_, rfl, ?_⟩
    refine hK.out _ _ hHeld (fun hHeld => ?_)
    clear hK K
    refine norm_ (a' := ?_) ?_ ?_
    rotate_left
    · show Act.put _ (some 88) _ = _
      simp only [Act.put, List.setIfInBounds_toArray, List.set_cons_zero, List.set_cons_succ, i64_w, i32_w]
      rfl
    generalize World.drewN _ nd = w5 at HS hHeld ⊢
    refine qo 5 91 (fun K hK => ?_)
    refine gG Tryz.func55 #[.int .i64 kind, .slice A l.length cl] ?_
    with_reducible refine (impl_halves.calls k kind A cl l hh _ (HG.out.below HS.out.hb) (Kd.Cbe HC.out HS.out.hb) HCC.out HHA.out).mono ?_
    rintro e w6 ⟨rfl, hb⟩
    replace HS := qK (HS.out.below hb)
    clear hb
    refine ⟨_, rfl, ?_⟩
    refine hK.out _ _ HS.out.ck (fun hHeld => ?_)
    clear hK K
    refine norm_ (a' := ?_) ?_ ?_
    rotate_left
    · show Act.put _ (some 91) _ = _
      simp only [Act.put, List.setIfInBounds_toArray, List.set_cons_zero, List.set_cons_succ, i64_w, i32_w]
      rfl
    refine qo 6 92 (fun K hK => ?_)
    refine gG Tryz.func52 #[.string x, .string hh] ?_
    with_reducible refine (held_any x hh _).mono ?_
    rintro e w7 ⟨rfl, rfl⟩
    refine ⟨_, rfl, ?_⟩
    refine hK.out _ _ HS.out.ck (fun hHeld => ?_)
    clear hK K
    refine norm_ (a' := ?_) ?_ ?_
    rotate_left
    · show Act.put _ (some 92) _ = _
      simp only [Act.put, List.setIfInBounds_toArray, List.set_cons_zero, List.set_cons_succ, i64_w, i32_w]
      rfl
    refine qp 7 19 ?_
    refine done_ (by kernel_rfl) ?_
    cases ho : heldO x hh with
    | some e =>
      obtain ⟨e1, e2⟩ := e
      rw [ho] at h
      obtain rfl := Option.some.inj h
      clear ho
      have q1 := fun W : World => run_neq_iface_nil (P := Tryz.prog) (w := W) 80 (by kernel_rfl) TC (.agg #[.string e1, .string e2])
      simp only [errV]
      go_wp2
      go_ret
      exact ⟨rfl, HS.out⟩
    | none =>
      rw [ho] at h
      have H := qK (show walkO kind entry k (wrap64 (i - t)) (l.drop (t : Int).toNat) y = some r from h)
      clear ho h
      have q1 := fun W : World => run_neq_nil_nil_at (P := Tryz.prog) (w := W) 80 (by kernel_rfl)
      simp only [errV]
      go_upto_region 16 with (fail)
      refine qs 10 (fun w' => w'.cell? ⟨gw, 0, none⟩ = some (.func (.func 51) #[] #[.pointer (some ⟨ge, 0, none⟩), .pointer (some ⟨gk, 0, none⟩), .pointer (some ⟨gw, 0, none⟩)])) (ds := []) HS.out.cw (fun hHeld => ?_)
      replace HS := qK (HS.out.below (bd1 (Below.refl _ _)))
      generalize World.drew _ = w8 at HS hHeld ⊢
      refine qt 0 96 ?_
      refine qp 1 97 ?_
      refine qp 2 98 ?_
      refine qp 3 99 ?_
      refine qp 4 100 ?_
      refine qp 5 101 ?_
      refine qp 6 102 ?_
      refine qp 7 103 ?_
      refine qo 8 104 (fun K hK => ?_)
      refine goesC_ (N := some 104) Tryz.func51 (by kernel_rfl) rfl #[.int .i64 (wrap64 (i - t)), .slice A20 (l.drop (t : Int).toNat).length (cl - t.toNat), .slice (some ap) y.length cp, .pointer (some ⟨ge, 0, none⟩), .pointer (some ⟨gk, 0, none⟩), .pointer (some ⟨gw, 0, none⟩)] (by rfl) rfl rfl rfl (by (try simp only [List.map_toArray, List.map_cons, List.map_nil]); first | done | (rw [show (l.drop (t : Int).toNat).length = (l.length - t.toNat) from List.length_drop] <;> rfl) | rfl | (simp only [List.length_drop, List.length_take]; rfl)) ?_
      with_reducible refine (IH.out (wrap64 (i - t)) A20 (cl - t.toNat) (l.drop (t : Int).toNat) (some ap) cp y r _ HS.out HR569.out HC569.out HY.out HYC.out H.out).mono ?_
      rintro e w9 ⟨rfl, hs⟩
      replace HS := qK hs
      clear hs
      refine ⟨_, rfl, ?_⟩
      refine hK.out _ _ HS.out.cw (fun hHeld => ?_)
      clear hK K
      refine norm_ (a' := ?_) ?_ ?_
      rotate_left
      · show Act.put _ (some 104) _ = _
        simp only [Act.put, List.setIfInBounds_toArray, List.set_cons_zero, List.set_cons_succ, i64_w, i32_w]
        rfl
      refine qp 9 9 ?_
      refine done_ (by kernel_rfl) ?_
      try go_wp2
      go_ret
      exact ⟨rfl, HS.out⟩
/-- A store of a whole row, run. -/
theorem exec_store_rowC {P : Program} {o : Oper} {a : Act} {w : World} (ty : TypeId) (x y : Operand) (ho : o.op = .store ty x y)
    (g : Nat) (cells : Array Value) (hx : a.eval x = .pointer (some ⟨g, 0, none⟩)) (hy : a.eval y = .agg cells)
    (t : TypeId) (old : Array Value) (hg : w.heap[g]? = some (.cells old t (0, 0))) (hi : (P.info? ty).map (·.size) = some cells.size)
    (hold : old.size = cells.size) (h1 : cells.all (·.oneCell') = true) : (execOp a.eval o).run P w = .ok .skip (w.setRow g cells) := by
  unfold execOp
  simp only [ho, hx, hy, Instr.storeAt, Instr.sureAddr, Sem.run_bind, Sem.run_pure, Result.andThen_ok, run_storeVar_row w g t ty old cells hg hi hold h1]
set_option maxHeartbeats 16000000 in
set_option maxRecDepth 100000 in
theorem cp_low (k : Nat) (a0 : Int) (A1 : Option Addr) (c1 : Nat) (l1 : List ByteArray) (a2 : ByteArray) (a3 : Int) (A4 : Option Addr) (c4 : Nat) (l4 : List ByteArray) (d1 : a3 < 0) (w : World) (hG : GOK w) (hr1 : Kd.C Kd.string w A1 l1.length l1) (hc1 : l1.length ≤ c1) (hr4 : Kd.C Kd.string w A4 l4.length l4) (hc4 : l4.length ≤ c4) :
    Calls Tryz.prog 16 #[.int .i64 a0, .slice A1 l1.length c1, .string a2, .int .i64 a3, .slice A4 l4.length c4] w fun e w' => e = .returned (.agg #[.bool false, .string (⟨#[]⟩ : ByteArray), .string (⟨#[]⟩ : ByteArray)]) ∧ Below w.heap.size w w' := by
  have HG := qK hG
  have HC1 := qK hr1
  have HCC1 := qK hc1
  have HC4 := qK hr4
  have HCC4 := qK hc4
  have HB := qK (Below.refl w.heap.size w)
  have hu := Tryz.underlying38
  clear hG hr1 hc1 hr4 hc4
  have d1b := decide_eq_true d1
  clear d1
  go_enter Tryz.func16, Tryz.ntmps16
  go_wp2_with (first | ((with_reducible refine gds (N := 5) rfl ?_); refine qbx 5 #[.int .i64 a0] 3 ?_; intro gk hg w' hbox hb; have GK := qK (show w.heap.size ≤ gk by rw [hg]; exact HB.out.size); replace HB := qK (bst HB.out hb); have BK := qK hbox; clear hb hbox hg) | ((with_reducible refine gds (N := 7) rfl ?_); refine qbx 7 #[.string a2] 9 ?_; intro ge hg w' hbox hb; have GE := qK (show w.heap.size ≤ ge by rw [hg]; exact HB.out.size); replace BK := qK (bbe BK.out hb); replace HB := qK (bst HB.out hb); have BE := qK hbox; clear hb hbox hg) | ((with_reducible refine gds (N := 10) rfl ?_); refine qbx 10 #[.bool false, .string (⟨#[]⟩ : ByteArray), .string (⟨#[]⟩ : ByteArray)] 38 ?_; intro g10 hg w' hbox hb; have G10 := qK (show w.heap.size ≤ g10 by rw [hg]; exact HB.out.size); replace BK := qK (bbe BK.out hb); replace BE := qK (bbe BE.out hb); replace HB := qK (bst HB.out hb); have B10 := qK hbox; have hz1 := qz1 BK.out; clear hb hbox hg) | ((with_reducible refine gst (t := 38) (p := 10) rfl ?_); refine wpList_store_row rfl 38 (.tmp 10) (.tmp 35) rfl g10 #[.bool false, .string (⟨#[]⟩ : ByteArray), .string (⟨#[]⟩ : ByteArray)] ?hx ?hy 38 #[.bool false, .string (⟨#[]⟩ : ByteArray), .string (⟨#[]⟩ : ByteArray)] ?hg ?hi ?ho ?h1 ?_; (case hx => rfl); (case hy => rfl); (case hg => exact B10.out); (case hi => exact infoP); (case ho => exact rfl); (case h1 => exact (by simp [Value.oneCell']))))
  replace HB := qK (below_row HB.out G10.out #[.bool false, .string (⟨#[]⟩ : ByteArray), .string (⟨#[]⟩ : ByteArray)])
  replace B10 := qK (heap_row (cs' := #[.bool false, .string (⟨#[]⟩ : ByteArray), .string (⟨#[]⟩ : ByteArray)]) B10.out)
  exact bodyPost_ret (v := .agg #[.bool false, .string (⟨#[]⟩ : ByteArray), .string (⟨#[]⟩ : ByteArray)]) (results_cell_row rfl _ _ g10 38 #[.bool false, .string (⟨#[]⟩ : ByteArray), .string (⟨#[]⟩ : ByteArray)] (0, 0) _ rfl B10.out Tryz.underlying38 rfl infoP) rfl ⟨rfl, HB.out⟩
set_option maxHeartbeats 16000000 in
set_option maxRecDepth 100000 in
theorem cp_high (k : Nat) (a0 : Int) (A1 : Option Addr) (c1 : Nat) (l1 : List ByteArray) (a2 : ByteArray) (a3 : Int) (A4 : Option Addr) (c4 : Nat) (l4 : List ByteArray) (d1 : ¬ a3 < 0) (d2 : a3 ≥ (l1.length : Int)) (w : World) (hG : GOK w) (hr1 : Kd.C Kd.string w A1 l1.length l1) (hc1 : l1.length ≤ c1) (hr4 : Kd.C Kd.string w A4 l4.length l4) (hc4 : l4.length ≤ c4) :
    Calls Tryz.prog 16 #[.int .i64 a0, .slice A1 l1.length c1, .string a2, .int .i64 a3, .slice A4 l4.length c4] w fun e w' => e = .returned (.agg #[.bool false, .string (⟨#[]⟩ : ByteArray), .string (⟨#[]⟩ : ByteArray)]) ∧ Below w.heap.size w w' := by
  have HG := qK hG
  have HC1 := qK hr1
  have HCC1 := qK hc1
  have HC4 := qK hr4
  have HCC4 := qK hc4
  have HB := qK (Below.refl w.heap.size w)
  have hu := Tryz.underlying38
  clear hG hr1 hc1 hr4 hc4
  have d1b := decide_eq_false d1
  clear d1
  have d2b := decide_eq_true d2
  have d2c : decide ((l1.length : Int) ≤ a3) = true := d2b
  clear d2
  go_enter Tryz.func16, Tryz.ntmps16
  go_wp2_with (first | ((with_reducible refine gds (N := 5) rfl ?_); refine qbx 5 #[.int .i64 a0] 3 ?_; intro gk hg w' hbox hb; have GK := qK (show w.heap.size ≤ gk by rw [hg]; exact HB.out.size); replace HB := qK (bst HB.out hb); have BK := qK hbox; clear hb hbox hg) | ((with_reducible refine gds (N := 7) rfl ?_); refine qbx 7 #[.string a2] 9 ?_; intro ge hg w' hbox hb; have GE := qK (show w.heap.size ≤ ge by rw [hg]; exact HB.out.size); replace BK := qK (bbe BK.out hb); replace HB := qK (bst HB.out hb); have BE := qK hbox; clear hb hbox hg) | ((with_reducible refine gds (N := 10) rfl ?_); refine qbx 10 #[.bool false, .string (⟨#[]⟩ : ByteArray), .string (⟨#[]⟩ : ByteArray)] 38 ?_; intro g10 hg w' hbox hb; have G10 := qK (show w.heap.size ≤ g10 by rw [hg]; exact HB.out.size); replace BK := qK (bbe BK.out hb); replace BE := qK (bbe BE.out hb); replace HB := qK (bst HB.out hb); have B10 := qK hbox; have hz1 := qz1 BK.out; clear hb hbox hg) | ((with_reducible refine gst (t := 38) (p := 10) rfl ?_); refine wpList_store_row rfl 38 (.tmp 10) (.tmp 35) rfl g10 #[.bool false, .string (⟨#[]⟩ : ByteArray), .string (⟨#[]⟩ : ByteArray)] ?hx ?hy 38 #[.bool false, .string (⟨#[]⟩ : ByteArray), .string (⟨#[]⟩ : ByteArray)] ?hg ?hi ?ho ?h1 ?_; (case hx => rfl); (case hy => rfl); (case hg => exact B10.out); (case hi => exact infoP); (case ho => exact rfl); (case h1 => exact (by simp [Value.oneCell']))))
  replace HB := qK (below_row HB.out G10.out #[.bool false, .string (⟨#[]⟩ : ByteArray), .string (⟨#[]⟩ : ByteArray)])
  replace B10 := qK (heap_row (cs' := #[.bool false, .string (⟨#[]⟩ : ByteArray), .string (⟨#[]⟩ : ByteArray)]) B10.out)
  exact bodyPost_ret (v := .agg #[.bool false, .string (⟨#[]⟩ : ByteArray), .string (⟨#[]⟩ : ByteArray)]) (results_cell_row rfl _ _ g10 38 #[.bool false, .string (⟨#[]⟩ : ByteArray), .string (⟨#[]⟩ : ByteArray)] (0, 0) _ rfl B10.out Tryz.underlying38 rfl infoP) rfl ⟨rfl, HB.out⟩
set_option maxHeartbeats 16000000 in
set_option maxRecDepth 100000 in
theorem cp_widths (k : Nat) (a0 : Int) (A1 : Option Addr) (c1 : Nat) (l1 : List ByteArray) (a2 : ByteArray) (a3 : Int) (A4 : Option Addr) (c4 : Nat) (l4 : List ByteArray) (b : Bool) (hb0 : b = false) (d1 : ¬ a3 < 0) (d2 : ¬ a3 ≥ (l1.length : Int)) (hw : impl_widths.f k a0 l4 = some b) (w : World) (hG : GOK w) (hr1 : Kd.C Kd.string w A1 l1.length l1) (hc1 : l1.length ≤ c1) (hr4 : Kd.C Kd.string w A4 l4.length l4) (hc4 : l4.length ≤ c4) :
    Calls Tryz.prog 16 #[.int .i64 a0, .slice A1 l1.length c1, .string a2, .int .i64 a3, .slice A4 l4.length c4] w fun e w' => e = .returned (.agg #[.bool false, .string (⟨#[]⟩ : ByteArray), .string (⟨#[]⟩ : ByteArray)]) ∧ Below w.heap.size w w' := by
  have HG := qK hG
  have HC1 := qK hr1
  have HCC1 := qK hc1
  have HC4 := qK hr4
  have HCC4 := qK hc4
  have HB := qK (Below.refl w.heap.size w)
  have hu := Tryz.underlying38
  clear hG hr1 hc1 hr4 hc4
  have d1b := decide_eq_false d1
  clear d1
  have d2b := decide_eq_false d2
  have d2c : decide ((l1.length : Int) ≤ a3) = false := d2b
  clear d2
  have HW := qK hw
  clear hw
  
  go_enter Tryz.func16, Tryz.ntmps16
  go_wp2_with (first | ((with_reducible refine gds (N := 5) rfl ?_); refine qbx 5 #[.int .i64 a0] 3 ?_; intro gk hg w' hbox hb; have GK := qK (show w.heap.size ≤ gk by rw [hg]; exact HB.out.size); replace HB := qK (bst HB.out hb); have BK := qK hbox; clear hb hbox hg) | ((with_reducible refine gds (N := 7) rfl ?_); refine qbx 7 #[.string a2] 9 ?_; intro ge hg w' hbox hb; have GE := qK (show w.heap.size ≤ ge by rw [hg]; exact HB.out.size); replace BK := qK (bbe BK.out hb); replace HB := qK (bst HB.out hb); have BE := qK hbox; clear hb hbox hg) | ((with_reducible refine gds (N := 10) rfl ?_); refine qbx 10 #[.bool false, .string (⟨#[]⟩ : ByteArray), .string (⟨#[]⟩ : ByteArray)] 38 ?_; intro g10 hg w' hbox hb; have G10 := qK (show w.heap.size ≤ g10 by rw [hg]; exact HB.out.size); replace BK := qK (bbe BK.out hb); replace BE := qK (bbe BE.out hb); replace HB := qK (bst HB.out hb); have B10 := qK hbox; have hz1 := qz1 BK.out; clear hb hbox hg) | (go_at_call 49; (with_reducible refine (impl_widths.calls k a0 A4 c4 l4 b _ (Kd.Cbe HC4.out HB.out) HCC4.out HW.out).mono ?_); rintro e w' ⟨rfl, ⟨nd, rfl⟩⟩; replace BK := qK (bbe BK.out (pbd (Below.refl _ _) nd)); replace BE := qK (bbe BE.out (pbd (Below.refl _ _) nd)); replace B10 := qK (bbe B10.out (pbd (Below.refl _ _) nd)); replace HB := qK (bst HB.out (pbd (Below.refl _ _) nd)); clear hz1; generalize World.drewN _ nd = w3 at BK BE B10 HB ⊢) | ((with_reducible refine gst (t := 38) (p := 10) rfl ?_); refine wpList_store_row rfl 38 (.tmp 10) (.tmp 35) rfl g10 #[.bool false, .string (⟨#[]⟩ : ByteArray), .string (⟨#[]⟩ : ByteArray)] ?hx ?hy 38 #[.bool false, .string (⟨#[]⟩ : ByteArray), .string (⟨#[]⟩ : ByteArray)] ?hg ?hi ?ho ?h1 ?_; (case hx => rfl); (case hy => rfl); (case hg => exact B10.out); (case hi => exact infoP); (case ho => exact rfl); (case h1 => exact (by simp [Value.oneCell']))))
  replace HB := qK (below_row HB.out G10.out #[.bool false, .string (⟨#[]⟩ : ByteArray), .string (⟨#[]⟩ : ByteArray)])
  replace B10 := qK (heap_row (cs' := #[.bool false, .string (⟨#[]⟩ : ByteArray), .string (⟨#[]⟩ : ByteArray)]) B10.out)
  exact bodyPost_ret (v := .agg #[.bool false, .string (⟨#[]⟩ : ByteArray), .string (⟨#[]⟩ : ByteArray)]) (results_cell_row rfl _ _ g10 38 #[.bool false, .string (⟨#[]⟩ : ByteArray), .string (⟨#[]⟩ : ByteArray)] (0, 0) _ rfl B10.out Tryz.underlying38 rfl infoP) rfl ⟨rfl, HB.out⟩
set_option maxHeartbeats 16000000 in
set_option maxRecDepth 100000 in
theorem cp_long (k : Nat) (a0 : Int) (A1 : Option Addr) (c1 : Nat) (l1 : List ByteArray) (a2 : ByteArray) (a3 : Int) (A4 : Option Addr) (c4 : Nat) (l4 : List ByteArray) (b : Bool) (hb0 : b = true) (d1 : ¬ a3 < 0) (d2 : ¬ a3 ≥ (l1.length : Int)) (hw : impl_widths.f k a0 l4 = some b) (d3 : (l4.length : Int) > 64) (w : World) (hG : GOK w) (hr1 : Kd.C Kd.string w A1 l1.length l1) (hc1 : l1.length ≤ c1) (hr4 : Kd.C Kd.string w A4 l4.length l4) (hc4 : l4.length ≤ c4) :
    Calls Tryz.prog 16 #[.int .i64 a0, .slice A1 l1.length c1, .string a2, .int .i64 a3, .slice A4 l4.length c4] w fun e w' => e = .returned (.agg #[.bool false, .string (⟨#[]⟩ : ByteArray), .string (⟨#[]⟩ : ByteArray)]) ∧ Below w.heap.size w w' := by
  have HG := qK hG
  have HC1 := qK hr1
  have HCC1 := qK hc1
  have HC4 := qK hr4
  have HCC4 := qK hc4
  have HB := qK (Below.refl w.heap.size w)
  have hu := Tryz.underlying38
  clear hG hr1 hc1 hr4 hc4
  have d1b := decide_eq_false d1
  clear d1
  have d2b := decide_eq_false d2
  have d2c : decide ((l1.length : Int) ≤ a3) = false := d2b
  clear d2
  have HW := qK hw
  have d3b := decide_eq_true d3
  have d3c : decide ((64 : Int) < (l4.length : Int)) = true := d3b
  clear hw d3
  go_enter Tryz.func16, Tryz.ntmps16
  go_wp2_with (first | ((with_reducible refine gds (N := 5) rfl ?_); refine qbx 5 #[.int .i64 a0] 3 ?_; intro gk hg w' hbox hb; have GK := qK (show w.heap.size ≤ gk by rw [hg]; exact HB.out.size); replace HB := qK (bst HB.out hb); have BK := qK hbox; clear hb hbox hg) | ((with_reducible refine gds (N := 7) rfl ?_); refine qbx 7 #[.string a2] 9 ?_; intro ge hg w' hbox hb; have GE := qK (show w.heap.size ≤ ge by rw [hg]; exact HB.out.size); replace BK := qK (bbe BK.out hb); replace HB := qK (bst HB.out hb); have BE := qK hbox; clear hb hbox hg) | ((with_reducible refine gds (N := 10) rfl ?_); refine qbx 10 #[.bool false, .string (⟨#[]⟩ : ByteArray), .string (⟨#[]⟩ : ByteArray)] 38 ?_; intro g10 hg w' hbox hb; have G10 := qK (show w.heap.size ≤ g10 by rw [hg]; exact HB.out.size); replace BK := qK (bbe BK.out hb); replace BE := qK (bbe BE.out hb); replace HB := qK (bst HB.out hb); have B10 := qK hbox; have hz1 := qz1 BK.out; clear hb hbox hg) | (go_at_call 49; (with_reducible refine (impl_widths.calls k a0 A4 c4 l4 b _ (Kd.Cbe HC4.out HB.out) HCC4.out HW.out).mono ?_); rintro e w' ⟨rfl, ⟨nd, rfl⟩⟩; replace BK := qK (bbe BK.out (pbd (Below.refl _ _) nd)); replace BE := qK (bbe BE.out (pbd (Below.refl _ _) nd)); replace B10 := qK (bbe B10.out (pbd (Below.refl _ _) nd)); replace HB := qK (bst HB.out (pbd (Below.refl _ _) nd)); clear hz1; generalize World.drewN _ nd = w3 at BK BE B10 HB ⊢) | ((with_reducible refine gst (t := 38) (p := 10) rfl ?_); refine wpList_store_row rfl 38 (.tmp 10) (.tmp 35) rfl g10 #[.bool false, .string (⟨#[]⟩ : ByteArray), .string (⟨#[]⟩ : ByteArray)] ?hx ?hy 38 #[.bool false, .string (⟨#[]⟩ : ByteArray), .string (⟨#[]⟩ : ByteArray)] ?hg ?hi ?ho ?h1 ?_; (case hx => rfl); (case hy => rfl); (case hg => exact B10.out); (case hi => exact infoP); (case ho => exact rfl); (case h1 => exact (by simp [Value.oneCell']))))
  replace HB := qK (below_row HB.out G10.out #[.bool false, .string (⟨#[]⟩ : ByteArray), .string (⟨#[]⟩ : ByteArray)])
  replace B10 := qK (heap_row (cs' := #[.bool false, .string (⟨#[]⟩ : ByteArray), .string (⟨#[]⟩ : ByteArray)]) B10.out)
  exact bodyPost_ret (v := .agg #[.bool false, .string (⟨#[]⟩ : ByteArray), .string (⟨#[]⟩ : ByteArray)]) (results_cell_row rfl _ _ g10 38 #[.bool false, .string (⟨#[]⟩ : ByteArray), .string (⟨#[]⟩ : ByteArray)] (0, 0) _ rfl B10.out Tryz.underlying38 rfl infoP) rfl ⟨rfl, HB.out⟩
set_option maxHeartbeats 16000000 in
set_option maxRecDepth 100000 in
theorem cp_claim (k : Nat) (a0 : Int) (A1 : Option Addr) (c1 : Nat) (l1 : List ByteArray) (a2 : ByteArray) (a3 : Int) (A4 : Option Addr) (c4 : Nat) (l4 : List ByteArray) (x : ByteArray) (b ok : Bool) (hb0 : b = true) (d1 : ¬ a3 < 0) (d2 : ¬ a3 ≥ (l1.length : Int)) (hw : impl_widths.f k a0 l4 = some b) (d3 : ¬ (l4.length : Int) > 64) (hcl : impl_claim.f k a0 a2 a3 (l1.length : Int) l4 = some (x, ok)) (hok : ok = false) (w : World) (hG : GOK w) (hr1 : Kd.C Kd.string w A1 l1.length l1) (hc1 : l1.length ≤ c1) (hr4 : Kd.C Kd.string w A4 l4.length l4) (hc4 : l4.length ≤ c4) :
    Calls Tryz.prog 16 #[.int .i64 a0, .slice A1 l1.length c1, .string a2, .int .i64 a3, .slice A4 l4.length c4] w fun e w' => e = .returned (.agg #[.bool false, .string (⟨#[]⟩ : ByteArray), .string (⟨#[]⟩ : ByteArray)]) ∧ Below w.heap.size w w' := by
  have HG := qK hG
  have HC1 := qK hr1
  have HCC1 := qK hc1
  have HC4 := qK hr4
  have HCC4 := qK hc4
  have HB := qK (Below.refl w.heap.size w)
  have hu := Tryz.underlying38
  clear hG hr1 hc1 hr4 hc4
  have d1b := decide_eq_false d1
  clear d1
  have d2b := decide_eq_false d2
  have d2c : decide ((l1.length : Int) ≤ a3) = false := d2b
  clear d2
  have HW := qK hw
  have HCL := qK hcl
  have d3b := decide_eq_false d3
  have d3c : decide ((64 : Int) < (l4.length : Int)) = false := d3b
  clear hw d3 hcl
  go_enter Tryz.func16, Tryz.ntmps16
  go_upto_region 4 with (first | ((with_reducible refine gds (N := 5) rfl ?_); refine qbx 5 #[.int .i64 a0] 3 ?_; intro gk hg w' hbox hb; have GK := qK (show w.heap.size ≤ gk by rw [hg]; exact HB.out.size); replace HB := qK (bst HB.out hb); have BK := qK hbox; clear hb hbox hg) | ((with_reducible refine gds (N := 7) rfl ?_); refine qbx 7 #[.string a2] 9 ?_; intro ge hg w' hbox hb; have GE := qK (show w.heap.size ≤ ge by rw [hg]; exact HB.out.size); replace BK := qK (bbe BK.out hb); replace HB := qK (bst HB.out hb); have BE := qK hbox; clear hb hbox hg) | ((with_reducible refine gds (N := 10) rfl ?_); refine qbx 10 #[.bool false, .string (⟨#[]⟩ : ByteArray), .string (⟨#[]⟩ : ByteArray)] 38 ?_; intro g10 hg w' hbox hb; have G10 := qK (show w.heap.size ≤ g10 by rw [hg]; exact HB.out.size); replace BK := qK (bbe BK.out hb); replace BE := qK (bbe BE.out hb); replace HB := qK (bst HB.out hb); have B10 := qK hbox; have hz1 := qz1 BK.out; clear hb hbox hg) | (go_at_call 49; (with_reducible refine (impl_widths.calls k a0 A4 c4 l4 b _ (Kd.Cbe HC4.out HB.out) HCC4.out HW.out).mono ?_); rintro e w' ⟨rfl, ⟨nd, rfl⟩⟩; replace BK := qK (bbe BK.out (pbd (Below.refl _ _) nd)); replace BE := qK (bbe BE.out (pbd (Below.refl _ _) nd)); replace B10 := qK (bbe B10.out (pbd (Below.refl _ _) nd)); replace HB := qK (bst HB.out (pbd (Below.refl _ _) nd)); clear hz1; generalize World.drewN _ nd = w3 at BK BE B10 HB ⊢))
  have hy1 := qz1 BK.out
  have hy2 := qz1 BE.out
  go_wp2_with (first | (go_at_call 50; (with_reducible refine (impl_claim.calls k a0 a2 a3 (l1.length : Int) A4 c4 l4 x ok _ (HG.out.below HB.out) (Kd.Cbe HC4.out HB.out) HCC4.out HCL.out).mono ?_); rintro e w' ⟨rfl, hb⟩; replace BK := qK (bbe BK.out hb); replace BE := qK (bbe BE.out hb); replace B10 := qK (bbe B10.out hb); replace HB := qK (bst HB.out hb); clear hb hy1 hy2) | ((with_reducible refine gst (t := 38) (p := 10) rfl ?_); refine wpList_store_row rfl 38 (.tmp 10) (.tmp 47) rfl g10 #[.bool false, .string (⟨#[]⟩ : ByteArray), .string (⟨#[]⟩ : ByteArray)] ?hx ?hy 38 #[.bool false, .string (⟨#[]⟩ : ByteArray), .string (⟨#[]⟩ : ByteArray)] ?hg ?hi ?ho ?h1 ?_; (case hx => rfl); (case hy => rfl); (case hg => exact B10.out); (case hi => exact infoP); (case ho => exact rfl); (case h1 => exact (by simp [Value.oneCell']))))
  replace HB := qK (below_row HB.out G10.out #[.bool false, .string (⟨#[]⟩ : ByteArray), .string (⟨#[]⟩ : ByteArray)])
  replace B10 := qK (heap_row (cs' := #[.bool false, .string (⟨#[]⟩ : ByteArray), .string (⟨#[]⟩ : ByteArray)]) B10.out)
  exact bodyPost_ret (v := .agg #[.bool false, .string (⟨#[]⟩ : ByteArray), .string (⟨#[]⟩ : ByteArray)]) (results_cell_row rfl _ _ g10 38 #[.bool false, .string (⟨#[]⟩ : ByteArray), .string (⟨#[]⟩ : ByteArray)] (0, 0) _ rfl B10.out Tryz.underlying38 rfl infoP) rfl ⟨rfl, HB.out⟩
set_option maxHeartbeats 16000000 in
set_option maxRecDepth 100000 in
theorem cp_full (k : Nat) (a0 : Int) (A1 : Option Addr) (c1 : Nat) (l1 : List ByteArray) (a2 : ByteArray) (a3 : Int) (A4 : Option Addr) (c4 : Nat) (l4 : List ByteArray) (x : ByteArray) (b ok : Bool) (hb0 : b = true) (d1 : ¬ a3 < 0) (d2 : ¬ a3 ≥ (l1.length : Int)) (hw : impl_widths.f k a0 l4 = some b) (d3 : ¬ (l4.length : Int) > 64) (hcl : impl_claim.f k a0 a2 a3 (l1.length : Int) l4 = some (x, ok)) (hok : ok = true) (o : CandO) (ho : walkO a0 a2 k a3 l1 l4 = some o) (r1 : Bool) (r2 r3 : ByteArray) (he : endedO a0 o = some (r1, r2, r3)) (w : World) (hG : GOK w) (hr1 : Kd.C Kd.string w A1 l1.length l1) (hc1 : l1.length ≤ c1) (hr4 : Kd.C Kd.string w A4 l4.length l4) (hc4 : l4.length ≤ c4) :
    Calls Tryz.prog 16 #[.int .i64 a0, .slice A1 l1.length c1, .string a2, .int .i64 a3, .slice A4 l4.length c4] w fun e w' => e = .returned (.agg #[.bool r1, .string r2, .string r3]) ∧ Below w.heap.size w w' := by
  have HG := qK hG
  have HC1 := qK hr1
  have HCC1 := qK hc1
  have HC4 := qK hr4
  have HCC4 := qK hc4
  have HB := qK (Below.refl w.heap.size w)
  have hu := Tryz.underlying38
  clear hG hr1 hc1 hr4 hc4
  have d1b := decide_eq_false d1
  clear d1
  have d2b := decide_eq_false d2
  have d2c : decide ((l1.length : Int) ≤ a3) = false := d2b
  clear d2
  have HW := qK hw
  have HCL := qK hcl
  have d3b := decide_eq_false d3
  have d3c : decide ((64 : Int) < (l4.length : Int)) = false := d3b
  clear hw d3 hcl
  have HO := qK ho
  have HE := qK he
  clear ho he
  go_enter Tryz.func16, Tryz.ntmps16
  go_upto_region 4 with (first | ((with_reducible refine gds (N := 5) rfl ?_); refine qbx 5 #[.int .i64 a0] 3 ?_; intro gk hg w' hbox hb; have GK := qK (show w.heap.size ≤ gk by rw [hg]; exact HB.out.size); replace HB := qK (bst HB.out hb); have BK := qK hbox; clear hb hbox hg) | ((with_reducible refine gds (N := 7) rfl ?_); refine qbx 7 #[.string a2] 9 ?_; intro ge hg w' hbox hb; have GE := qK (show w.heap.size ≤ ge by rw [hg]; exact HB.out.size); replace BK := qK (bbe BK.out hb); replace HB := qK (bst HB.out hb); have BE := qK hbox; clear hb hbox hg) | ((with_reducible refine gds (N := 10) rfl ?_); refine qbx 10 #[.bool false, .string (⟨#[]⟩ : ByteArray), .string (⟨#[]⟩ : ByteArray)] 38 ?_; intro g10 hg w' hbox hb; have G10 := qK (show w.heap.size ≤ g10 by rw [hg]; exact HB.out.size); replace BK := qK (bbe BK.out hb); replace BE := qK (bbe BE.out hb); replace HB := qK (bst HB.out hb); have B10 := qK hbox; have hz1 := qz1 BK.out; clear hb hbox hg) | (go_at_call 49; (with_reducible refine (impl_widths.calls k a0 A4 c4 l4 b _ (Kd.Cbe HC4.out HB.out) HCC4.out HW.out).mono ?_); rintro e w' ⟨rfl, ⟨nd, rfl⟩⟩; replace BK := qK (bbe BK.out (pbd (Below.refl _ _) nd)); replace BE := qK (bbe BE.out (pbd (Below.refl _ _) nd)); replace B10 := qK (bbe B10.out (pbd (Below.refl _ _) nd)); replace HB := qK (bst HB.out (pbd (Below.refl _ _) nd)); clear hz1; generalize World.drewN _ nd = w3 at BK BE B10 HB ⊢))
  have hy1 := qz1 BK.out
  have hy2 := qz1 BE.out
  go_upto_region 9 with (first | (go_at_call 50; (with_reducible refine (impl_claim.calls k a0 a2 a3 (l1.length : Int) A4 c4 l4 x ok _ (HG.out.below HB.out) (Kd.Cbe HC4.out HB.out) HCC4.out HCL.out).mono ?_); rintro e w' ⟨rfl, hb⟩; replace BK := qK (bbe BK.out hb); replace BE := qK (bbe BE.out hb); replace B10 := qK (bbe B10.out hb); replace HB := qK (bst HB.out hb); clear hb hy1 hy2) | ((with_reducible refine gds (N := 14) rfl ?_); refine qbx 14 #[.nilFunc] 78 ?_; intro gw hg w' hbox hb; have GW := qK (show w.heap.size ≤ gw by rw [hg]; exact HB.out.size); have NW := qK (show gk ≠ gw ∧ ge ≠ gw ∧ g10 ≠ gw by rw [hg]; exact ⟨Nat.ne_of_lt (blt BK.out), Nat.ne_of_lt (blt BE.out), Nat.ne_of_lt (blt B10.out)⟩); replace BK := qK (bbe BK.out hb); replace BE := qK (bbe BE.out hb); replace B10 := qK (bbe B10.out hb); replace HB := qK (bst HB.out hb); have BW := qK hbox; have hz14 := qz1 BW.out; clear hb hbox hg) | ((with_reducible refine gst (t := 78) (p := 14) rfl ?_); refine wpList_store_oneTo rfl 78 (.tmp 14) (.tmp 48) rfl rfl gw (.func (.func 51) #[] #[.pointer (some ⟨ge, 0, none⟩), .pointer (some ⟨gk, 0, none⟩), .pointer (some ⟨gw, 0, none⟩)]) rfl rfl rfl 78 .nilFunc BW.out (by kernel_rfl) ?_))
  have H1 := qK (blk_row BK.out NW.out.1 #[.func (.func 51) #[] #[.pointer (some ⟨ge, 0, none⟩), .pointer (some ⟨gk, 0, none⟩), .pointer (some ⟨gw, 0, none⟩)]])
  have H2 := qK (blk_row BE.out NW.out.2.1 #[.func (.func 51) #[] #[.pointer (some ⟨ge, 0, none⟩), .pointer (some ⟨gk, 0, none⟩), .pointer (some ⟨gw, 0, none⟩)]])
  have H3 := qK (blk_row B10.out NW.out.2.2 #[.func (.func 51) #[] #[.pointer (some ⟨ge, 0, none⟩), .pointer (some ⟨gk, 0, none⟩), .pointer (some ⟨gw, 0, none⟩)]])
  have H4 := qK (heap_row (cs' := #[.func (.func 51) #[] #[.pointer (some ⟨ge, 0, none⟩), .pointer (some ⟨gk, 0, none⟩), .pointer (some ⟨gw, 0, none⟩)]]) BW.out)
  have H5 := qK (below_row HB.out GW.out #[.func (.func 51) #[] #[.pointer (some ⟨ge, 0, none⟩), .pointer (some ⟨gk, 0, none⟩), .pointer (some ⟨gw, 0, none⟩)]])
  clear hz14 BK BE B10 BW HB
  generalize World.setRow _ gw _ = w5 at H1 H2 H3 H4 H5 ⊢
  refine qs 8 (fun w' => w'.cell? ⟨gk, 0, none⟩ = some (.int .i64 a0) ∧ w'.cell? ⟨gw, 0, none⟩ = some (.func (.func 51) #[] #[.pointer (some ⟨ge, 0, none⟩), .pointer (some ⟨gk, 0, none⟩), .pointer (some ⟨gw, 0, none⟩)])) (ds := [7]) ⟨(bce (bbe H1.out (bd1 (Below.refl _ _))) 0).trans rfl, (bce (bbe H4.out (bd1 (Below.refl _ _))) 0).trans rfl⟩ (fun hHeld => ?_)
  have HS := qK (show ClP w ge gk gw a2 a0 _ from ⟨bst H5.out (bd1 (Below.refl _ _)), bbe H2.out (bd1 (Below.refl _ _)), bbe H1.out (bd1 (Below.refl _ _)), bbe H4.out (bd1 (Below.refl _ _))⟩)
  have B10 := qK (bbe H3.out (bd1 (Below.refl _ _)))
  clear H1 H2 H3 H4 H5
  generalize World.drew _ = w6 at HS hHeld B10 ⊢
  refine qt 0 49 ?_
  refine qt 1 50 ?_
  refine qp 2 51 ?_
  refine qp 3 52 ?_
  refine qp 4 53 ?_
  refine qo 5 54 (fun K hK => ?_)
  refine goesC_ (N := some 54) Tryz.func51 (by kernel_rfl) rfl #[.int .i64 a3, .slice A1 l1.length c1, .slice A4 l4.length c4, .pointer (some ⟨ge, 0, none⟩), .pointer (some ⟨gk, 0, none⟩), .pointer (some ⟨gw, 0, none⟩)] (by rfl) rfl rfl rfl (by (try simp only [List.map_toArray, List.map_cons, List.map_nil]); first | done | rfl) ?_
  with_reducible refine (walk_any a0 a2 w6 ge gk gw (HG.out.below HS.out.hb) k a3 A1 c1 l1 A4 c4 l4 o w6 ⟨Below.refl _ _, HS.out.he, HS.out.hk, HS.out.hw⟩ (Kd.Cbe HC1.out HS.out.hb) HCC1.out (Kd.Cbe HC4.out HS.out.hb) HCC4.out HO.out).mono ?_
  rintro e w7 ⟨rfl, hs⟩
  replace HS := qK (HS.out.below hs.hb)
  replace B10 := qK (bbe B10.out hs.hb)
  clear hs
  refine ⟨_, rfl, ?_⟩
  refine hK.out _ _ ⟨HS.out.ck, HS.out.cw⟩ (fun hHeld => ?_)
  clear hK K
  refine norm_ (a' := ?_) ?_ ?_
  rotate_left
  · show Act.put _ (some 54) _ = _
    simp only [Act.put, List.setIfInBounds_toArray, List.set_cons_zero, List.set_cons_succ, i64_w, i32_w]
    rfl
  refine qo 6 55 (fun K hK => ?_)
  refine gG Tryz.func56 #[.int .i64 a0, errV o] ?_
  with_reducible refine (ended_any a0 o r1 r2 r3 _ (HG.out.below HS.out.hb) HE.out).mono ?_
  rintro e w8 ⟨rfl, hb⟩
  replace HS := qK (HS.out.below hb)
  replace B10 := qK (bbe B10.out hb)
  clear hb
  refine ⟨_, rfl, ?_⟩
  refine hK.out _ _ ⟨HS.out.ck, HS.out.cw⟩ (fun hHeld => ?_)
  clear hK K
  refine norm_ (a' := ?_) ?_ ?_
  rotate_left
  · show Act.put _ (some 55) _ = _
    simp only [Act.put, List.setIfInBounds_toArray, List.set_cons_zero, List.set_cons_succ, i64_w, i32_w]
    rfl
  refine last_ (i := 7) (N := none) #[true, true, true, true, true, true, true, true] rfl rfl (by kernel_rfl) (by decide) (fun K hK => ?_)
  refine skip_ (by rfl) rfl (exec_store_rowC 38 (.tmp 10) (.tmp 55) rfl g10 #[.bool r1, .string r2, .string r3] rfl rfl 38 #[.bool false, .string (⟨#[]⟩ : ByteArray), .string (⟨#[]⟩ : ByteArray)] B10.out infoP rfl (by simp [Value.oneCell'])) ?_
  refine hK.out _ _ ?_
  clear hK K
  refine done_ (by kernel_rfl) ?_
  try go_wp2
  have HB := qK (HS.out.hb)
  replace HB := qK (below_row HB.out G10.out #[.bool r1, .string r2, .string r3])
  replace B10 := qK (heap_row (cs' := #[.bool r1, .string r2, .string r3]) B10.out)
  exact bodyPost_ret (v := .agg #[.bool r1, .string r2, .string r3]) (results_cell_row rfl _ _ g10 38 #[.bool r1, .string r2, .string r3] (0, 0) _ rfl B10.out Tryz.underlying38 rfl infoP) rfl ⟨rfl, HB.out⟩
theorem CollidePath_any (k : Nat) (a0 : Int) (A1 : Option Addr) (c1 : Nat) (l1 : List ByteArray) (a2 : ByteArray) (a3 : Int) (A4 : Option Addr) (c4 : Nat) (l4 : List ByteArray) (r1 : Bool) (r2 r3 : ByteArray) (w : World) (hG : GOK w) (hr1 : Kd.C Kd.string w A1 l1.length l1) (hc1 : l1.length ≤ c1) (hr4 : Kd.C Kd.string w A4 l4.length l4) (hc4 : l4.length ≤ c4) (h : impl_CollidePath.f k a0 l1 a2 a3 l4 = some (r1, r2, r3)) :
    Calls Tryz.prog 16 #[.int .i64 a0, .slice A1 l1.length c1, .string a2, .int .i64 a3, .slice A4 l4.length c4] w fun e w' => e = .returned (.agg #[.bool r1, .string r2, .string r3]) ∧ Below w.heap.size w w' := by
  unfold impl_CollidePath.f at h
  by_cases d1 : a3 < 0
  · rw [if_pos d1] at h
    obtain ⟨rfl, rfl, rfl⟩ : false = r1 ∧ (⟨#[]⟩ : ByteArray) = r2 ∧ (⟨#[]⟩ : ByteArray) = r3 := by simpa using h
    exact cp_low k a0 A1 c1 l1 a2 a3 A4 c4 l4 d1 w hG hr1 hc1 hr4 hc4
  rw [if_neg d1] at h
  by_cases d2 : a3 ≥ (l1.length : Int)
  · rw [if_pos d2] at h
    obtain ⟨rfl, rfl, rfl⟩ : false = r1 ∧ (⟨#[]⟩ : ByteArray) = r2 ∧ (⟨#[]⟩ : ByteArray) = r3 := by simpa using h
    exact cp_high k a0 A1 c1 l1 a2 a3 A4 c4 l4 d1 d2 w hG hr1 hc1 hr4 hc4
  rw [if_neg d2] at h
  obtain ⟨b, hw, h⟩ := Option.bind_eq_some_iff.mp h
  by_cases hb : b = true
  · rw [if_pos hb] at h
    by_cases d3 : (l4.length : Int) > 64
    · rw [if_pos d3] at h
      obtain ⟨rfl, rfl, rfl⟩ : false = r1 ∧ (⟨#[]⟩ : ByteArray) = r2 ∧ (⟨#[]⟩ : ByteArray) = r3 := by simpa using h
      exact cp_long k a0 A1 c1 l1 a2 a3 A4 c4 l4 b hb d1 d2 hw d3 w hG hr1 hc1 hr4 hc4
    rw [if_neg d3] at h
    obtain ⟨c, hcl, h⟩ := Option.bind_eq_some_iff.mp h
    obtain ⟨x, ok⟩ := c
    by_cases hok : ok = true
    · rw [if_pos hok] at h
      obtain ⟨o, ho, h⟩ := Option.bind_eq_some_iff.mp h
      exact cp_full k a0 A1 c1 l1 a2 a3 A4 c4 l4 x b ok hb d1 d2 hw d3 hcl hok o ho r1 r2 r3 h w hG hr1 hc1 hr4 hc4
    · rw [if_neg hok] at h
      obtain ⟨rfl, rfl, rfl⟩ : false = r1 ∧ (⟨#[]⟩ : ByteArray) = r2 ∧ (⟨#[]⟩ : ByteArray) = r3 := by simpa using h
      exact cp_claim k a0 A1 c1 l1 a2 a3 A4 c4 l4 x b ok hb d1 d2 hw d3 hcl (by simpa using hok) w hG hr1 hc1 hr4 hc4
  · rw [if_neg hb] at h
    obtain ⟨rfl, rfl, rfl⟩ : false = r1 ∧ (⟨#[]⟩ : ByteArray) = r2 ∧ (⟨#[]⟩ : ByteArray) = r3 := by simpa using h
    exact cp_widths k a0 A1 c1 l1 a2 a3 A4 c4 l4 b (by simpa using hb) d1 d2 hw w hG hr1 hc1 hr4 hc4
end Go.Proofs.YtajkbbifemeanaaGreatDoor.L
end
