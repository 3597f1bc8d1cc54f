/- The texts that the proof of the law FnLiePath rests on, part 2: printed functions with their contracts, words, plain laws; the last part ends in the statement itself. No condition but those that each theorem states. -/
import Derived.Test.YtajkbbifemeanaaGreatDoorKFnLiePath1
set_option linter.unusedVariables false
set_option linter.unusedSimpArgs false
section
namespace Go.Proofs.YtajkbbifemeanaaGreatDoor.L
open Go.RowKit Go.Proofs.YtajkbbifemeanaaGreatDoorW.PrintWords Go.Proofs.YtajkbbifemeanaaGreatDoorW.PrintLast Go.Proofs.YtajkbbifemeanaaGreatDoorW.PrintMore
attribute [local go_sem] max2_int min2_int max_two min_two max_three min_three max_four min_four
set_option linter.unusedVariables false
set_option linter.unusedSimpArgs false
def spec_Digest.f (k : Nat) (a0 : Int) (a1 : ByteArray) : Option (ByteArray) := if a0 = 0 then ((spec_Sha256.f k a1).bind fun t184 => (some t184)) else (if a0 = 1 then ((spec_Sha256.f k a1).bind fun t185 => (if 0 ≤ 1 then (if 1 ≤ (t185.size : Int) then (some (t185.extract 0 1)) else (none)) else (none))) else (some (⟨#[]⟩ : ByteArray)))
theorem spec_Digest.mono : ∀ a0 a1 k, LeO (spec_Digest.f k a0 a1) (spec_Digest.f (k + 1) a0 a1) := by
  intro a0 a1 k
  unfold spec_Digest.f
  repeat' first
    | (with_reducible first | exact spec_Sha256.mono .. | exact LeO.refl _ | exact LeO.none _ | refine LeO.ite ?_ ?_ | refine LeO.bind ?_ (fun _ => ?_))
    | exact spec_Sha256.mono .. | exact LeO.none _ | refine LeO.ite ?_ ?_ | refine LeO.bind ?_ (fun _ => ?_)
set_option maxHeartbeats 8000000 in
set_option maxRecDepth 100000 in
theorem spec_Digest.calls (k : Nat) (a0 : Int) (a1 : ByteArray) (r : ByteArray) (w : World) (h : spec_Digest.f k a0 a1 = some r) :
    Calls Tryz.prog 30 #[.int .i64 a0, .string a1] w fun e w' => e = .returned (.string r) ∧ Below w.heap.size w w' := by
  have HB := qK (Below.refl w.heap.size w); have H : (if a0 = 0 then ((spec_Sha256.f k a1).bind fun t184 => (some t184)) else (if a0 = 1 then ((spec_Sha256.f k a1).bind fun t185 => (if 0 ≤ 1 then (if 1 ≤ (t185.size : Int) then (some (t185.extract 0 1)) else (none)) else (none))) else (some (⟨#[]⟩ : ByteArray)))) = some r := h; clear h; by_cases c3 : a0 = 0
  · rw [if_pos c3] at H; obtain ⟨c3b0, c3b1⟩ := qe c3; clear c3; obtain ⟨t184, A4, H⟩ := qbi H; obtain rfl := qsi H; go_enter Tryz.func30, Tryz.ntmps30; go_wp2_with (first | ((with_reducible refine gcl (f := 71) rfl ?_); refine gL 9 Tryz.func71 #[.string a1] ?_; (with_reducible refine (spec_Sha256.calls k a1 t184 _ A4.out).mono ?_); rintro e w5 ⟨rfl, hb⟩; refine ⟨_, rfl, ?_⟩; replace HB := qHB HB hb; (try clear hb))); go_ret; exact ⟨qR, qB⟩
  · rw [if_neg c3] at H; obtain ⟨c3b0, c3b1⟩ := qn c3; by_cases c6 : a0 = 1
    · rw [if_pos c6] at H; obtain ⟨c6b0, c6b1⟩ := qe c6; clear c6; obtain ⟨t185, A7, H⟩ := qbi H; by_cases c8 : 0 ≤ 1
      · rw [if_pos c8] at H; have c8b0 := eq_true c8; have c8b1 := decide_eq_true c8; clear c8; by_cases c9 : 1 ≤ (t185.size : Int)
        · rw [if_pos c9] at H; have c9b0 := eq_true c9; have c9b1 := decide_eq_true c9; clear c9; obtain rfl := qsi H; go_enter Tryz.func30, Tryz.ntmps30; go_wp2_with (first | ((with_reducible refine gcl (f := 71) rfl ?_); refine gL 13 Tryz.func71 #[.string a1] ?_; (with_reducible refine (spec_Sha256.calls k a1 t185 _ A7.out).mono ?_); rintro e w10 ⟨rfl, hb⟩; refine ⟨_, rfl, ?_⟩; replace HB := qHB HB hb; (try clear hb))); go_ret; exact ⟨qR, qB⟩
        · rw [if_neg c9] at H; exact absurd H (by simp)
      · rw [if_neg c8] at H; exact absurd H (by simp)
    · rw [if_neg c6] at H; obtain ⟨c6b0, c6b1⟩ := qn c6; obtain rfl := qsi H; go_enter Tryz.func30, Tryz.ntmps30; go_wp2; go_ret; exact ⟨qR, qB⟩
def spec_Leaf.f (k : Nat) (a0 : Int) (a1 : ByteArray) : Option (ByteArray) := if 1 + a1.size ≤ 9223372036854775807 then ((spec_Digest.f k a0 ((⟨#[0]⟩ : ByteArray) ++ a1)).bind fun t186 => (some t186)) else (none)
theorem spec_Leaf.mono : ∀ a0 a1 k, LeO (spec_Leaf.f k a0 a1) (spec_Leaf.f (k + 1) a0 a1) := by
  intro a0 a1 k
  unfold spec_Leaf.f
  repeat' first
    | (with_reducible first | exact spec_Digest.mono .. | exact LeO.refl _ | exact LeO.none _ | refine LeO.ite ?_ ?_ | refine LeO.bind ?_ (fun _ => ?_))
    | exact spec_Digest.mono .. | exact LeO.none _ | refine LeO.ite ?_ ?_ | refine LeO.bind ?_ (fun _ => ?_)
set_option maxHeartbeats 8000000 in
set_option maxRecDepth 100000 in
theorem spec_Leaf.calls (k : Nat) (a0 : Int) (a1 : ByteArray) (r : ByteArray) (w : World) (h : spec_Leaf.f k a0 a1 = some r) :
    Calls Tryz.prog 31 #[.int .i64 a0, .string a1] w fun e w' => e = .returned (.string r) ∧ Below w.heap.size w w' := by
  have HB := qK (Below.refl w.heap.size w); have H : (if 1 + a1.size ≤ 9223372036854775807 then ((spec_Digest.f k a0 ((⟨#[0]⟩ : ByteArray) ++ a1)).bind fun t186 => (some t186)) else (none)) = some r := h; clear h; by_cases c3 : 1 + a1.size ≤ 9223372036854775807
  · rw [if_pos c3] at H; have c3b0 := eq_true c3; have c3b1 := decide_eq_true c3; (try have c3b2 : (9223372036854775807 < 1 + a1.size) = False := eq_false (Nat.not_lt.2 c3)); obtain ⟨t186, A4, H⟩ := qbi H; obtain rfl := qsi H; go_enter Tryz.func31, Tryz.ntmps31; go_wp2_with (first | ((with_reducible refine gcl (f := 30) rfl ?_); refine gL 8 Tryz.func30 #[.int .i64 a0, .string ((⟨#[0]⟩ : ByteArray) ++ a1)] ?_; (with_reducible refine (spec_Digest.calls k a0 ((⟨#[0]⟩ : ByteArray) ++ a1) t186 _ A4.out).mono ?_); rintro e w5 ⟨rfl, hb⟩; refine ⟨_, rfl, ?_⟩; replace HB := qHB HB hb; (try clear hb))); go_ret; exact ⟨qR, qB⟩
  · rw [if_neg c3] at H; exact absurd H (by simp)
def spec_l2Split.l0 : Nat → Int → Int → Option (Int)
  | 0, _, _ => none
  | k + 1, x0, x3 => if (wrap64 (2 * x3)) < x0 then (spec_l2Split.l0 k x0 (wrap64 (2 * x3))) else (some x3)
def spec_l2Split.f (k : Nat) (a0 : Int) : Option (Int) := spec_l2Split.l0 k a0 1
theorem spec_l2Split.mono_l : ∀ k, (∀ y0 y1, LeO (spec_l2Split.l0 k y0 y1) (spec_l2Split.l0 (k + 1) y0 y1))
  | 0 => fun _ _ r h => by simp [spec_l2Split.l0] at h
  | k + 1 => by
    have ih0 := spec_l2Split.mono_l k
    · intro y0 y1
      unfold spec_l2Split.l0
      repeat' first
        | (with_reducible first | exact ih0 .. | exact LeO.refl _ | exact LeO.none _ | refine LeO.ite ?_ ?_ | refine LeO.bind ?_ (fun _ => ?_))
        | exact ih0 .. | exact LeO.none _ | refine LeO.ite ?_ ?_ | refine LeO.bind ?_ (fun _ => ?_)
theorem spec_l2Split.mono : ∀ a0 k, LeO (spec_l2Split.f k a0) (spec_l2Split.f (k + 1) a0) := by
  intro a0 k
  have ih0 := spec_l2Split.mono_l k
  unfold spec_l2Split.f
  repeat' first
    | (with_reducible first | exact ih0 .. | exact LeO.refl _ | exact LeO.none _ | refine LeO.ite ?_ ?_ | refine LeO.bind ?_ (fun _ => ?_))
    | exact ih0 .. | exact LeO.none _ | refine LeO.ite ?_ ?_ | refine LeO.bind ?_ (fun _ => ?_)
set_option maxHeartbeats 8000000 in
set_option maxRecDepth 100000 in
theorem spec_l2Split.calls (k : Nat) (a0 : Int) (r : Int) (w : World) (h : spec_l2Split.f k a0 = some r) :
    Calls Tryz.prog 32 #[.int .i64 a0] w fun e w' => e = .returned (.int .i64 r) ∧ Drawn0 w w' := by
  have H : (spec_l2Split.l0 k a0 1) = some r := h; clear h; have H' := qK H; clear H; go_enter Tryz.func32, Tryz.ntmps32; go_wp2; go_loopg [3] k (fun kq v3 w' => ∃ (x3_1 : Int), v3 = .int .i64 x3_1 ∧ Aside0 (spec_l2Split.l0 kq a0 x3_1 = some r) ∧ Aside0 (kq ≤ k) ∧ Drawn0 w w')
  case atStart => exact ⟨(1), qS, H', ⟨Nat.le_refl _⟩, by repeat (first | exact Drawn0.refl _ | apply Drawn0.step)⟩
  case round =>
    clear H'; obtain ⟨x3_1, rfl, HA, HK1, ⟨m1, rfl⟩⟩ := hrel
    cases gk with
    | zero => exact absurd HA.out (by simp [spec_l2Split.l0])
    | succ k1 =>
      have H := HA.out; clear HA; simp only [spec_l2Split.l0] at H; by_cases c2 : (wrap64 (2 * x3_1)) < a0
      · rw [if_pos c2] at H; have c2b0 := decide_eq_true c2; clear c2; have H' := qK H; clear H; go_wp2; go_roundg k1
        case measure => have := HK1.out; omega
        case rel => exact ⟨(wrap64 (2 * x3_1)), qS, H', ⟨by have := HK1.out; omega⟩, by repeat (first | exact Drawn0.refl _ | apply Drawn0.step)⟩
      · rw [if_neg c2] at H; have c2b0 := decide_eq_false c2; clear c2; obtain rfl := qsi H; go_wp2; go_ret; exact ⟨by first | rfl | (simp; done) | (simp [*]; done), by repeat (first | exact Drawn0.refl _ | apply Drawn0.step)⟩
def spec_Node.f (k : Nat) (a0 : Int) (a1 : ByteArray) (a2 : ByteArray) : Option (ByteArray) := if 1 + a1.size ≤ 9223372036854775807 then (if ((⟨#[1]⟩ : ByteArray) ++ a1).size + a2.size ≤ 9223372036854775807 then ((spec_Digest.f k a0 (((⟨#[1]⟩ : ByteArray) ++ a1) ++ a2)).bind fun t187 => (some t187)) else (none)) else (none)
theorem spec_Node.mono : ∀ a0 a1 a2 k, LeO (spec_Node.f k a0 a1 a2) (spec_Node.f (k + 1) a0 a1 a2) := by
  intro a0 a1 a2 k
  unfold spec_Node.f
  repeat' first
    | (with_reducible first | exact spec_Digest.mono .. | exact LeO.refl _ | exact LeO.none _ | refine LeO.ite ?_ ?_ | refine LeO.bind ?_ (fun _ => ?_))
    | exact spec_Digest.mono .. | exact LeO.none _ | refine LeO.ite ?_ ?_ | refine LeO.bind ?_ (fun _ => ?_)
set_option maxHeartbeats 8000000 in
set_option maxRecDepth 100000 in
theorem spec_Node.calls (k : Nat) (a0 : Int) (a1 : ByteArray) (a2 : ByteArray) (r : ByteArray) (w : World) (h : spec_Node.f k a0 a1 a2 = some r) :
    Calls Tryz.prog 33 #[.int .i64 a0, .string a1, .string a2] w fun e w' => e = .returned (.string r) ∧ Below w.heap.size w w' := by
  have HB := qK (Below.refl w.heap.size w); have H : (if 1 + a1.size ≤ 9223372036854775807 then (if ((⟨#[1]⟩ : ByteArray) ++ a1).size + a2.size ≤ 9223372036854775807 then ((spec_Digest.f k a0 (((⟨#[1]⟩ : ByteArray) ++ a1) ++ a2)).bind fun t187 => (some t187)) else (none)) else (none)) = some r := h; clear h; by_cases c4 : 1 + a1.size ≤ 9223372036854775807
  · rw [if_pos c4] at H; have c4b0 := eq_true c4; have c4b1 := decide_eq_true c4; (try have c4b2 : (9223372036854775807 < 1 + a1.size) = False := eq_false (Nat.not_lt.2 c4)); by_cases c5 : ((⟨#[1]⟩ : ByteArray) ++ a1).size + a2.size ≤ 9223372036854775807
    · rw [if_pos c5] at H; have c5b0 := eq_true c5; have c5b1 := decide_eq_true c5; (try have c5b2 : (9223372036854775807 < ((⟨#[1]⟩ : ByteArray) ++ a1).size + a2.size) = False := eq_false (Nat.not_lt.2 c5)); obtain ⟨t187, A6, H⟩ := qbi H; obtain rfl := qsi H; go_enter Tryz.func33, Tryz.ntmps33; go_wp2_with (first | ((with_reducible refine gcl (f := 30) rfl ?_); refine gL 12 Tryz.func30 #[.int .i64 a0, .string (((⟨#[1]⟩ : ByteArray) ++ a1) ++ a2)] ?_; (with_reducible refine (spec_Digest.calls k a0 (((⟨#[1]⟩ : ByteArray) ++ a1) ++ a2) t187 _ A6.out).mono ?_); rintro e w7 ⟨rfl, hb⟩; refine ⟨_, rfl, ?_⟩; replace HB := qHB HB hb; (try clear hb))); go_ret; exact ⟨qR, qB⟩
    · rw [if_neg c5] at H; exact absurd H (by simp)
  · rw [if_neg c4] at H; exact absurd H (by simp)
def spec_Root.f : Nat → Int → List ByteArray → Option (ByteArray)
  | 0, _, _ => none
  | k + 1, a0, l1 => if (l1.length : Int) = 0 then ((spec_Digest.f k a0 (⟨#[]⟩ : ByteArray)).bind fun t188 => (some t188)) else (if (l1.length : Int) = 1 then (if 0 < (l1.length : Int) then ((spec_Leaf.f k a0 (rdOf ByteArray.empty l1 0)).bind fun t190 => (some t190)) else (none)) else ((spec_l2Split.f k (l1.length : Int)).bind fun t191 => (if 0 ≤ t191 then (if t191 ≤ (l1.length : Int) then ((spec_Root.f k a0 (l1.take (t191 : Int).toNat)).bind fun t193 => ((spec_Root.f k a0 (l1.drop (t191 : Int).toNat)).bind fun t195 => ((spec_Node.f k a0 t193 t195).bind fun t196 => (some t196)))) else (none)) else (none))))
theorem spec_Root.mono_l : ∀ k, (∀ y0 y1, LeO (spec_Root.f k y0 y1) (spec_Root.f (k + 1) y0 y1))
  | 0 => fun _ _ r h => by simp [spec_Root.f] at h
  | k + 1 => by
    have ih0 := spec_Root.mono_l k
    · intro y0 y1
      unfold spec_Root.f
      repeat' first
        | (with_reducible first | exact ih0 .. | exact spec_Digest.mono .. | exact spec_Leaf.mono .. | exact spec_Node.mono .. | exact spec_l2Split.mono .. | exact LeO.refl _ | exact LeO.none _ | refine LeO.ite ?_ ?_ | refine LeO.bind ?_ (fun _ => ?_))
        | exact ih0 .. | exact spec_Digest.mono .. | exact spec_Leaf.mono .. | exact spec_Node.mono .. | exact spec_l2Split.mono .. | exact LeO.none _ | refine LeO.ite ?_ ?_ | refine LeO.bind ?_ (fun _ => ?_)
theorem spec_Root.mono : ∀ a0 a1 k, LeO (spec_Root.f k a0 a1) (spec_Root.f (k + 1) a0 a1) := by
  intro a0 a1 k
  have ih0 := spec_Root.mono_l k
  exact ih0 a0 a1
def spec_Root.T7 : Bool × List (List Nat × List Nat) := (true, [([], []), ([], []), ([], []), ([], []), ([2, 3], [2, 3]), ([1, 4], [1, 4]), ([], []), ([], []), ([], []), ([7, 8], [7, 8]), ([6, 9, 5], [6, 9]), ([0, 5, 10, 10], [0, 5, 10]), ([11, 11, 0, 1, 2, 3, 4, 5, 6, 7, 8, 9, 10, 11], [11])])
def spec_Root.B7 : List Nat := [0, 0, 0, 0, 12, 30, 0, 0, 0, 384, 1022, 2047, 4095]
theorem spec_Root.tab7 : rtab .any (opsOf Tryz.f9 7) = spec_Root.T7 := by kernel_rfl
theorem spec_Root.bits7 : waitsOk spec_Root.T7.2 spec_Root.B7 = true := by kernel_rfl
set_option maxHeartbeats 8000000 in
set_option maxRecDepth 100000 in
theorem spec_Root.calls (k : Nat) : ∀ (a0 : Int) (A1 : Option Addr) (c1 : Nat) (l1 : List ByteArray) (r : ByteArray) (w : World) (hr1 : Kd.C Kd.string w A1 l1.length l1) (hc1 : l1.length ≤ c1) (h : spec_Root.f k a0 l1 = some r),
    Calls Tryz.prog 9 #[.int .i64 a0, .slice A1 l1.length c1] w fun e w' => e = .returned (.string r) ∧ Below w.heap.size w w' := by
  induction k using Nat.strongRecOn with
  | _ k ih =>
  intro a0 A1 c1 l1 r w hr1 hc1 h
  cases k with
  | zero => exact absurd h (by simp [spec_Root.f])
  | succ k =>
  simp only [spec_Root.f] at h; have HR1 := qK hr1; have HC1 := qK hc1; clear hr1 hc1; have HB := qK (Below.refl w.heap.size w); have H : (if (l1.length : Int) = 0 then ((spec_Digest.f k a0 (⟨#[]⟩ : ByteArray)).bind fun t188 => (some t188)) else (if (l1.length : Int) = 1 then (if 0 < (l1.length : Int) then ((spec_Leaf.f k a0 (rdOf ByteArray.empty l1 0)).bind fun t190 => (some t190)) else (none)) else ((spec_l2Split.f k (l1.length : Int)).bind fun t191 => (if 0 ≤ t191 then (if t191 ≤ (l1.length : Int) then ((spec_Root.f k a0 (l1.take (t191 : Int).toNat)).bind fun t193 => ((spec_Root.f k a0 (l1.drop (t191 : Int).toNat)).bind fun t195 => ((spec_Node.f k a0 t193 t195).bind fun t196 => (some t196)))) else (none)) else (none))))) = some r := h; clear h; by_cases c3 : (l1.length : Int) = 0
  · rw [if_pos c3] at H; obtain ⟨c3b0, c3b1⟩ := qe c3; clear c3; obtain ⟨t188, A4, H⟩ := qbi H; obtain rfl := qsi H; go_enter Tryz.func9, Tryz.ntmps9; go_wp2_with (first | ((with_reducible refine gcl (f := 30) rfl ?_); refine gL 11 Tryz.func30 #[.int .i64 a0, .string (⟨#[]⟩ : ByteArray)] ?_; (with_reducible refine (spec_Digest.calls k a0 (⟨#[]⟩ : ByteArray) t188 _ A4.out).mono ?_); rintro e w5 ⟨rfl, hb⟩; refine ⟨_, rfl, ?_⟩; replace HB := qHB HB hb; (try clear hb))); go_ret; exact ⟨qR, qB⟩
  · rw [if_neg c3] at H; obtain ⟨c3b0, c3b1⟩ := qn c3; have c3b2 : ¬ (l1 = []) := fun h_ => c3 (by rw [h_]; rfl); by_cases c6 : (l1.length : Int) = 1
    · rw [if_pos c6] at H; obtain ⟨c6b0, c6b1⟩ := qe c6; clear c6; by_cases c7 : 0 < (l1.length : Int)
      · rw [if_pos c7] at H; have c7b0 := decide_eq_true c7; have c7b1 : decide (0 < l1.length) = true := decide_eq_true (by omega); clear c7; obtain ⟨t190, A8, H⟩ := qbi H; obtain rfl := qsi H; have p189 : 0 ≤ (0 : Int) := (by omega); have q189 : 0 < (l1.length : Int) := of_decide_eq_true qa; obtain ⟨ad189, e189, hx189_0⟩ := Kd.at_string HR1.out 0 p189 q189; cases e189; have qi189 : (0 < l1.length) = True := eq_true (by omega); (try rw [show ((0 : Int)).toNat = 0 from rfl] at hx189_0); (try rw [Addr.add_zero'] at hx189_0); replace p189 := eq_true p189; replace q189 := eq_true q189; go_enter Tryz.func9, Tryz.ntmps9; go_wp2_with (first | ((with_reducible refine gcl (f := 31) rfl ?_); refine gL 18 Tryz.func31 #[.int .i64 a0, .string (rdOf ByteArray.empty l1 0)] ?_; (with_reducible refine (spec_Leaf.calls k a0 (rdOf ByteArray.empty l1 0) t190 _ A8.out).mono ?_); rintro e w9 ⟨rfl, hb⟩; refine ⟨_, rfl, ?_⟩; replace HB := qHB HB hb; (try clear hb))); go_ret; exact ⟨qR, qB⟩
      · rw [if_neg c7] at H; exact absurd H (by simp)
    · rw [if_neg c6] at H; obtain ⟨c6b0, c6b1⟩ := qn c6; obtain ⟨t191, A10, H⟩ := qbi H; by_cases c11 : 0 ≤ t191
      · rw [if_pos c11] at H; have c11b0 := eq_true c11; have c11b1 := decide_eq_true c11; clear c11; by_cases c12 : t191 ≤ (l1.length : Int)
        · rw [if_pos c12] at H; have c12b0 := eq_true c12; have c12b1 := decide_eq_true c12; clear c12; obtain ⟨t193, A13, H⟩ := qbi H; have c14b0 := eq_true (of_decide_eq_true qa : 0 ≤ t191); have c15b0 := eq_true (of_decide_eq_true qa : t191 ≤ (l1.length : Int)); obtain ⟨t195, A16, H⟩ := qbi H; obtain ⟨t196, A17, H⟩ := qbi H; obtain rfl := qsi H; go_enter Tryz.func9, Tryz.ntmps9; (try go_wp2_with (first | ((with_reducible refine gcl (f := 32) rfl ?_); refine gL 21 Tryz.func32 #[.int .i64 (l1.length : Int)] ?_; (with_reducible refine (spec_l2Split.calls k (l1.length : Int) t191 _ A10.out).mono ?_); rintro e w' ⟨rfl, ⟨nd, rfl⟩⟩; refine ⟨_, rfl, ?_⟩))); replace HB := qK (bd1 (pbd HB.out nd)); obtain ⟨i019, hi019, _, hsz19, _⟩ := info_parts info9; obtain ⟨hcut19, hA19, hC19⟩ := print_take_of (P := Tryz.prog) Value.string (⟨#[]⟩ : ByteArray) 23 9 .i64 Tryz.underlying23 hi019 hsz19 A1 c1 l1 t191 (of_decide_eq_true qa) (of_decide_eq_true qa) HC1.out; have HR192 := qK (Kd.C_of_reads (h1 := fun _ => rfl) (hA19 _ (Kd.reads_of_C HR1.out))); have HC192 := qK hC19; clear hA19 hC19 hi019 hsz19; obtain ⟨i020, hi020, _, hsz20, _⟩ := info_parts info9; obtain ⟨A20, hcut20, hA20, hC20⟩ := print_drop_of (P := Tryz.prog) Value.string (⟨#[]⟩ : ByteArray) 23 9 .i64 Tryz.underlying23 hi020 hsz20 A1 c1 l1 t191 (of_decide_eq_true qa) (of_decide_eq_true qa) HC1.out; have HR194 := qK (Kd.C_of_reads (h1 := fun _ => rfl) (hA20 _ (Kd.reads_of_C HR1.out))); have HC194 := qK hC20; clear hA20 hC20 hi020 hsz20; refine qs 13 (fun w' => True) (ds := []) trivial (fun hHeld => ?_); refine with_tabW spec_Root.tab7 spec_Root.bits7 (fun HT_ HW_ => ?_); generalize (w.drewN nd).drew = w18 at HB HR192 HR194 hHeld ⊢; refine qp 0 22 ?_; refine qp 1 23 ?_; refine qp 2 24 ?_; refine qp 3 25 ?_; refine qp 4 26 ?_; refine qp 6 28 ?_; refine qp 7 29 ?_; refine qp 8 30 ?_; refine qp 9 31 ?_; refine qo 5 27 (fun K hK => ?_); refine goes_ Tryz.func9 (by kernel_rfl) rfl #[.int .i64 a0, .slice A1 (l1.take (t191 : Int).toNat).length c1] (by rfl) rfl rfl (by (try simp only [List.map_toArray, List.map_cons, List.map_nil]); first | done | (rw [show (l1.take (t191 : Int).toNat).length = t191.toNat from (by rw [List.length_take]; have h_ : (t191 : Int) ≤ (l1.length : Int) := of_decide_eq_true qa; omega)] <;> rfl) | rfl | (simp only [List.length_drop, List.length_take]; rfl)) ?_; (with_reducible refine (ih k (by omega) a0 _ _ (l1.take (t191 : Int).toNat) t193 _ ?side1 ?side2 A13.out).mono ?_); (case side1 => exact qC HR192); (case side2 => exact HC192.out); rintro e w21 ⟨rfl, hb⟩; refine ⟨_, rfl, ?_⟩; replace HB := qHB HB hb; (try clear hb); refine hK.out _ _ trivial (fun hHeld => ?_); clear hK K; refine norm_ (a' := ?_) ?_ ?_; rotate_left
          · show Act.put _ (some 27) _ = _; simp only [Act.put, List.setIfInBounds_toArray, List.set_cons_zero, List.set_cons_succ, i64_w, i32_w]; rfl
          refine qo 10 32 (fun K hK => ?_); refine goes_ Tryz.func9 (by kernel_rfl) rfl #[.int .i64 a0, .slice A20 (l1.drop (t191 : Int).toNat).length (c1 - t191.toNat)] (by rfl) rfl rfl (by (try simp only [List.map_toArray, List.map_cons, List.map_nil]); first | done | (rw [show (l1.drop (t191 : Int).toNat).length = (l1.length - t191.toNat) from List.length_drop] <;> rfl) | rfl | (simp only [List.length_drop, List.length_take]; rfl)) ?_; (with_reducible refine (ih k (by omega) a0 _ _ (l1.drop (t191 : Int).toNat) t195 _ ?side1 ?side2 A16.out).mono ?_); (case side1 => exact qC HR194); (case side2 => exact HC194.out); rintro e w22 ⟨rfl, hb⟩; refine ⟨_, rfl, ?_⟩; replace HB := qHB HB hb; (try clear hb); refine hK.out _ _ trivial (fun hHeld => ?_); clear hK K; refine norm_ (a' := ?_) ?_ ?_; rotate_left
          · show Act.put _ (some 32) _ = _; simp only [Act.put, List.setIfInBounds_toArray, List.set_cons_zero, List.set_cons_succ, i64_w, i32_w]; rfl
          refine qo 11 33 (fun K hK => ?_); refine gG Tryz.func33 #[.int .i64 a0, .string t193, .string t195] ?_; (with_reducible refine (spec_Node.calls k a0 t193 t195 t196 _ A17.out).mono ?_); rintro e w23 ⟨rfl, hb⟩; refine ⟨_, rfl, ?_⟩; replace HB := qHB HB hb; (try clear hb); refine hK.out _ _ trivial (fun hHeld => ?_); clear hK K; refine norm_ (a' := ?_) ?_ ?_; rotate_left
          · show Act.put _ (some 33) _ = _; simp only [Act.put, List.setIfInBounds_toArray, List.set_cons_zero, List.set_cons_succ, i64_w, i32_w]; rfl
          refine qp 12 4 ?_; refine done_ (done_of HT_.out (by kernel_rfl)) ?_; (try go_wp2); go_ret; exact ⟨qR, qB⟩
        · rw [if_neg c12] at H; exact absurd H (by simp)
      · rw [if_neg c11] at H; exact absurd H (by simp)
def impl_number.l0 : Nat → Int → Int → List Int → Int → Int → Option (ByteArray)
  | 0, _, _, _, _, _ => none
  | k + 1, x0, x1, x5, x10, x11 => if x11 < x10 then (if 0 ≤ (wrap64 (8 * (wrap64 ((wrap64 (x1 - 1)) - x11)))) then (if 0 ≤ x11 then (if x11 < (x5.length : Int) then (impl_number.l0 k x0 x1 (x5.set (x11 : Int).toNat ((shr .i64 x0 (wrap64 (8 * (wrap64 ((wrap64 (x1 - 1)) - x11))))) % 256)) x10 (wrap64 (x11 + 1))) else (none)) else (none)) else (none)) else (some (strOfNums x5))
def impl_number.f (k : Nat) (a0 : Int) (a1 : Int) : Option (ByteArray) := if 0 ≤ a1 then (if (a1 : Int).toNat ≤ 281474976710656 then ((some (List.replicate (a1 : Int).toNat 0 : List Int)).bind fun y197 => (impl_number.l0 k a0 a1 y197 (y197.length : Int) 0)) else (none)) else (none)
theorem impl_number.mono_l : ∀ k, (∀ y0 y1 y2 y3 y4, LeO (impl_number.l0 k y0 y1 y2 y3 y4) (impl_number.l0 (k + 1) y0 y1 y2 y3 y4))
  | 0 => fun _ _ _ _ _ r h => by simp [impl_number.l0] at h
  | k + 1 => by
    have ih0 := impl_number.mono_l k
    · intro y0 y1 y2 y3 y4
      unfold impl_number.l0
      repeat' first
        | (with_reducible first | exact ih0 .. | exact LeO.refl _ | exact LeO.none _ | refine LeO.ite ?_ ?_ | refine LeO.bind ?_ (fun _ => ?_))
        | exact ih0 .. | exact LeO.none _ | refine LeO.ite ?_ ?_ | refine LeO.bind ?_ (fun _ => ?_)
theorem impl_number.mono : ∀ a0 a1 k, LeO (impl_number.f k a0 a1) (impl_number.f (k + 1) a0 a1) := by
  intro a0 a1 k
  have ih0 := impl_number.mono_l k
  unfold impl_number.f
  repeat' first
    | (with_reducible first | exact ih0 .. | exact LeO.refl _ | exact LeO.none _ | refine LeO.ite ?_ ?_ | refine LeO.bind ?_ (fun _ => ?_))
    | exact ih0 .. | exact LeO.none _ | refine LeO.ite ?_ ?_ | refine LeO.bind ?_ (fun _ => ?_)
set_option maxHeartbeats 8000000 in
set_option maxRecDepth 100000 in
theorem impl_number.calls (k : Nat) (a0 : Int) (a1 : Int) (r : ByteArray) (w : World) (h : impl_number.f k a0 a1 = some r) :
    Calls Tryz.prog 142 #[.int .i64 a0, .int .i64 a1] w fun e w' => e = .returned (.string r) ∧ Below w.heap.size w w' := by
  have HB := qK (Below.refl w.heap.size w); have H : (if 0 ≤ a1 then (if (a1 : Int).toNat ≤ 281474976710656 then ((some (List.replicate (a1 : Int).toNat 0 : List Int)).bind fun y197 => (impl_number.l0 k a0 a1 y197 (y197.length : Int) 0)) else (none)) else (none)) = some r := h; clear h; by_cases c3 : 0 ≤ a1
  · rw [if_pos c3] at H; have c3b0 := eq_true c3; have c3b1 := decide_eq_true c3; clear c3; by_cases c4 : (a1 : Int).toNat ≤ 281474976710656
    · rw [if_pos c4] at H; have c4b0 := eq_true c4; have c4b1 := decide_eq_true c4; clear c4; obtain ⟨y197, hy_⟩ : ∃ y_ : List Int, y_ = (List.replicate (a1 : Int).toNat 0) := ⟨_, rfl⟩; replace H : (impl_number.l0 k a0 a1 y197 (y197.length : Int) 0) = some r := qh; have Ny197 := qK hy_; clear hy_; have H' := qK H; clear H; go_enter Tryz.func142, Tryz.ntmps142; go_wp2_with (first | ((with_reducible refine gds (N := 8) rfl ?_); refine Kd.R_make (Kd.int .u8) _ 5 rfl (N := 8) rfl 22 _ _ rfl a1 rfl rfl Tryz.underlying22 (.int .u8 0) 1 info5 rfl (by decide) (by omega) 0 (ok := fun _ => True) (okp := fun _ => True) rfl (fun _ hk => hk) trivial (of_decide_eq_true qa) (Nat.le_trans (Nat.mul_le_mul_right _ (of_decide_eq_true qa : a1.toNat ≤ 281474976710656)) (by omega)) (Below.refl _ _) (Nat.le_refl _) ?_; intro v198 w5 ho6 hb hg_ hnew_; clear hg_ hnew_; (first | rw [← Ny197.out] at ho6 | (simp only [Int.reduceToNat] at ho6; rw [← Ny197.out] at ho6)); have HO199 := qK (Kd.Rlo ho6 (bsz qB)); replace HB := qHB HB hb; clear hb ho6; obtain ⟨Ao7, co7, eo7⟩ := Kd.R_slice HO199.out; subst eo7)); go_loopg [11] k (fun kq v11 w' => ∃ (x5_1 : List Int) (x11_1 : Int), v11 = .int .i64 x11_1 ∧ Aside0 (impl_number.l0 kq a0 a1 x5_1 (y197.length : Int) x11_1 = some r) ∧ Aside0 (kq ≤ k) ∧ Aside0 (Kd.R (Kd.int .u8) 5 w' w.heap.size (fun _ => True) (.slice Ao7 y197.length co7) x5_1) ∧ Aside0 (Below w.heap.size w w'))
      case atStart => exact ⟨(y197), (0), qS, H', ⟨Nat.le_refl _⟩, ⟨by (with_reducible repeat (first | apply Kd.Ral | apply Kd.RdN | apply Kd.Rdr)); exact HO199.out⟩, ⟨qB⟩⟩
      case round =>
        clear H'; (try clear c3); (try clear c3b0); (try clear c3b1); (try clear c4); (try clear c4b0); (try clear c4b1); obtain ⟨x5_1, x11_1, rfl, HA, HK1, HO_5, HB⟩ := hrel; have hl5_1 := (Kd.R_reads' HO_5.out).1; rw [hl5_1] at HO_5; (try simp only [hl5_1])
        cases gk with
        | zero => exact absurd HA.out (by simp [impl_number.l0])
        | succ k1 =>
          have H := HA.out; clear HA; simp only [impl_number.l0] at H; by_cases c8 : x11_1 < (y197.length : Int)
          · rw [if_pos c8] at H; have c8b0 := decide_eq_true c8; clear c8; obtain ⟨ji9, hji9⟩ : ∃ j_ : Int, (wrap64 (8 * (wrap64 ((wrap64 (a1 - 1)) - x11_1)))) = j_ := ⟨_, rfl⟩; (replace H : (if 0 ≤ (ji9) then (if 0 ≤ x11_1 then (if x11_1 < (x5_1.length : Int) then (impl_number.l0 k1 a0 a1 (x5_1.set (x11_1 : Int).toNat ((shr .i64 a0 (ji9)) % 256)) (y197.length : Int) (wrap64 (x11_1 + 1))) else (none)) else (none)) else (none)) = some r := by first | (rw [hji9] at H; exact H) | (simp only [hji9] at H ⊢; exact H)); have hji9w : (IntKind.i64.wrap (8 * (wrap64 ((wrap64 (a1 - 1)) - x11_1)))) = ji9 := (i64_w _).trans hji9; by_cases c10 : 0 ≤ (ji9)
            · rw [if_pos c10] at H; have c10b0 := eq_true c10; have c10b1 := decide_eq_true c10; clear c10; obtain ⟨ji11, hji11⟩ : ∃ j_ : Int, (shr .i64 a0 (ji9)) = j_ := ⟨_, rfl⟩; (replace H : (if 0 ≤ x11_1 then (if x11_1 < (x5_1.length : Int) then (impl_number.l0 k1 a0 a1 (x5_1.set (x11_1 : Int).toNat ((ji11) % 256)) (y197.length : Int) (wrap64 (x11_1 + 1))) else (none)) else (none)) = some r := by first | (rw [hji11] at H; exact H) | (simp only [hji11] at H ⊢; exact H)); have hji11_ : (a0 / 2 ^ min (ji9).toNat 64) = ji11 := hji11; have hji11z : (ji9) ≤ 64 → (a0 / 2 ^ (ji9).toNat) = ji11 := shr_small hji11; by_cases c12 : 0 ≤ x11_1
              · rw [if_pos c12] at H; have c12b0 := decide_eq_true c12; clear c12; by_cases c13 : x11_1 < (x5_1.length : Int)
                · rw [if_pos c13] at H; have c13b0 := decide_eq_true c13; clear c13; obtain ⟨y200, hy_⟩ : ∃ y_ : List Int, y_ = (x5_1.set (x11_1 : Int).toNat ((ji11) % 256)) := ⟨_, rfl⟩; replace H : (impl_number.l0 k1 a0 a1 y200 (y197.length : Int) (wrap64 (x11_1 + 1))) = some r := qh; have Ny200 := qK hy_; clear hy_; have H' := qK H; clear H; have p14 : 0 ≤ (x11_1 : Int) := of_decide_eq_true qa; have q14 : (x11_1 : Int) < ((x5_1.length : Int) : Int) := of_decide_eq_true qa; obtain ⟨go14, co14, eo14, gb14, gl14, cl14, HG14⟩ := Kd.R_form HO_5.out (by omega); (first | cases eo14 | (injection eo14 with ea_ en_ ec_; (first | subst ea_ | (injection ea_ with ea_; subst ea_)); subst ec_; clear en_)); have GB14 := qK gb14; have GG14 := qK HG14; clear gb14 gl14 HG14; obtain ⟨hx14_0, hf14_0⟩ := Kd.R_celln 0 HO_5.out (x11_1 : Int) p14 q14; replace p14 := eq_true p14; replace q14 := eq_true q14; have HP15 := Kd.R_putg HO_5.out (x11_1 : Int) ((ji11) % 256); go_wp2_with (first | ((with_reducible refine gst (t := 5) (p := 24) rfl ?_); refine ste (t := 5) (p := 24) (v := ?vo_w16) (w1 := (wr.setCell ⟨go14, (x11_1 : Int).toNat, none⟩ (.int .u8 ((ji11) % 256)))) ?hg ?ho ?hn ?hr ?_; (case ho => rfl); (case hg => rfl); (case hn => rfl); (case hr => first | (go_simp; done) | (go_simp; rfl)); intro w16 hw; have hg : wr.grownBy w16 (some go14) := (by rw [hw]; exact HP15.2); have hp_ : Kd.R (Kd.int .u8) 5 w16 w.heap.size (fun _ => True) (.slice (some ⟨go14, 0, none⟩) x5_1.length co7) y200 := (by rw [hw, Ny200.out]; exact HP15.1); clear HP15; replace HO_5 := qK (hp_); replace HB := qK ((by rw [hw]; exact bse (HB.out) GB14.out : Below w.heap.size w w16)); clear hg hw hp_)); (try simp only [← hl5_1]); go_roundg k1
                  case measure => have := HK1.out; omega
                  case rel => exact ⟨(y200), (wrap64 (x11_1 + 1)), qS, H', ⟨by have := HK1.out; omega⟩, ⟨by (try simp only [hl5_1]); (with_reducible repeat (first | apply Kd.Ral | apply Kd.RdN | apply Kd.Rdr)); exact HO_5.out⟩, ⟨qB⟩⟩
                · rw [if_neg c13] at H; exact absurd H (by simp)
              · rw [if_neg c12] at H; exact absurd H (by simp)
            · rw [if_neg c10] at H; exact absurd H (by simp)
          · rw [if_neg c8] at H; have c8b0 := decide_eq_false c8; clear c8; obtain rfl := qsi H; (have c8b1 : decide (x11_1 < (x5_1.length : Int)) = false := by rw [← hl5_1]; exact c8b0); have hcv17 := own_string (P := Tryz.prog) Tryz.underlying22 Tryz.underlying5 Tryz.underlying9 (Kd.own_of_R HO_5.out); go_wp2; go_ret; exact ⟨qR, qB⟩
    · rw [if_neg c4] at H; exact absurd H (by simp)
  · rw [if_neg c3] at H; exact absurd H (by simp)
def impl_u64.f (k : Nat) (a0 : Int) : Option (ByteArray) := (impl_number.f k a0 8).bind fun t201 => (some t201)
theorem impl_u64.mono : ∀ a0 k, LeO (impl_u64.f k a0) (impl_u64.f (k + 1) a0) := by
  intro a0 k
  unfold impl_u64.f
  repeat' first
    | (with_reducible first | exact impl_number.mono .. | exact LeO.refl _ | exact LeO.none _ | refine LeO.ite ?_ ?_ | refine LeO.bind ?_ (fun _ => ?_))
    | exact impl_number.mono .. | exact LeO.none _ | refine LeO.ite ?_ ?_ | refine LeO.bind ?_ (fun _ => ?_)
set_option maxHeartbeats 8000000 in
set_option maxRecDepth 100000 in
theorem impl_u64.calls (k : Nat) (a0 : Int) (r : ByteArray) (w : World) (h : impl_u64.f k a0 = some r) :
    Calls Tryz.prog 117 #[.int .i64 a0] w fun e w' => e = .returned (.string r) ∧ Below w.heap.size w w' := by
  have HB := qK (Below.refl w.heap.size w); have H : ((impl_number.f k a0 8).bind fun t201 => (some t201)) = some r := h; clear h; obtain ⟨t201, A2, H⟩ := qbi H; obtain rfl := qsi H; go_enter Tryz.func117, Tryz.ntmps117; go_wp2_with (first | ((with_reducible refine gcl (f := 142) rfl ?_); refine gL 4 Tryz.func142 #[.int .i64 a0, .int .i64 8] ?_; (with_reducible refine (impl_number.calls k a0 8 t201 _ A2.out).mono ?_); rintro e w3 ⟨rfl, hb⟩; refine ⟨_, rfl, ?_⟩; replace HB := qHB HB hb; (try clear hb))); go_ret; exact ⟨qR, qB⟩
def bits_RotateLeft32.f (a0 : Int) (a1 : Int) : Option (Int) := if 0 ≤ (Go.bits .and .u64 (IntKind.u64.wrap (a1)) 31) then (if 0 ≤ (IntKind.u64.wrap (32 - (Go.bits .and .u64 (IntKind.u64.wrap (a1)) 31))) then (some (Go.bits .or .u32 (shl .u32 a0 (Go.bits .and .u64 (IntKind.u64.wrap (a1)) 31)) (shr .u32 a0 (IntKind.u64.wrap (32 - (Go.bits .and .u64 (IntKind.u64.wrap (a1)) 31)))))) else (none)) else (none)
set_option maxHeartbeats 8000000 in
set_option maxRecDepth 100000 in
theorem bits_RotateLeft32.calls (a0 : Int) (a1 : Int) (r : Int) (w : World) (h : bits_RotateLeft32.f a0 a1 = some r) :
    Calls Tryz.prog 144 #[.int .u32 a0, .int .i64 a1] w fun e w' => e = .returned (.int .u32 r) ∧ Drawn0 w w' := by
  have H : (if 0 ≤ (Go.bits .and .u64 (IntKind.u64.wrap (a1)) 31) then (if 0 ≤ (IntKind.u64.wrap (32 - (Go.bits .and .u64 (IntKind.u64.wrap (a1)) 31))) then (some (Go.bits .or .u32 (shl .u32 a0 (Go.bits .and .u64 (IntKind.u64.wrap (a1)) 31)) (shr .u32 a0 (IntKind.u64.wrap (32 - (Go.bits .and .u64 (IntKind.u64.wrap (a1)) 31)))))) else (none)) else (none)) = some r := h; clear h; obtain ⟨ji3, hji3⟩ : ∃ j_ : Int, (Go.bits .and .u64 (IntKind.u64.wrap (a1)) 31) = j_ := ⟨_, rfl⟩; (replace H : (if 0 ≤ (ji3) then (if 0 ≤ (IntKind.u64.wrap (32 - (ji3))) then (some (Go.bits .or .u32 (shl .u32 a0 (ji3)) (shr .u32 a0 (IntKind.u64.wrap (32 - (ji3)))))) else (none)) else (none)) = some r := by first | (rw [hji3] at H; exact H) | (simp only [hji3] at H ⊢; exact H)); by_cases c4 : 0 ≤ (ji3)
  · rw [if_pos c4] at H; have c4b0 := eq_true c4; have c4b1 := decide_eq_true c4; clear c4; obtain ⟨ji5, hji5⟩ : ∃ j_ : Int, (shl .u32 a0 (ji3)) = j_ := ⟨_, rfl⟩; (replace H : (if 0 ≤ (IntKind.u64.wrap (32 - (ji3))) then (some (Go.bits .or .u32 (ji5) (shr .u32 a0 (IntKind.u64.wrap (32 - (ji3)))))) else (none)) = some r := by first | (rw [hji5] at H; exact H) | (simp only [hji5] at H ⊢; exact H)); have hji5_ : (IntKind.u32.wrap (a0 * 2 ^ min (ji3).toNat 32)) = ji5 := hji5; have hji5z : (ji3) ≤ 32 → (IntKind.u32.wrap (a0 * 2 ^ (ji3).toNat)) = ji5 := shl_small hji5; obtain ⟨ji6, hji6⟩ : ∃ j_ : Int, (IntKind.u64.wrap (32 - (ji3))) = j_ := ⟨_, rfl⟩; (replace H : (if 0 ≤ (ji6) then (some (Go.bits .or .u32 (ji5) (shr .u32 a0 (ji6)))) else (none)) = some r := by first | (rw [hji6] at H; exact H) | (simp only [hji6] at H ⊢; exact H)); by_cases c7 : 0 ≤ (ji6)
    · rw [if_pos c7] at H; have c7b0 := eq_true c7; have c7b1 := decide_eq_true c7; clear c7; obtain ⟨ji8, hji8⟩ : ∃ j_ : Int, (shr .u32 a0 (ji6)) = j_ := ⟨_, rfl⟩; (replace H : (some (Go.bits .or .u32 (ji5) (ji8))) = some r := by first | (rw [hji8] at H; exact H) | (simp only [hji8] at H ⊢; exact H)); have hji8_ : (a0 / 2 ^ min (ji6).toNat 32) = ji8 := hji8; have hji8z : (ji6) ≤ 32 → (a0 / 2 ^ (ji6).toNat) = ji8 := shr_small hji8; obtain rfl := qsi H; go_enter Tryz.func144, Tryz.ntmps144; go_wp2; go_ret; exact ⟨by first | rfl | (simp; done) | (simp only [← hji3, ← hji5, ← hji6, ← hji8] <;> (first | rfl | simp)) | (simp [*]; done), by repeat (first | exact Drawn0.refl _ | apply Drawn0.step)⟩
    · rw [if_neg c7] at H; exact absurd H (by simp)
  · rw [if_neg c4] at H; exact absurd H (by simp)
def impl_compress_1.f (a0 : Int) (a1 : Int) : Option (Int) := (bits_RotateLeft32.f a0 (wrap64 (-a1))).bind fun t202 => (some t202)
set_option maxHeartbeats 8000000 in
set_option maxRecDepth 100000 in
theorem impl_compress_1.calls (a0 : Int) (a1 : Int) (r : Int) (w : World) (h : impl_compress_1.f a0 a1 = some r) :
    Calls Tryz.prog 143 #[.int .u32 a0, .int .i64 a1] w fun e w' => e = .returned (.int .u32 r) ∧ Drawn0 w w' := by
  have H : ((bits_RotateLeft32.f a0 (wrap64 (-a1))).bind fun t202 => (some t202)) = some r := h; clear h; obtain ⟨t202, A3, H⟩ := qbi H; obtain rfl := qsi H; go_enter Tryz.func143, Tryz.ntmps143; go_wp2_with (first | ((with_reducible refine gcl (f := 144) rfl ?_); refine gL 8 Tryz.func144 #[.int .u32 a0, .int .i64 (wrap64 (-a1))] ?_; (with_reducible refine (bits_RotateLeft32.calls a0 (wrap64 (-a1)) t202 _ A3.out).mono ?_); rintro e w' ⟨rfl, ⟨nd, rfl⟩⟩; refine ⟨_, rfl, ?_⟩)); go_ret; exact ⟨by first | rfl | (simp; done) | (simp [*]; done), by repeat (first | exact Drawn0.refl _ | apply Drawn0.step)⟩
end Go.Proofs.YtajkbbifemeanaaGreatDoor.L
end
section
set_option linter.unusedVariables false
namespace Go.Proofs.YtajkbbifemeanaaGreatDoor
open Go Go.RowKit Go.Proofs.YtajkbbifemeanaaGreatDoorW.PrintWords Go.Proofs.YtajkbbifemeanaaGreatDoorW.PrintMore
theorem a64_info : (Tryz.prog.info? 192).map (fun i => (i.zero, i.size)) = some (some (.agg (Array.replicate 64 (.int .u32 0))), 64) := by kernel_rfl
theorem a8_info : (Tryz.prog.info? 161).map (fun i => (i.zero, i.size)) = some (some (.agg (Array.replicate 8 (.int .u32 0))), 8) := by kernel_rfl
def wrow (f : Nat → Int) : Array Value := rowOf 64 fun j => .int .u32 (f j)
def srow (f : Nat → Int) : Array Value := rowOf 8 fun j => .int .u32 (f j)
theorem wrow_zero : Array.replicate 64 (Value.int .u32 0) = wrow (fun _ => 0) := rowOf_replicate _ _
theorem srow_zero : Array.replicate 8 (Value.int .u32 0) = srow (fun _ => 0) := rowOf_replicate _ _
theorem wrow_size (f : Nat → Int) : (wrow f).size = 64 := rowOf_size _ _
theorem srow_size (f : Nat → Int) : (srow f).size = 8 := rowOf_size _ _
theorem wrow_one (f : Nat → Int) : (wrow f).all (·.oneCell') = true := rowOf_one _ _ fun _ => rfl
theorem srow_one (f : Nat → Int) : (srow f).all (·.oneCell') = true := rowOf_one _ _ fun _ => rfl
theorem wrow_at (f : Nat → Int) (j : Nat) (hj : j < 64) : (wrow f)[j]? = some (.int .u32 (f j)) := rowOf_at _ _ _ hj
theorem srow_at (f : Nat → Int) (j : Nat) (hj : j < 8) : (srow f)[j]? = some (.int .u32 (f j)) := rowOf_at _ _ _ hj
theorem wrow_set (f : Nat → Int) (i : Nat) (v : Int) : (wrow f).setIfInBounds i (.int .u32 v) = wrow fun j => if j = i then v else f j := by
  rw [wrow, rowOf_set]
  exact rowOf_congr _ _ _ fun j _ => by by_cases h : j = i <;> simp [h]
theorem srow_set (f : Nat → Int) (i : Nat) (v : Int) : (srow f).setIfInBounds i (.int .u32 v) = srow fun j => if j = i then v else f j := by
  rw [srow, rowOf_set]
  exact rowOf_congr _ _ _ fun j _ => by by_cases h : j = i <;> simp [h]
theorem srow_congr (f g : Nat → Int) (h : ∀ j, j < 8 → f j = g j) : srow f = srow g := rowOf_congr _ _ _ fun j hj => by rw [h j hj]
theorem srow_lit (f : Nat → Int) : (#[.int .u32 (f 0), .int .u32 (f 1), .int .u32 (f 2), .int .u32 (f 3), .int .u32 (f 4), .int .u32 (f 5), .int .u32 (f 6), .int .u32 (f 7)] : Array Value) = srow f := rfl
def oct (a0 a1 a2 a3 a4 a5 a6 a7 : Int) : Nat → Int
  | 0 => a0
  | 1 => a1
  | 2 => a2
  | 3 => a3
  | 4 => a4
  | 5 => a5
  | 6 => a6
  | 7 => a7
  | _ => 0
theorem srow8 (a0 a1 a2 a3 a4 a5 a6 a7 : Int) : (#[.int .u32 a0, .int .u32 a1, .int .u32 a2, .int .u32 a3, .int .u32 a4, .int .u32 a5, .int .u32 a6, .int .u32 a7] : Array Value) = srow (oct a0 a1 a2 a3 a4 a5 a6 a7) := rfl
attribute [irreducible] wrow srow
def ld (b : ByteArray) (j : Nat) : Nat → Int
  | 0 => 0
  | k + 1 => Go.bits .or .u32 (ld b j k * 256 % 4294967296) (bt b (4 * (j : Int) + (k : Int)) % 4294967296)
def ph1 (b : ByteArray) (i k : Nat) (j : Nat) : Int := if j < i then ld b j 4 else if j = i then ld b i k else 0
def wof (w : World) (s0 f : Nat → Int) : World := ((w.alloc (.cells (srow s0) 161)).alloc (.cells (srow fun _ => 0) 161)).alloc (.cells (wrow f) 192)
theorem heap_drewN (w : World) (n : Nat) : (w.drewN n).heap = w.heap := rfl
theorem wof_heap (w : World) (s0 f : Nat → Int) (n : Nat) : ((wof w s0 f).drewN n).heap[w.heap.size + 1 + 1]? = some (.cells (wrow f) 192) := heap_three _ _ _ _
theorem wof_cell (w : World) (s0 f : Nat → Int) (n i : Nat) (hi : i < 64) : ((wof w s0 f).drewN n).cell? ⟨w.heap.size + 1 + 1, i, none⟩ = some (.int .u32 (f i)) :=
  (cell_of_row _ _ _ _ _ _ (wof_heap w s0 f n)).trans (wrow_at f i hi)
theorem wof_frozen (w : World) (s0 f : Nat → Int) (n i : Nat) : ((wof w s0 f).drewN n).frozen? ⟨w.heap.size + 1 + 1, i, none⟩ = false := by
  have := wof_heap w s0 f n
  simp only [World.frozen?, this]
  rfl
theorem setCell_row {w : World} {b : Nat} {t : TypeId} {cs : Array Value} (h : w.heap[b]? = some (.cells cs t)) (i : Nat) (v : Value) : w.setCell ⟨b, i, none⟩ v = w.setRow b (cs.setIfInBounds i v) := by
  simp only [World.setCell, World.setRow]
  congr 1
  apply Array.ext_getElem?
  intro k
  rw [Array.getElem?_modify, Array.getElem?_modify]
  by_cases hk : b = k
  · subst hk
    simp [h]
  · simp [hk]
theorem setRow_drewN (w : World) (n b : Nat) (cs : Array Value) : (w.drewN n).setRow b cs = (w.setRow b cs).drewN n := rfl
theorem wof_set (w : World) (s0 f : Nat → Int) (n i : Nat) (v : Int) : ((wof w s0 f).drewN n).setCell ⟨w.heap.size + 1 + 1, i, none⟩ (.int .u32 v) = (wof w s0 (fun j => if j = i then v else f j)).drewN n := by
  rw [setCell_row (wof_heap w s0 f n), setRow_drewN, wof, setRow_three, wrow_set]
  rfl
theorem drew_one (w : World) (n : Nat) : ({ w.drewN n with drawn := (w.drewN n).drawn + 1 } : World) = w.drewN (n + 1) := rfl
theorem ph1_step (b : ByteArray) (i k : Nat) : (fun j => if j = i then Go.bits .or .u32 (ph1 b i k i * 256 % 4294967296) (bt b (4 * (i : Int) + (k : Int)) % 4294967296) else ph1 b i k j) = ph1 b i (k + 1) := by
  funext j
  by_cases h : j = i
  · subst h
    simp [ph1, ld]
  · simp [ph1, h]
def rotI (x n : Int) : Int := Go.bits .or .u32 (shl .u32 x (32 - n)) (shr .u32 x n)
def wnx (f : Nat → Int) (t : Nat) : Int := (((f (t - 16) + Go.bits .xor .u32 (Go.bits .xor .u32 (rotI (f (t - 15)) 7) (rotI (f (t - 15)) 18)) (f (t - 15) / 8)) % 4294967296 + f (t - 7)) % 4294967296 + Go.bits .xor .u32 (Go.bits .xor .u32 (rotI (f (t - 2)) 17) (rotI (f (t - 2)) 19)) (f (t - 2) / 1024)) % 4294967296
def wst (b : ByteArray) : Nat → Nat → Int
  | 0 => ph1 b 16 0
  | t + 1 => fun j => if j = t + 16 then wnx (wst b t) (t + 16) else wst b t j
theorem cell_other {W : World} {b o o' : Nat} {v : Value} (h : W.cell? ⟨b, o', none⟩ = some v) (hn : ¬ o = o') (n : Nat) (u : Value) : ((W.drewN n).setCell ⟨b, o, none⟩ u).cell? ⟨b, o', none⟩ = some v := by
  have : (W.drewN n).cell? ⟨b, o', none⟩ = some v := h
  rw [← this]
  simp only [World.cell?, World.setCell, Array.getElem?_modify]
  cases hb : (W.drewN n).heap[b]? with
  | none => simp
  | some x => cases x <;> simp [hn]
theorem wof_heap0 (w : World) (s0 f : Nat → Int) (n : Nat) : ((wof w s0 f).drewN n).heap[w.heap.size]? = some (.cells (srow s0) 161) := by
  rw [heap_drewN, wof]
  rw [Below.heap_alloc _ _ _ (by simp; omega), Below.heap_alloc _ _ _ (by simp)]
  exact heap_alloc_last w _
def wof2 (w : World) (s0 f g : Nat → Int) : World := (wof w s0 f).alloc (.cells (srow g) 161)
theorem wof_size (w : World) (s0 f : Nat → Int) : (wof w s0 f).heap.size = w.heap.size + 1 + 1 + 1 := by simp [wof, World.size_alloc]
theorem wof2_heap (w : World) (s0 f g : Nat → Int) (n : Nat) : ((wof2 w s0 f g).drewN n).heap[w.heap.size + 1 + 1 + 1]? = some (.cells (srow g) 161) := by
  rw [heap_drewN, wof2, ← wof_size w s0 f]
  exact heap_alloc_last _ _
theorem wof2_low (w : World) (s0 f g : Nat → Int) (n b : Nat) (h : b < w.heap.size + 1 + 1 + 1) : ((wof2 w s0 f g).drewN n).heap[b]? = ((wof w s0 f).drewN 0).heap[b]? := by
  rw [heap_drewN, heap_drewN, wof2]
  exact Below.heap_alloc _ _ _ (by rw [wof_size]; exact h)
theorem wof2_congr (w : World) (s0 f g g' : Nat → Int) (h : ∀ j, j < 8 → g j = g' j) : wof2 w s0 f g = wof2 w s0 f g' := by
  rw [wof2, wof2, srow_congr g g' h]
theorem wof2_setRow (w : World) (s0 f g g' : Nat → Int) (n : Nat) : ((wof2 w s0 f g).drewN n).setRow (w.heap.size + 1 + 1 + 1) (srow g') = (wof2 w s0 f g').drewN n := by
  rw [setRow_drewN, wof2, ← wof_size w s0 f, World.setRow_alloc_new]
  rfl
theorem wof2_set (w : World) (s0 f g : Nat → Int) (n i : Nat) (v : Int) : ((wof2 w s0 f g).drewN n).setCell ⟨w.heap.size + 1 + 1 + 1, i, none⟩ (.int .u32 v) = (wof2 w s0 f (fun j => if j = i then v else g j)).drewN n := by
  rw [setCell_row (wof2_heap w s0 f g n), srow_set, wof2_setRow]
theorem wof2_cell (w : World) (s0 f g : Nat → Int) (n i : Nat) (hi : i < 8) : ((wof2 w s0 f g).drewN n).cell? ⟨w.heap.size + 1 + 1 + 1, i, none⟩ = some (.int .u32 (g i)) :=
  (cell_of_row _ _ _ _ _ _ (wof2_heap w s0 f g n)).trans (srow_at g i hi)
theorem wof2_cellw (w : World) (s0 f g : Nat → Int) (n i : Nat) (hi : i < 64) : ((wof2 w s0 f g).drewN n).cell? ⟨w.heap.size + 1 + 1, i, none⟩ = some (.int .u32 (f i)) :=
  (cell_of_row _ _ _ _ _ _ ((wof2_low w s0 f g n _ (by omega)).trans (wof_heap w s0 f 0))).trans (wrow_at f i hi)
theorem wof2_cell0 (w : World) (s0 f g : Nat → Int) (n i : Nat) (hi : i < 8) : ((wof2 w s0 f g).drewN n).cell? ⟨w.heap.size, i, none⟩ = some (.int .u32 (s0 i)) :=
  (cell_of_row _ _ _ _ _ _ ((wof2_low w s0 f g n _ (by omega)).trans (wof_heap0 w s0 f 0))).trans (srow_at s0 i hi)
theorem wof_below (w : World) (s0 f : Nat → Int) : Below w.heap.size w (wof w s0 f) := by
  refine Below.alloc (Below.alloc (Below.alloc (Below.refl _ _) (Nat.le_refl _) _) ?_ _) ?_ _
  · simp
  · simp; omega
theorem wof2_below (w : World) (s0 f g : Nat → Int) (n : Nat) : Below w.heap.size w ((wof2 w s0 f g).drewN n) := by
  have h : Below w.heap.size w (wof2 w s0 f g) := (wof_below w s0 f).alloc (by rw [wof_size]; omega) _
  exact ⟨h.os, h.tape, h.output, h.size, h.block⟩
theorem below_setRow {B : Nat} {a w : World} (h : Below B a w) {b : Nat} (hb : B ≤ b) (cs : Array Value) : Below B a (w.setRow b cs) := by
  refine h.trans ⟨rfl, rfl, rfl, by simp [World.setRow], fun k hk => ?_⟩
  simp only [World.setRow, Array.getElem?_modify]
  rw [if_neg (by omega)]
def rnd1 (F : Nat → Int) (t : Nat) (g : Nat → Int) : Int :=
  (g 7 + Go.bits .xor .u32 (Go.bits .xor .u32 (rotI (g 4) 6) (rotI (g 4) 11)) (rotI (g 4) 25) + Go.bits .xor .u32 (Go.bits .and .u32 (g 4) (g 5)) (Go.bits .and .u32 (Go.bits .xor .u32 IntKind.u32.max (g 4)) (g 6)) + kw.getD t 0 + F t) % 4294967296
def rnd2 (g : Nat → Int) : Int :=
  (Go.bits .xor .u32 (Go.bits .xor .u32 (rotI (g 0) 2) (rotI (g 0) 13)) (rotI (g 0) 22) + Go.bits .xor .u32 (Go.bits .xor .u32 (Go.bits .and .u32 (g 0) (g 1)) (Go.bits .and .u32 (g 0) (g 2))) (Go.bits .and .u32 (g 1) (g 2))) % 4294967296
def rnd (F : Nat → Int) (t : Nat) (g : Nat → Int) : Nat → Int
  | 0 => (rnd1 F t g + rnd2 g) % 4294967296
  | 4 => (g 3 + rnd1 F t g) % 4294967296
  | j + 1 => g j
def rds (s0 F : Nat → Int) : Nat → Nat → Int
  | 0 => s0
  | t + 1 => rnd F t (rds s0 F t)
theorem quietA {P : Program} {f : FuncId} {args : Array Value} {W : World} {q a : Nat} {v : Value} (h : Calls P f args (W.drewN (q + a)) fun e w' => e = .returned v ∧ ∃ m, w' = (W.drewN (q + a)).drewN m) : Calls P f args (W.drewN (q + a)) fun e w'' => e = .returned v ∧ ∃ n, w'' = W.drewN (q + n) :=
  h.mono fun _ _ ⟨he, m, hm⟩ => ⟨he, a + m, by rw [hm, World.drewN_drewN, Nat.add_assoc]⟩
def fin (g s0 : Nat → Int) (i j : Nat) : Int := if j < i then (g j + s0 j) % 4294967296 else g j
theorem fin_zero (g s0 : Nat → Int) : fin g s0 0 = g := by
  funext j
  simp [fin]
theorem fin_at (g s0 : Nat → Int) (i : Nat) : fin g s0 i i = g i := by simp [fin]
theorem fin_succ (g s0 : Nat → Int) (i : Nat) : (fun j => if j = i then (g i + s0 i) % 4294967296 else fin g s0 i j) = fin g s0 (i + 1) := by
  funext j
  by_cases h : j = i
  · subst h
    simp [fin]
  · by_cases h2 : j < i
    · simp [fin, h, h2, Nat.lt_succ_of_lt h2]
    · simp only [fin, h, h2, if_false]
      rw [if_neg (by omega)]
theorem wof_heap4 (w : World) (s0 f : Nat → Int) (n : Nat) : ((wof w s0 f).drewN n).heap[w.heap.size + 1]? = some (.cells (srow fun _ => 0) 161) := by
  rw [heap_drewN, wof]
  rw [Below.heap_alloc _ _ _ (by simp)]
  exact heap_two_new _ _ _
theorem wof2_heap4 (w : World) (s0 f g : Nat → Int) (n : Nat) : ((wof2 w s0 f g).drewN n).heap[w.heap.size + 1]? = some (.cells (srow fun _ => 0) 161) :=
  (wof2_low w s0 f g n _ (by omega)).trans (wof_heap4 w s0 f 0)
theorem wof2_frozen (w : World) (s0 f g : Nat → Int) (n i : Nat) : ((wof2 w s0 f g).drewN n).frozen? ⟨w.heap.size + 1 + 1 + 1, i, none⟩ = false := by
  have := wof2_heap w s0 f g n
  simp only [World.frozen?, this]
  rfl
theorem heap_setRow_same {w : World} {b : Nat} {cs cs' : Array Value} {t : TypeId} (h : w.heap[b]? = some (.cells cs t)) : (w.setRow b cs').heap[b]? = some (.cells cs' t) := by
  simp [World.setRow, Array.getElem?_modify, h]
theorem drew_one' (w : World) : ({ w with drawn := w.drawn + 1 } : World) = w.drewN 1 := rfl
theorem wpList_store_oct {P : Program} {ops : Array Oper} {rest : List Oper} {o : Oper} {a : Act} {w : World} {Q : Exit → Act → World → Prop} (hgd : o.guard = none) (ty : TypeId) (x y : Operand) (ho : o.op = .store ty x y)
    (b : Nat) (hx : a.eval x = .pointer (some ⟨b, 0, none⟩)) {a0 a1 a2 a3 a4 a5 a6 a7 : Int} (hy : a.eval y = .agg #[.int .u32 a0, .int .u32 a1, .int .u32 a2, .int .u32 a3, .int .u32 a4, .int .u32 a5, .int .u32 a6, .int .u32 a7])
    (t : TypeId) (old : Nat → Int) (hg : w.heap[b]? = some (.cells (srow old) t (0, 0))) (hi : (P.info? ty).map (·.size) = some 8)
    (h : wpList P ops Q rest (a.put o.dst undef) (w.setRow b (srow (oct a0 a1 a2 a3 a4 a5 a6 a7)))) : wpList P ops Q (o :: rest) a w :=
  wpList_store_row hgd ty x y ho b _ hx (hy.trans (congrArg Value.agg (srow8 _ _ _ _ _ _ _ _))) t _ hg (by rw [srow_size]; exact hi) (by rw [srow_size, srow_size]) (srow_one _) h
theorem emod_two (a b m : Int) : (a + b) % m = (a % m + b % m) % m := Int.add_emod _ _ _
theorem emod_one (a b m : Int) : (a + b) % m = (a + b % m) % m := (Int.add_emod_emod _ _ _).symm
theorem rds_step (w : World) (s0 F g : Nat → Int) (n t : Nat) {W : World} {N : Nat} {T : Nat → Int} (hW : (wof2 w s0 F g).drewN n = W) (hg : rds s0 F t = g) (hT : ∀ j, j < 8 → T j = rnd F t g j) :
    (W.drewN N).setRow (w.heap.size + 1 + 1 + 1) (srow T) = (wof2 w s0 F (rds s0 F (t + 1))).drewN (n + N) := by
  rw [← hW, World.drewN_drewN, wof2_setRow, wof2_congr w s0 F T (rds s0 F (t + 1)) (fun j hj => by rw [hT j hj, ← hg]; rfl)]
theorem ph1_zero (b : ByteArray) : ph1 b 0 0 = fun _ => 0 := by
  funext j
  simp [ph1, ld]
theorem ph1_next (b : ByteArray) (i : Nat) : ph1 b (i + 1) 0 = ph1 b i 4 := by
  funext j
  simp only [ph1]
  by_cases h1 : j < i
  · simp [h1, Nat.lt_succ_of_lt h1]
  · by_cases h2 : j = i
    · subst h2
      simp
    · rw [if_neg (by omega), if_neg h1, if_neg h2]
      split <;> simp [ld]
end Go.Proofs.YtajkbbifemeanaaGreatDoor
end
section
namespace Go.Proofs.YtajkbbifemeanaaGreatDoor.L
open Go.RowKit Go.Proofs.YtajkbbifemeanaaGreatDoorW.PrintWords Go.Proofs.YtajkbbifemeanaaGreatDoorW.PrintLast Go.Proofs.YtajkbbifemeanaaGreatDoorW.PrintMore
attribute [local go_sem] max2_int min2_int max_two min_two max_three min_three max_four min_four
set_option linter.unusedVariables false
set_option linter.unusedSimpArgs false
theorem rot_f (x n m : Int) (h1 : wrap64 (-n) = -n) (h2 : Go.bits .and .u64 (IntKind.u64.wrap (-n)) 31 = m) (h3 : IntKind.u64.wrap (32 - m) = n) (h4 : m = 32 - n) (h5 : 0 ≤ m) (h6 : 0 ≤ n) : impl_compress_1.f x n = some (rotI x n) := by
  rw [impl_compress_1.f, bits_RotateLeft32.f, h1, h2, h3, if_pos h5, if_pos h6, rotI, h4]
  rfl
theorem rot_all (x n : Int) (hn : n = 7 ∨ n = 18 ∨ n = 17 ∨ n = 19 ∨ n = 6 ∨ n = 11 ∨ n = 25 ∨ n = 2 ∨ n = 13 ∨ n = 22) : impl_compress_1.f x n = some (rotI x n) := by
  rcases hn with rfl | rfl | rfl | rfl | rfl | rfl | rfl | rfl | rfl | rfl
  · exact rot_f x 7 25 (by unfold wrap64; omega) (by decide) (by decide) (by decide) (by decide) (by decide)
  · exact rot_f x 18 14 (by unfold wrap64; omega) (by decide) (by decide) (by decide) (by decide) (by decide)
  · exact rot_f x 17 15 (by unfold wrap64; omega) (by decide) (by decide) (by decide) (by decide) (by decide)
  · exact rot_f x 19 13 (by unfold wrap64; omega) (by decide) (by decide) (by decide) (by decide) (by decide)
  · exact rot_f x 6 26 (by unfold wrap64; omega) (by decide) (by decide) (by decide) (by decide) (by decide)
  · exact rot_f x 11 21 (by unfold wrap64; omega) (by decide) (by decide) (by decide) (by decide) (by decide)
  · exact rot_f x 25 7 (by unfold wrap64; omega) (by decide) (by decide) (by decide) (by decide) (by decide)
  · exact rot_f x 2 30 (by unfold wrap64; omega) (by decide) (by decide) (by decide) (by decide) (by decide)
  · exact rot_f x 13 19 (by unfold wrap64; omega) (by decide) (by decide) (by decide) (by decide) (by decide)
  · exact rot_f x 22 10 (by unfold wrap64; omega) (by decide) (by decide) (by decide) (by decide) (by decide)
theorem rot_any (x n : Int) (w : World) (hn : n = 7 ∨ n = 18 ∨ n = 17 ∨ n = 19 ∨ n = 6 ∨ n = 11 ∨ n = 25 ∨ n = 2 ∨ n = 13 ∨ n = 22) : Calls Tryz.prog 143 #[.int .u32 x, .int .i64 n] w fun e w' => e = .returned (.int .u32 (rotI x n)) ∧ ∃ m, w' = w.drewN m := by
  refine (impl_compress_1.calls x n (rotI x n) w ?_).mono fun e w' ⟨he, m, hm⟩ => ⟨he, m, hm⟩
  exact rot_all x n hn
set_option maxHeartbeats 40000000 in
set_option maxRecDepth 100000 in
theorem compress_any (s0 : Nat → Int) (block : ByteArray) (w : World) (hG : GOK w) (hb : block.size = 64) :
    Calls Tryz.prog 118 #[.agg (srow s0), .string block] w fun e w' => e = .returned (.agg (srow (fin (rds s0 (wst block 48) 64) s0 8))) ∧ Below w.heap.size w w' := by
  have hz : ∀ w, (zeroValue 192).run Tryz.prog w = .ok (.agg (wrow fun _ => 0)) w := by
    have := (zero_of_info a64_info).1
    rw [wrow_zero] at this
    exact this
  have hi : (Tryz.prog.info? 192).map (·.size) = some 64 := (zero_of_info a64_info).2
  have HI := Aside0.mk hi
  have hz8 : ∀ w, (zeroValue 161).run Tryz.prog w = .ok (.agg (srow fun _ => 0)) w := by
    have := (zero_of_info a8_info).1
    rw [srow_zero] at this
    exact this
  have hi8 : (Tryz.prog.info? 161).map (·.size) = some 8 := (zero_of_info a8_info).2
  have HI8 := Aside0.mk hi8
  clear hi hi8
  have HG := Aside0.mk hG
  clear hG
  go_enter Tryz.func118, Tryz.ntmps118
  go_wp2_with (first | ((with_reducible refine gst (t := 192) (p := 5) rfl ?_); refine wpList_store_row rfl 192 (.tmp 5) (.tmp 19) rfl (w.heap.size + 1 + 1) (wrow fun _ => 0) ?hx ?hy 192 (wrow fun _ => 0) ?hg ?hi ?ho ?h1 ?_; (case hx => rfl); (case hy => rfl); (case hg => exact heap_three _ _ _ _); (case hi => rw [wrow_size]; exact HI.out); (case ho => rfl); (case h1 => exact wrow_one _); rw [setRow_three]))
  clear hz
  go_loopg [20] 16 (fun g s20 wx => ∃ i n : Nat, i + g = 16 ∧ s20 = .int .i64 i ∧ wx = (wof w s0 (ph1 block i 0)).drewN n)
  case atStart => exact ⟨0, 0, by omega, rfl, by rw [ph1_zero]; rfl⟩
  case round =>
    obtain ⟨i, n, hig, rfl, rfl⟩ := hrel
    cases gk with
    | zero =>
      obtain rfl : i = 16 := by omega
      go_wp2
      go_loopg [9] 48 (fun g s9 wx => ∃ t n : Nat, t + g = 48 ∧ s9 = .int .i64 ((t + 16 : Nat) : Int) ∧ wx = (wof w s0 (wst block t)).drewN n)
      case atStart => exact ⟨0, n, by omega, rfl, rfl⟩
      case round =>
        obtain ⟨t0, n, htg, rfl, rfl⟩ := hrel
        cases gk with
        | zero =>
          obtain rfl : t0 = 48 := by omega
          obtain ⟨F, hF⟩ : ∃ F, wst block 48 = F := ⟨_, rfl⟩
          rw [hF]
          have HFF := Aside0.mk hF
          clear hF
          have hsz := wof_size w s0 F
          have hls : ((wof w s0 F).drewN n).heap[w.heap.size]? = some (.cells (srow s0) 161) := wof_heap0 w s0 F n
          go_wp2_with (first | ((with_reducible refine gds (N := 87) rfl ?_); refine wpList_load_row rfl 161 (.tmp 2) rfl (w.heap.size) ?hp 161 (srow s0) (0, 0) _ ?hg Tryz.underlying161 ?ha ?hi ?_; (case hp => rfl); (case hg => exact hls); (case ha => rfl); (case hi => rw [srow_size]; exact HI8.out)) | ((with_reducible refine gst (t := 161) (p := 12) rfl ?_); refine wpList_store_row rfl 161 (.tmp 12) (.tmp 87) rfl (w.heap.size + 1 + 1 + 1) (srow s0) ?hx ?hy 161 (srow fun _ => 0) ?hg ?hi ?ho ?h1 ?_; (case hx => rfl); (case hy => rfl); (case hg => exact wof2_heap w s0 F (fun _ => 0) n); (case hi => rw [srow_size]; exact HI8.out); (case ho => rw [srow_size, srow_size]); (case h1 => exact srow_one _)))
          clear hls
          have hz8l : ∀ w, (zeroValue 161).run Tryz.prog w = .ok (.agg #[.int .u32 0, .int .u32 0, .int .u32 0, .int .u32 0, .int .u32 0, .int .u32 0, .int .u32 0, .int .u32 0]) w := by
            rw [show (#[.int .u32 0, .int .u32 0, .int .u32 0, .int .u32 0, .int .u32 0, .int .u32 0, .int .u32 0, .int .u32 0] : Array Value) = srow (fun _ => 0) from srow_lit (fun _ => 0)]
            exact hz8
          clear hz8
          go_loopg [88] 64 (fun gk s88 wx => ∃ t n : Nat, t + gk = 64 ∧ s88 = .int .i64 (t : Int) ∧ wx = (wof2 w s0 F (rds s0 F t)).drewN n)
          case atStart => exact ⟨0, n, by omega, rfl, wof2_setRow w s0 F (fun _ => 0) s0 n⟩
          case round =>
            obtain ⟨t, n, htg, rfl, rfl⟩ := hrel
            obtain ⟨g, hg⟩ : ∃ g, rds s0 F t = g := ⟨_, rfl⟩
            rw [hg]
            have HGG := Aside0.mk hg
            clear hg
            cases gk with
            | zero =>
              obtain rfl : t = 64 := by omega
              go_wp2
              go_loopg [176] 8 (fun gk s176 wx => ∃ i n : Nat, i + gk = 8 ∧ s176 = .int .i64 (i : Int) ∧ wx = (wof2 w s0 F (fin g s0 i)).drewN n)
              case atStart => exact ⟨0, n, by omega, rfl, by rw [fin_zero]⟩
              case round =>
                obtain ⟨i, n, hig, rfl, rfl⟩ := hrel
                cases gk with
                | zero =>
                  obtain rfl : i = 8 := by omega
                  have hh := wof2_heap w s0 F (fin g s0 8) n
                  have h4 := wof2_heap4 w s0 F (fin g s0 8) n
                  have hbel := wof2_below w s0 F (fin g s0 8) n
                  obtain ⟨W, hW⟩ : ∃ W, (wof2 w s0 F (fin g s0 8)).drewN n = W := ⟨_, rfl⟩
                  rw [hW] at hh h4 hbel ⊢
                  clear hW
                  have HH := Aside0.mk hh
                  have H4 := Aside0.mk h4
                  have HB := Aside0.mk hbel
                  clear hh h4 hbel
                  go_wp2_with (first | ((with_reducible refine gds (N := 188) rfl ?_); refine wpList_load_row rfl 161 (.tmp 12) rfl (w.heap.size + 1 + 1 + 1) ?hp 161 (srow (fin g s0 8)) (0, 0) _ ?hg Tryz.underlying161 ?ha ?hi ?_; (case hp => rfl); (case hg => exact HH.out); (case ha => rfl); (case hi => rw [srow_size]; exact HI8.out)) | ((with_reducible refine gst (t := 161) (p := 4) rfl ?_); refine wpList_store_row rfl 161 (.tmp 4) (.tmp 188) rfl (w.heap.size + 1) (srow (fin g s0 8)) ?hx ?hy 161 (srow fun _ => 0) ?hg ?hi ?ho ?h1 ?_; (case hx => rfl); (case hy => rfl); (case hg => exact H4.out); (case hi => rw [srow_size]; exact HI8.out); (case ho => rw [srow_size, srow_size]); (case h1 => exact srow_one _)))
                  refine bodyPost_ret (v := .agg (srow (fin g s0 8))) (results_cell_row rfl _ _ (w.heap.size + 1) 161 (srow (fin g s0 8)) (0, 0) _ rfl (heap_setRow_same H4.out) Tryz.underlying161 rfl (by rw [srow_size]; exact HI8.out)) rfl ⟨?_, below_setRow HB.out (by omega) _⟩
                  obtain rfl := HGG.out
                  obtain rfl := HFF.out
                  rfl
                | succ gk =>
                  have hi8 : i < 8 := by omega
                  have hiz : (i : Int) < 8 := by omega
                  have hc := wof2_cell w s0 F (fin g s0 i) n i hi8
                  have hc0 := wof2_cell0 w s0 F (fin g s0 i) n i hi8
                  have hfz := wof2_frozen w s0 F (fin g s0 i) n i
                  rw [fin_at] at hc
                  obtain ⟨gi, hgi⟩ : ∃ x, g i = x := ⟨_, rfl⟩
                  obtain ⟨si, hsi⟩ : ∃ x, s0 i = x := ⟨_, rfl⟩
                  rw [hgi] at hc
                  rw [hsi] at hc0
                  obtain ⟨W, hW⟩ : ∃ W, (wof2 w s0 F (fin g s0 i)).drewN n = W := ⟨_, rfl⟩
                  rw [hW] at hc hc0 hfz ⊢
                  have HW := Aside0.mk hW
                  have HGI := Aside0.mk (And.intro hgi hsi)
                  clear hW hgi hsi
                  go_wp2
                  refine wp_region_still_tail 8 (by kernel_rfl) (by kernel_rfl) ?_
                  rw [drew_one']
                  simp only [List.take_succ_cons, List.take_zero, List.drop_succ_cons, List.drop_zero]
                  repeat still_step
                  try refine wpStill_nil ?_
                  go_wp2
                  go_roundg gk
                  case measure => omega
                  case rel =>
                    refine ⟨i + 1, n + 1, by omega, by first | rfl | simp, ?_⟩
                    obtain ⟨rfl, rfl⟩ := HGI.out
                    rw [← HW.out, World.drewN_drewN, wof2_set, ← fin_succ]
            | succ gk =>
              have htz : (t : Int) < 64 := by omega
              have htn : t < 64 := by omega
              have hcw := wof2_cellw w s0 F g n t htn
              have hck := (HG.out.below (wof2_below w s0 F g n)).words t htn
              have hc0 := wof2_cell w s0 F g n 0 (by omega)
              have hc1 := wof2_cell w s0 F g n 1 (by omega)
              have hc2 := wof2_cell w s0 F g n 2 (by omega)
              have hc3 := wof2_cell w s0 F g n 3 (by omega)
              have hc4 := wof2_cell w s0 F g n 4 (by omega)
              have hc5 := wof2_cell w s0 F g n 5 (by omega)
              have hc6 := wof2_cell w s0 F g n 6 (by omega)
              have hc7 := wof2_cell w s0 F g n 7 (by omega)
              have hh := wof2_heap w s0 F g n
              obtain ⟨W, hW⟩ : ∃ W, (wof2 w s0 F g).drewN n = W := ⟨_, rfl⟩
              rw [hW] at hcw hck hc0 hc1 hc2 hc3 hc4 hc5 hc6 hc7 hh ⊢
              have HW := Aside0.mk hW
              have HH := Aside0.mk hh
              clear hW hh
              obtain ⟨kt, hkt⟩ : ∃ x, kw.getD t 0 = x := ⟨_, rfl⟩
              obtain ⟨ft, hft⟩ : ∃ x, F t = x := ⟨_, rfl⟩
              obtain ⟨g0, hg0⟩ : ∃ x, g 0 = x := ⟨_, rfl⟩
              obtain ⟨g1, hg1⟩ : ∃ x, g 1 = x := ⟨_, rfl⟩
              obtain ⟨g2, hg2⟩ : ∃ x, g 2 = x := ⟨_, rfl⟩
              obtain ⟨g3, hg3⟩ : ∃ x, g 3 = x := ⟨_, rfl⟩
              obtain ⟨g4, hg4⟩ : ∃ x, g 4 = x := ⟨_, rfl⟩
              obtain ⟨g5, hg5⟩ : ∃ x, g 5 = x := ⟨_, rfl⟩
              obtain ⟨g6, hg6⟩ : ∃ x, g 6 = x := ⟨_, rfl⟩
              obtain ⟨g7, hg7⟩ : ∃ x, g 7 = x := ⟨_, rfl⟩
              rw [hkt] at hck
              rw [hft] at hcw
              rw [hg0] at hc0
              rw [hg1] at hc1
              rw [hg2] at hc2
              rw [hg3] at hc3
              rw [hg4] at hc4
              rw [hg5] at hc5
              rw [hg6] at hc6
              rw [hg7] at hc7
              have HX := Aside0.mk (And.intro hkt (And.intro hft (And.intro hg0 (And.intro hg1 (And.intro hg2 (And.intro hg3 (And.intro hg4 (And.intro hg5 (And.intro hg6 hg7)))))))))
              clear hkt hft hg0 hg1 hg2 hg3 hg4 hg5 hg6 hg7
              go_wp2
              go_quiet (fail)
              go_wp2
              go_quiet ((go_at_call 143; exact quietA (rot_any _ _ _ (by omega))))
              go_wp2
              go_quiet ((go_at_call 143; exact quietA (rot_any _ _ _ (by omega))))
              go_wp2_with (first | ((with_reducible refine gst (t := 161) (p := 12) rfl ?_); refine wpList_store_oct rfl 161 (.tmp 12) (.tmp 174) rfl (w.heap.size + 1 + 1 + 1) (by rfl) (by rfl) 161 g (by exact HH.out) HI8.out ?_))
              go_roundg gk
              case measure => omega
              case rel =>
                refine ⟨t + 1, n + _, by omega, by first | rfl | simp, rds_step w s0 F g n t HW.out HGG.out (fun j hj => ?_)⟩
                obtain ⟨rfl, rfl, rfl, rfl, rfl, rfl, rfl, rfl, rfl, rfl⟩ := HX.out
                have h8 : j = 0 ∨ j = 1 ∨ j = 2 ∨ j = 3 ∨ j = 4 ∨ j = 5 ∨ j = 6 ∨ j = 7 := by omega
                clear hj
                rcases h8 with rfl | rfl | rfl | rfl | rfl | rfl | rfl | rfl
                · simp only [oct, rnd, rnd1, rnd2]
                  exact emod_two _ _ _
                · rfl
                · rfl
                · rfl
                · simp only [oct, rnd, rnd1, rnd2]
                  exact emod_one _ _ _
                · rfl
                · rfl
                · rfl
        | succ g =>
          obtain ⟨t, ht⟩ : ∃ t, t = t0 + 16 := ⟨_, rfl⟩
          rw [← ht]
          have hm : t0 + 1 + g = 48 := by omega
          have htz : (t : Int) < 64 := by omega
          have htn : t < 64 := by omega
          have htn16 : 16 ≤ t := by omega
          have ht0 : 0 ≤ (t : Int) := by omega
          have a15 : 0 ≤ (t : Int) - 15 := by omega
          have b15 : (t : Int) - 15 < 64 := by omega
          have w15 : IntKind.i64.wrap ((t : Int) - 15) = (t : Int) - 15 := by rw [IntKind.wrap_i64]; omega
          have a2 : 0 ≤ (t : Int) - 2 := by omega
          have b2 : (t : Int) - 2 < 64 := by omega
          have w2 : IntKind.i64.wrap ((t : Int) - 2) = (t : Int) - 2 := by rw [IntKind.wrap_i64]; omega
          have a16 : 0 ≤ (t : Int) - 16 := by omega
          have b16 : (t : Int) - 16 < 64 := by omega
          have w16 : IntKind.i64.wrap ((t : Int) - 16) = (t : Int) - 16 := by rw [IntKind.wrap_i64]; omega
          have a7 : 0 ≤ (t : Int) - 7 := by omega
          have b7 : (t : Int) - 7 < 64 := by omega
          have w7 : IntKind.i64.wrap ((t : Int) - 7) = (t : Int) - 7 := by rw [IntKind.wrap_i64]; omega
          have HT := Aside0.mk ht
          clear ht htg
          obtain ⟨f, hf⟩ : ∃ f, wst block t0 = f := ⟨_, rfl⟩
          rw [hf]
          have HF := Aside0.mk hf
          clear hf
          obtain ⟨x, hx⟩ : ∃ x, f (t - 15) = x := ⟨_, rfl⟩
          obtain ⟨y, hy⟩ : ∃ x, f (t - 2) = x := ⟨_, rfl⟩
          obtain ⟨p, hp⟩ : ∃ x, f (t - 16) = x := ⟨_, rfl⟩
          obtain ⟨q, hq⟩ : ∃ x, f (t - 7) = x := ⟨_, rfl⟩
          have hc15 : ((wof w s0 f).drewN n).cell? ⟨w.heap.size + 1 + 1, t - 15, none⟩ = some (.int .u32 x) := by rw [← hx]; exact wof_cell w s0 f n (t - 15) (by omega)
          have hc2 : ((wof w s0 f).drewN n).cell? ⟨w.heap.size + 1 + 1, t - 2, none⟩ = some (.int .u32 y) := by rw [← hy]; exact wof_cell w s0 f n (t - 2) (by omega)
          have hc16 : ((wof w s0 f).drewN n).cell? ⟨w.heap.size + 1 + 1, t - 16, none⟩ = some (.int .u32 p) := by rw [← hp]; exact wof_cell w s0 f n (t - 16) (by omega)
          have hc7 : ((wof w s0 f).drewN n).cell? ⟨w.heap.size + 1 + 1, t - 7, none⟩ = some (.int .u32 q) := by rw [← hq]; exact wof_cell w s0 f n (t - 7) (by omega)
          have hct := wof_cell w s0 f n t htn
          have hF := wof_frozen w s0 f n t
          have HX := Aside0.mk (And.intro hx (And.intro hy (And.intro hp hq)))
          clear hx hy hp hq
          obtain ⟨W, hW⟩ : ∃ W, (wof w s0 f).drewN n = W := ⟨_, rfl⟩
          rw [hW] at hc15 hc2 hc16 hc7 hct hF ⊢
          have HW := Aside0.mk hW
          clear hW
          go_wp2
          go_quiet (fail)
          have e16 : t - 16 = ((t : Int) - 16).toNat := by omega
          have e7 : t - 7 = ((t : Int) - 7).toNat := by omega
          rw [e16] at hc16
          rw [e7] at hc7
          clear e16 e7
          have n16 : ¬ t = ((t : Int) - 16).toNat := by omega
          have c16 : (16 : Int) ≤ (t : Int) := by omega
          have c7 : (7 : Int) ≤ (t : Int) := by omega
          have d16 : (t : Int) < 80 := by omega
          have d7 : (t : Int) < 71 := by omega
          have n7 : ¬ t = ((t : Int) - 7).toNat := by omega
          go_wp2
          go_region_held3 (fun w' => w'.cell? ⟨w.heap.size + 1 + 1, ((t : Int) - 16).toNat, none⟩ = some (.int .u32 p) ∧ w'.cell? ⟨w.heap.size + 1 + 1, ((t : Int) - 7).toNat, none⟩ = some (.int .u32 q)) (first | go_keep | exact ⟨cell_other hc16 n16 _ _, cell_other hc7 n7 _ _⟩) (first | (go_at_call 143; refine (rot_any _ _ _ (by omega)).mono ?_; rintro e w' ⟨rfl, m, rfl⟩))
          clear hc15 hc2 hc16 hc7 hct hF w15 w2 w16 w7 a15 a2 a16 a7 b15 b2 b16 b7 n16 n7 c16 c7 d16 d7
          go_wp2
          go_roundg g
          case measure => omega
          case rel =>
            obtain ⟨rfl, rfl, rfl, rfl⟩ := HX.out
            obtain rfl := HT.out
            obtain rfl := HF.out
            exact ⟨t0 + 1, _, by omega, by first | rfl | (simp; omega), by rw [← HW.out, World.drewN_drewN, wof_set]; rfl⟩
    | succ g =>
      have hi : i < 16 := by omega
      have hiz : (i : Int) < 16 := by omega
      go_wp2
      go_loopg [23] 4 (fun g2 s23 wx => ∃ k n : Nat, k + g2 = 4 ∧ s23 = .int .i64 k ∧ wx = (wof w s0 (ph1 block i k)).drewN n)
      case atStart => exact ⟨0, n, by omega, rfl, rfl⟩
      case round =>
        obtain ⟨k, n, hkg, rfl, rfl⟩ := hrel
        cases gk with
        | zero =>
          obtain rfl : k = 4 := by omega
          go_wp2
          go_roundg g
          case measure => omega
          case rel => exact ⟨i + 1, n, by omega, by first | rfl | simp, by rw [ph1_next]⟩
        | succ g2 =>
          have hk : k < 4 := by omega
          have hkz : (k : Int) < 4 := by omega
          obtain ⟨q, hq⟩ : ∃ q, q = 4 * i + k := ⟨_, rfl⟩
          have hqb : q < block.size := by omega
          have hqz : (q : Int) < (block.size : Int) := by omega
          have hx : ((block[q]'hqb).toNat : Int) = bt block ((q : Nat) : Int) := bt_at block (q : Int) hqb
          have hw1 : IntKind.i64.wrap (4 * (i : Int)) = 4 * (i : Int) := by rw [IntKind.wrap_i64]; omega
          have hw2 : IntKind.i64.wrap (4 * (i : Int) + (k : Int)) = 4 * (i : Int) + (k : Int) := by rw [IntKind.wrap_i64]; omega
          have hi0 : 0 ≤ 4 * (i : Int) + (k : Int) := by omega
          have hi1 : 4 * (i : Int) + (k : Int) < 64 := by omega
          have hx2 : ((block[(4 * (i : Int) + (k : Int)).toNat]'(by omega)).toNat : Int) = bt block ((q : Nat) : Int) := by rw [← hx]; congr 3; omega
          have hbr := bt_range block ((q : Nat) : Int)
          have hc := fun n => wof_cell w s0 (ph1 block i k) n i (by omega)
          have hf := fun n => wof_frozen w s0 (ph1 block i k) n i
          have h64 : (i : Int) < 64 := by omega
          have h0 : 0 ≤ (i : Int) := by omega
          have hd := fun n v => wof_set w s0 (ph1 block i k) n i v
          go_wp2
          refine wp_region_still_tail 14 (by kernel_rfl) (by kernel_rfl) ?_
          rw [drew_one]
          simp only [List.take_succ_cons, List.take_zero, List.drop_succ_cons, List.drop_zero]
          repeat still_step
          try refine wpStill_nil ?_
          go_wp2
          go_roundg g2
          case measure => omega
          case rel => exact ⟨k + 1, n + 1, by omega, by first | rfl | simp, by rw [ph1_step]⟩
def impl_u32.f (k : Nat) (a0 : Int) : Option (ByteArray) := (impl_number.f k a0 4).bind fun t203 => (some t203)
theorem impl_u32.mono : ∀ a0 k, LeO (impl_u32.f k a0) (impl_u32.f (k + 1) a0) := by
  intro a0 k
  unfold impl_u32.f
  repeat' first
    | (with_reducible first | exact impl_number.mono .. | exact LeO.refl _ | exact LeO.none _ | refine LeO.ite ?_ ?_ | refine LeO.bind ?_ (fun _ => ?_))
    | exact impl_number.mono .. | exact LeO.none _ | refine LeO.ite ?_ ?_ | refine LeO.bind ?_ (fun _ => ?_)
set_option maxHeartbeats 8000000 in
set_option maxRecDepth 100000 in
theorem impl_u32.calls (k : Nat) (a0 : Int) (r : ByteArray) (w : World) (h : impl_u32.f k a0 = some r) :
    Calls Tryz.prog 119 #[.int .i64 a0] w fun e w' => e = .returned (.string r) ∧ Below w.heap.size w w' := by
  have HB := qK (Below.refl w.heap.size w); have H : ((impl_number.f k a0 4).bind fun t203 => (some t203)) = some r := h; clear h; obtain ⟨t203, A2, H⟩ := qbi H; obtain rfl := qsi H; go_enter Tryz.func119, Tryz.ntmps119; go_wp2_with (first | ((with_reducible refine gcl (f := 142) rfl ?_); refine gL 4 Tryz.func142 #[.int .i64 a0, .int .i64 4] ?_; (with_reducible refine (impl_number.calls k a0 4 t203 _ A2.out).mono ?_); rintro e w3 ⟨rfl, hb⟩; refine ⟨_, rfl, ?_⟩; replace HB := qHB HB hb; (try clear hb))); go_ret; exact ⟨qR, qB⟩
end Go.Proofs.YtajkbbifemeanaaGreatDoor.L
end
section
set_option linter.unusedVariables false
set_option linter.unusedSimpArgs false
namespace Go.Proofs.YtajkbbifemeanaaGreatDoor
open Go.RowKit Go.Proofs.YtajkbbifemeanaaGreatDoorW.PrintWords
/-- The lowest bytes of v, the highest first: so many. -/
def numB : Nat → Int → List Int
  | 0, _ => []
  | n + 1, v => (v / 256 ^ n) % 256 :: numB n v
theorem numB_length (n : Nat) (v : Int) : (numB n v).length = n := by
  induction n with
  | zero => rfl
  | succ n ih => simp [numB, ih]
theorem numB_get (n : Nat) : ∀ (v : Int) (i : Nat), i < n → (numB n v)[i]? = some ((v / 256 ^ (n - 1 - i)) % 256) := by
  induction n with
  | zero => intro v i h; omega
  | succ n ih =>
    intro v i h
    cases i with
    | zero => simp [numB]
    | succ i => simp only [numB, List.getElem?_cons_succ]; rw [ih v i (by omega)]; congr 4; omega
theorem strOfNums_size (l : List Int) : (strOfNums l).size = l.length := by simp [strOfNums, ByteArray.size]
end Go.Proofs.YtajkbbifemeanaaGreatDoor
end
section
set_option linter.unusedVariables false
set_option linter.unusedSimpArgs false
namespace Go.Proofs.YtajkbbifemeanaaGreatDoor.Pure
open Go.RowKit Go.Proofs.YtajkbbifemeanaaGreatDoor Go.Proofs.YtajkbbifemeanaaGreatDoor.L Go.Proofs.YtajkbbifemeanaaGreatDoorW.PrintWords Go.Proofs.YtajkbbifemeanaaGreatDoorW.PrintLast
theorem num_l1 (d : Nat) : ∀ (j : Nat) (x1 : Int) (x5 : List Int) (i : Nat) (x : Int) (r : ByteArray), j + d = i → i ≤ 100 → x5.length < 1000 →
    Ev (fun k => spec_l1Num.l0 k x1 (x5 ++ [(x / 256 ^ d) % 256]) (wrap64 ((i : Int) - 1))) r → Ev (fun k => spec_l1Num.l1 k x1 x5 i x j) r := by
  induction d with
  | zero =>
    intro j x1 x5 i x r hj hi hl h
    refine Ev.step (f := fun k => spec_l1Num.l0 k x1 (x5 ++ [x % 256]) (wrap64 ((i : Int) - 1))) (fun k => ?_) ?_
    · rw [spec_l1Num.l1, if_neg (by omega), if_pos (by omega)]
    · simpa using h
  | succ d ih =>
    intro j x1 x5 i x r hj hi hl h
    refine Ev.step (f := fun k => spec_l1Num.l1 k x1 x5 i (x / 256) ((j + 1 : Nat) : Int)) (fun k => ?_) ?_
    · rw [spec_l1Num.l1, if_pos (by omega), show wrap64 ((j : Int) + 1) = ((j + 1 : Nat) : Int) from by unfold wrap64; omega]
    · refine ih (j + 1) x1 x5 i (x / 256) r (by omega) hi hl ?_
      rw [Int.ediv_ediv_of_nonneg (by decide), show (256 : Int) * 256 ^ d = 256 ^ (d + 1) from by rw [Int.pow_succ]; exact Int.mul_comm _ _]
      exact h
theorem num_l0 (n : Nat) : ∀ (x1 : Int) (x5 : List Int), n ≤ 100 → x5.length + n < 1000 →
    Ev (fun k => spec_l1Num.l0 k x1 x5 ((n : Int) - 1)) (strOfNums (x5 ++ numB n x1)) := by
  induction n with
  | zero =>
    intro x1 x5 _ _
    refine Ev.step (f := fun _ => some (strOfNums x5)) (fun k => ?_) ?_
    · rw [spec_l1Num.l0, if_neg (by omega)]
    · simpa [numB] using Ev.now _
  | succ n ih =>
    intro x1 x5 hn hl
    refine Ev.step (f := fun k => spec_l1Num.l1 k x1 x5 ((n + 1 : Nat) - 1) x1 0) (fun k => ?_) ?_
    · rw [spec_l1Num.l0, if_pos (by omega)]
    · have e : (((n + 1 : Nat) : Int) - 1) = (n : Int) := by omega
      rw [e]
      refine num_l1 n 0 x1 x5 n x1 _ (by omega) (by omega) (by omega) ?_
      have hw : wrap64 ((n : Int) - 1) = (n : Int) - 1 := by unfold wrap64; omega
      rw [hw]
      have := ih x1 (x5 ++ [(x1 / 256 ^ n) % 256]) (by omega) (by simp; omega)
      simpa [numB, List.append_assoc] using this
theorem spec_num (n : Nat) (v : Int) (hn : n ≤ 100) : Ev (fun k => spec_l1Num.f k n v) (strOfNums (numB n v)) := by
  have h := num_l0 n v [] hn (by simp; omega)
  refine Ev.congr (f := fun k => spec_l1Num.l0 k v [] ((n : Int) - 1)) (fun k => ?_) (by simpa using h)
  unfold spec_l1Num.f
  rw [show wrap64 ((n : Int) - 1) = (n : Int) - 1 from by unfold wrap64; omega]
end Go.Proofs.YtajkbbifemeanaaGreatDoor.Pure
end
section
set_option linter.unusedVariables false
set_option linter.unusedSimpArgs false
namespace Go.Proofs.YtajkbbifemeanaaGreatDoor.Pure
open Go.RowKit Go.Proofs.YtajkbbifemeanaaGreatDoor Go.Proofs.YtajkbbifemeanaaGreatDoor.L Go.Proofs.YtajkbbifemeanaaGreatDoorW.PrintWords Go.Proofs.YtajkbbifemeanaaGreatDoorW.PrintLast
theorem inum_l0 (e : Nat) : ∀ (x0 : Int) (n : Nat) (xs : List Int) (i : Nat), i + e = n → n ≤ 8 → xs.length = n → (∀ j, j < i → xs[j]? = (numB n x0)[j]?) →
    Ev (fun k => impl_number.l0 k x0 n xs n i) (strOfNums (numB n x0)) := by
  induction e with
  | zero =>
    intro x0 n xs i hi hn hl hx
    obtain rfl : i = n := by omega
    have : xs = numB i x0 := by
      apply List.ext_getElem?
      intro j
      by_cases hj : j < i
      · exact hx j hj
      · rw [List.getElem?_eq_none (by omega), List.getElem?_eq_none (by rw [numB_length]; omega)]
    subst this
    refine Ev.step (f := fun _ => some (strOfNums (numB i x0))) (fun k => ?_) (Ev.now _)
    rw [impl_number.l0, if_neg (by omega)]
  | succ e ih =>
    intro x0 n xs i hi hn hl hx
    have hw : wrap64 (8 * wrap64 (wrap64 ((n : Int) - 1) - (i : Int))) = ((8 * (n - 1 - i) : Nat) : Int) := by unfold wrap64; omega
    have hsh : shr .i64 x0 ((8 * (n - 1 - i) : Nat) : Int) = x0 / 256 ^ (n - 1 - i) := by
      unfold shr
      have hm : min ((8 * (n - 1 - i) : Nat) : Int).toNat 64 = 8 * (n - 1 - i) := by omega
      show x0 / 2 ^ min ((8 * (n - 1 - i) : Nat) : Int).toNat 64 = _
      rw [hm, Int.pow_mul]; rfl
    refine Ev.step (f := fun k => impl_number.l0 k x0 n (xs.set i ((x0 / 256 ^ (n - 1 - i)) % 256)) n ((i + 1 : Nat) : Int)) (fun k => ?_) ?_
    · rw [impl_number.l0, if_pos (by omega), hw, if_pos (by omega), if_pos (by omega), if_pos (by omega), hsh, show wrap64 ((i : Int) + 1) = ((i + 1 : Nat) : Int) from by unfold wrap64; omega]
      simp
    · refine ih x0 n _ (i + 1) (by omega) hn (by simp [hl]) (fun j hj => ?_)
      rw [List.getElem?_set]
      by_cases h : i = j
      · subst h
        rw [if_pos rfl, if_pos (by omega), numB_get n x0 i (by omega)]
      · rw [if_neg h]
        exact hx j (by omega)
theorem impl_num (n : Nat) (v : Int) (hn : n ≤ 8) : Ev (fun k => impl_number.f k v n) (strOfNums (numB n v)) := by
  have h := inum_l0 n v n (List.replicate n 0) 0 (by omega) hn (by simp) (fun j hj => by omega)
  refine Ev.congr (fun k => ?_) h
  unfold impl_number.f
  rw [if_pos (by omega), if_pos (by omega)]
  simp
end Go.Proofs.YtajkbbifemeanaaGreatDoor.Pure
end
section
set_option linter.unusedVariables false
set_option linter.unusedSimpArgs false
namespace Go.Proofs.YtajkbbifemeanaaGreatDoor.Pure
open Go.RowKit Go.Proofs.YtajkbbifemeanaaGreatDoor Go.Proofs.YtajkbbifemeanaaGreatDoor.L Go.Proofs.YtajkbbifemeanaaGreatDoorW.PrintWords Go.Proofs.YtajkbbifemeanaaGreatDoorW.PrintLast
theorem impl_u32_ev (v : Int) : Ev (fun k => impl_u32.f k v) (strOfNums (numB 4 v)) := by
  unfold impl_u32.f
  exact (impl_num 4 v (by omega)).bind (Ev.now _)
theorem impl_u64_ev (v : Int) : Ev (fun k => impl_u64.f k v) (strOfNums (numB 8 v)) := by
  unfold impl_u64.f
  exact (impl_num 8 v (by omega)).bind (Ev.now _)
end Go.Proofs.YtajkbbifemeanaaGreatDoor.Pure
end
section
set_option linter.unusedVariables false
set_option linter.unusedSimpArgs false
namespace Go.Proofs.YtajkbbifemeanaaGreatDoor
open Go Go.RowKit Go.Proofs.YtajkbbifemeanaaGreatDoorW.PrintWords Go.Proofs.YtajkbbifemeanaaGreatDoorW.PrintMore
/-- The state behind one block. -/
def cmp (st : Nat → Int) (block : ByteArray) : Nat → Int := fin (rds st (wst block 48) 64) st 8
theorem cmp_range (st : Nat → Int) (b : ByteArray) (j : Nat) (hj : j < 8) : 0 ≤ cmp st b j ∧ cmp st b j ≤ 4294967295 := by
  have : cmp st b j = (rds st (wst b 48) 64 j + st j) % 4294967296 := by simp [cmp, fin, hj]
  rw [this]
  omega
/-- So many zero bytes behind t. -/
def padTo : Nat → ByteArray → ByteArray
  | 0, t => t
  | n + 1, t => padTo n (t ++ ⟨#[0]⟩)
theorem padTo_size (n : Nat) : ∀ t : ByteArray, (padTo n t).size = t.size + n := by
  induction n with
  | zero => intro t; rfl
  | succ n ih =>
    intro t
    rw [padTo, ih]
    have : (t ++ (⟨#[0]⟩ : ByteArray)).size = t.size + 1 := by rw [ByteArray.size_append]; rfl
    omega
def sha0 : Nat → Int := oct 1779033703 3144134277 1013904242 2773480762 1359893119 2600822924 528734635 1541459225
theorem sha0_range (j : Nat) (hj : j < 8) : 0 ≤ sha0 j ∧ sha0 j ≤ 4294967295 := by
  have : j = 0 ∨ j = 1 ∨ j = 2 ∨ j = 3 ∨ j = 4 ∨ j = 5 ∨ j = 6 ∨ j = 7 := by omega
  rcases this with rfl | rfl | rfl | rfl | rfl | rfl | rfl | rfl <;> (simp only [sha0, oct]; omega)
def shaSt (t : ByteArray) : Nat → Nat → Int
  | 0 => sha0
  | i + 1 => cmp (shaSt t i) (t.extract (64 * i) (64 * i + 64))
theorem shaSt_range (t : ByteArray) (i j : Nat) (hj : j < 8) : 0 ≤ shaSt t i j ∧ shaSt t i j ≤ 4294967295 := by
  cases i with
  | zero => exact sha0_range j hj
  | succ i => exact cmp_range _ _ j hj
def shaOut (st : Nat → Int) : Nat → ByteArray
  | 0 => ⟨#[]⟩
  | i + 1 => shaOut st i ++ strOfNums (numB 4 (st i))
theorem shaOut_size (st : Nat → Int) (i : Nat) : (shaOut st i).size = 4 * i := by
  induction i with
  | zero => rfl
  | succ i ih => rw [shaOut, ByteArray.size_append, ih, strOfNums_size, numB_length]; omega
/-- The text with the one bit and the zeros. -/
def shaPad (s : ByteArray) : ByteArray := padTo ((120 - (s.size + 1) % 64) % 64) (s ++ ⟨#[128]⟩)
theorem one_size (s : ByteArray) (b : UInt8) : (s ++ (⟨#[b]⟩ : ByteArray)).size = s.size + 1 := by rw [ByteArray.size_append]; rfl
theorem shaPad_size (s : ByteArray) : (shaPad s).size = s.size + 1 + (120 - (s.size + 1) % 64) % 64 := by rw [shaPad, padTo_size, one_size]
theorem shaPad_mod (s : ByteArray) : (shaPad s).size % 64 = 56 := by rw [shaPad_size]; omega
def shaText (s : ByteArray) : ByteArray := shaPad s ++ strOfNums (numB 8 (8 * (s.size : Int)))
theorem shaText_size (s : ByteArray) : (shaText s).size = (shaPad s).size + 8 := by rw [shaText, ByteArray.size_append, strOfNums_size, numB_length]
theorem shaText_mod (s : ByteArray) : (shaText s).size % 64 = 0 := by
  have := shaPad_mod s
  rw [shaText_size]
  omega
theorem shaText_le (s : ByteArray) : (shaText s).size ≤ s.size + 72 := by rw [shaText_size, shaPad_size]; omega
def shaI (s : ByteArray) : ByteArray := shaOut (shaSt (shaText s) ((shaText s).size / 64)) 8
theorem shaI_size (s : ByteArray) : (shaI s).size = 32 := by rw [shaI, shaOut_size]
theorem extract_extract (t : ByteArray) (i n : Nat) (hn : n = t.size) (h : i + 64 ≤ t.size) : (t.extract i n).extract 64 (n - i) = t.extract (i + 64) n := by
  subst hn
  rw [ByteArray.extract_extract]
  congr 1
  omega
theorem extract_head (t : ByteArray) (i n : Nat) (hn : n = t.size) (h : i + 64 ≤ t.size) : (t.extract i n).extract 0 64 = t.extract i (i + 64) := by
  subst hn
  rw [ByteArray.extract_extract]
  congr 1
  omega
end Go.Proofs.YtajkbbifemeanaaGreatDoor
end
section
namespace Go.Proofs.YtajkbbifemeanaaGreatDoor.L
open Go.RowKit Go.Proofs.YtajkbbifemeanaaGreatDoorW.PrintWords Go.Proofs.YtajkbbifemeanaaGreatDoorW.PrintLast Go.Proofs.YtajkbbifemeanaaGreatDoorW.PrintMore
attribute [local go_sem] max2_int min2_int max_two min_two max_three min_three max_four min_four
set_option linter.unusedVariables false
set_option linter.unusedSimpArgs false
theorem u64_any (v : Int) (w : World) : Calls Tryz.prog 117 #[.int .i64 v] w fun e w' => e = .returned (.string (strOfNums (numB 8 v))) ∧ Below w.heap.size w w' := by
  obtain ⟨k, hk⟩ := (Go.Proofs.YtajkbbifemeanaaGreatDoor.Pure.impl_u64_ev v).rounds
  exact impl_u64.calls k v _ w hk
theorem u32_any (v : Int) (w : World) : Calls Tryz.prog 119 #[.int .i64 v] w fun e w' => e = .returned (.string (strOfNums (numB 4 v))) ∧ Below w.heap.size w w' := by
  obtain ⟨k, hk⟩ := (Go.Proofs.YtajkbbifemeanaaGreatDoor.Pure.impl_u32_ev v).rounds
  exact impl_u32.calls k v _ w hk
theorem u32_info : Tryz.prog.info? 68 = some ((Tryz.prog.info? 68).getD default) := by kernel_rfl
theorem index_arr {P : Program} {t e : TypeId} {n : Nat} {cs : Array Value} {k : IntKind} {j : Nat} {v : Value} {i : TypeInfo} (hi : P.info? e = some i) (hc : P.cellsOf e = 1) {k2 : IntKind} (hd : P.underlying e = some (.int k2)) (h : P.underlying t = some (.array n e)) (hj : j < n) (hv : cs[j]? = some v) (w : World) :
    (Instr.index t (.agg cs) (.int k (j : Int))).run P w = .ok v w := by
  have h1 : (0 ≤ (j : Int) ∧ (j : Int) < (n : Int)) := by omega
  have hs := run_sizeOf w hi
  have hg : (isAgg e).run P w = .ok false w := by
    unfold isAgg
    rw [Sem.run_bind, run_underlying hd w]
    rfl
  simp [Instr.index, run_underlying h, asIntOf, h1, hj, hv, hs, hc, hg, go_sem]
theorem exec_load_row {P : Program} {o : Oper} {a : Act} {w : World} (ty : TypeId) (x : Operand) (ho : o.op = .load ty x)
    (g : Nat) (hx : a.eval x = .pointer (some ⟨g, 0, none⟩)) (t : TypeId) (cs : Array Value) {n : Nat} {e : TypeId} (hg : w.heap[g]? = some (.cells cs t (0, 0)))
    (hu : P.underlying ty = some (.array n e)) (hi : (P.info? ty).map (·.size) = some cs.size) : (execOp a.eval o).run P w = .ok (.value (.agg cs)) w := by
  unfold execOp
  simp only [ho, hx, Instr.loadAt, Instr.sureAddr, Sem.run_bind, Sem.run_pure, Result.andThen_ok, run_loadVar_row w g t ty cs (0, 0) _ hg hu rfl hi]
theorem exec_store_row {P : Program} {o : Oper} {a : Act} {w : World} (ty : TypeId) (x y : Operand) (ho : o.op = .store ty x y)
    (g : Nat) (cells : Array Value) (hx : a.eval x = .pointer (some ⟨g, 0, none⟩)) (hy : a.eval y = .agg cells)
    (t : TypeId) (old : Array Value) (hg : w.heap[g]? = some (.cells old t (0, 0))) (hi : (P.info? ty).map (·.size) = some cells.size)
    (hold : old.size = cells.size) (h1 : cells.all (·.oneCell') = true) : (execOp a.eval o).run P w = .ok .skip (w.setRow g cells) := by
  unfold execOp
  simp only [ho, hx, hy, Instr.storeAt, Instr.sureAddr, Sem.run_bind, Sem.run_pure, Result.andThen_ok, run_storeVar_row w g t ty old cells hg hi hold h1]
theorem ex_empty (t : ByteArray) (i : Nat) : t.extract i i = ⟨#[]⟩ := by
  apply ByteArray.ext
  simp [ByteArray.data_extract]
theorem sha_zero (t : ByteArray) : t.extract (64 * 0) t.size = t := by
  rw [Nat.mul_zero]; exact ByteArray.extract_zero_size
set_option maxHeartbeats 40000000 in
set_option maxRecDepth 100000 in
theorem sha_any (s : ByteArray) (w : World) (hG : GOK w) (hs : s.size ≤ 1099511627776) :
    Calls Tryz.prog 70 #[.string s] w fun e w' => e = .returned (.string (shaI s)) ∧ Below w.heap.size w w' := by
  have hz8 : ∀ w, (zeroValue 161).run Tryz.prog w = .ok (.agg #[.int .u32 0, .int .u32 0, .int .u32 0, .int .u32 0, .int .u32 0, .int .u32 0, .int .u32 0, .int .u32 0]) w := (zero_of_info a8_info).1
  have hi8 : (Tryz.prog.info? 161).map (·.size) = some 8 := (zero_of_info a8_info).2
  have HI8 := Aside0.mk hi8
  have HG := Aside0.mk hG
  have HP := Aside0.mk (shaPad_mod s)
  have HPS := Aside0.mk (shaPad_size s)
  clear hi8 hG
  have hsz : ((s.size : Nat) : Int) + 1 ≤ 9223372036854775807 := by omega
  have h1 : (s ++ (⟨#[128]⟩ : ByteArray)).size = s.size + 1 := one_size s 128
  go_enter Tryz.func70, Tryz.ntmps70
  go_wp2
  go_loopg [3] 64 (fun g s3 wx => ∃ (d : Nat) (t : ByteArray), d ≤ g ∧ d ≤ 63 ∧ s3 = .string t ∧ padTo d t = shaPad s ∧ w = wx)
  case atStart => exact ⟨(120 - (s.size + 1) % 64) % 64, _, by omega, by omega, rfl, rfl, rfl⟩
  case round =>
    obtain ⟨d, t, hdg, hd63, rfl, hpt, rfl⟩ := hrel
    have hts := congrArg ByteArray.size hpt
    rw [padTo_size, HPS.out] at hts
    cases d with
    | zero =>
      obtain rfl : t = shaPad s := hpt
      have hm := HP.out
      obtain ⟨T, hT⟩ : ∃ T, shaPad s = T := ⟨_, rfl⟩
      rw [hT] at hm hts ⊢
      have hmz : (T.size : Int) % 64 = 56 := by omega
      have htz : (T.size : Int) ≤ 1099511627900 := by omega
      have hn8 : (strOfNums (numB 8 (8 * (s.size : Int)))).size = 8 := by rw [strOfNums_size, numB_length]
      go_wp2_with (first | (go_at_call 117; refine (u64_any _ _).mono ?_; rintro e w1 ⟨rfl, hb1⟩) | ((with_reducible refine gst (t := 161) (p := 4) rfl ?_); refine wpList_store_oct rfl 161 (.tmp 4) (.tmp 22) rfl w1.heap.size (by rfl) (by rfl) 161 (fun _ => 0) (by exact (heap_alloc_last w1 _).trans (congrArg (fun c => some (Obj.cells c 161 (0, 0))) (srow_lit (fun _ => 0)))) HI8.out ?_; rw [World.setRow_alloc_new]))
      have hp1 : w.heap.size ≤ w1.heap.size := hb1.size
      simp only [Act.put]
      have hX : T ++ strOfNums (numB 8 (8 * (s.size : Int))) = shaText s := by rw [← hT]; rfl
      rw [hX]
      obtain ⟨X, hXX⟩ : ∃ X, shaText s = X := ⟨_, rfl⟩
      have hXm := shaText_mod s
      have hXs := shaText_le s
      rw [hXX] at hXm hXs ⊢
      have HXX := Aside0.mk hXX
      have HB1 := Aside0.mk hb1
      clear hX hXX hb1 hn8
      obtain ⟨N, hN⟩ : ∃ N, X.size = 64 * N := ⟨X.size / 64, by omega⟩
      go_loopg [3] N (fun g s3 wx => ∃ i : Nat, i + g = N ∧ s3 = .string (X.extract (64 * i) X.size) ∧ Aside0 (wx.heap[w1.heap.size]? = some (.cells (srow (shaSt X i)) 161)) ∧ Aside0 (Below w.heap.size w wx))
      case atStart =>
        exact ⟨0, by omega, by rw [sha_zero], ⟨heap_alloc_last _ _⟩, ⟨HB1.out.alloc hp1 _⟩⟩
      case round =>
        obtain ⟨i, hig, rfl, HR, HB⟩ := hrel
        clear hXm hts hm hmz htz hT hs hsz h1
        cases gk with
        | zero =>
          obtain rfl : i = N := by omega
          have he : X.extract (64 * i) X.size = ⟨#[]⟩ := by rw [hN]; exact ex_empty _ _
          rw [he]
          have HN := Aside0.mk hN
          have hr : i = X.size / 64 := by omega
          clear he hig hN hXs
          have HIN := Aside0.mk hr
          clear hr
          obtain ⟨st, hst⟩ : ∃ f, shaSt X i = f := ⟨_, rfl⟩
          have hstr := shaSt_range X i
          rw [hst] at HR hstr
          have HST := Aside0.mk hst
          have HSR := Aside0.mk hstr
          clear hst hstr
          go_wp2_with (first | ((with_reducible refine gds (N := 32) rfl ?_); refine wpList_load_row rfl 161 (.tmp 4) rfl w1.heap.size ?hp 161 (srow st) (0, 0) _ ?hg Tryz.underlying161 ?ha ?hi ?_; (case hp => rfl); (case hg => exact HR.out); (case ha => rfl); (case hi => rw [srow_size]; exact HI8.out)))
          have H0 := HB
          go_loopg [33, 5] 8 (fun g s33 s5 wx => ∃ j : Nat, j + g = 8 ∧ s33 = .int .i64 j ∧ s5 = .string (shaOut st j) ∧ Aside0 (Below w.heap.size w wx))
          case atStart => exact ⟨0, by omega, rfl, rfl, HB⟩
          case round =>
            obtain ⟨j, hjg, rfl, rfl, HB⟩ := hrel
            cases gk with
            | zero =>
              obtain rfl : j = 8 := by omega
              go_wp2
              go_ret
              have hir := HIN.out
              refine ⟨?_, HB.out⟩
              show Ending.returned (Value.string (shaOut st 8)) = _
              rw [shaI, HXX.out, ← hir, HST.out]
            | succ gk =>
              have hj8 : j < 8 := by omega
              have hjz : (j : Int) < 8 := by omega
              have hj0 : 0 ≤ (j : Int) := by omega
              have hsa := srow_at st j hj8
              have hix := fun W => index_arr (k := .i64) u32_info (by kernel_rfl) Tryz.underlying68 Tryz.underlying161 hj8 hsa W
              have hos : (shaOut st j).size ≤ 32 := by rw [shaOut_size]; omega
              have hon : (strOfNums (numB 4 (st j))).size = 4 := by rw [strOfNums_size, numB_length]
              have hr0 := (HSR.out j hj8).1
              have hr1 := (HSR.out j hj8).2
              have hw : IntKind.i64.wrap (st j) = st j := by rw [IntKind.wrap_i64]; omega
              have HJ := Aside0.mk (And.intro hjg hj8)
              clear hjg hj8
              go_wp2_with (first | (go_at_call 119; refine (u32_any _ _).mono ?_; rintro e w2 ⟨rfl, hb2⟩))
              have ho := shaOut_size st (j + 1)
              go_roundg gk
              case measure => omega
              case rel => exact ⟨j + 1, by have := HJ.out; omega, by first | rfl | simp, rfl, ⟨HB.out.trans (hb2.mono HB.out.size)⟩⟩
        | succ gk =>
          have hi64 : 64 * i + 64 ≤ X.size := by omega
          have hxs : (X.extract (64 * i) X.size).size = X.size - 64 * i := by rw [ByteArray.size_extract]; omega
          have hx0 := extract_head X (64 * i) X.size rfl hi64
          have hx1 := extract_extract X (64 * i) X.size rfl hi64
          have hbs : (X.extract (64 * i) (64 * i + 64)).size = 64 := by rw [ByteArray.size_extract]; omega
          obtain ⟨Y, hY⟩ : ∃ Y, X.extract (64 * i) X.size = Y := ⟨_, rfl⟩
          rw [hY] at hxs hx0 hx1 ⊢
          have hy64 : (64 : Int) ≤ (Y.size : Int) := by omega
          have hy0 : (0 : Int) < (Y.size : Int) := by omega
          have hx1' : Y.extract 64 Y.size = X.extract (64 * (i + 1)) X.size := by rw [hxs, hx1]; congr 1
          have HH := Aside0.mk (And.intro hig (And.intro hN (And.intro hi64 (And.intro hx1' (And.intro hXs hxs)))))
          clear hig hN hi64 hx1 hx1' hXs hxs hY
          go_wp2
          obtain ⟨st, hst⟩ : ∃ f, shaSt X i = f := ⟨_, rfl⟩
          rw [hst] at HR
          have HST := Aside0.mk hst
          clear hst
          have hl : w1.heap.size < wr.heap.size := (Array.getElem?_eq_some_iff.1 HR.out).1
          refine start_ (n := 5) (S := fun w' => w'.heap[w1.heap.size]? = some (.cells (srow st) 161)) (ds := [3, 4]) #[false, false, false, false, false] (by kernel_rfl) rfl rfl HR.out (fun hHeld => ?_)
          refine pure_ (i := 1) (N := some 29) (v := ?_) (a' := ?_) #[false, true, false, false, false] rfl rfl (by kernel_rfl) (fun _ _ _ h => h) (Or.inl ⟨by rfl, ?_⟩) ?_ ?_
          rotate_left
          · intro w'
            go_simp
            with_reducible rfl
          rotate_left
          · simp only [Act.put, List.setIfInBounds_toArray, List.set_cons_zero, List.set_cons_succ, i64_w, i32_w]
            rfl
          refine pure_ (i := 2) (N := some 30) (v := ?_) (a' := ?_) #[false, true, true, false, false] rfl rfl (by kernel_rfl) (fun _ _ _ h => h) (Or.inl ⟨by rfl, ?_⟩) ?_ ?_
          rotate_left
          · intro w'
            go_simp
            with_reducible rfl
          rotate_left
          · simp only [Act.put, List.setIfInBounds_toArray, List.set_cons_zero, List.set_cons_succ, i64_w, i32_w]
            rfl
          refine take_ (i := 0) (N := some 28) (v := .agg (srow st)) (a' := ?_) #[true, true, true, false, false] rfl rfl (by kernel_rfl) (fun _ _ _ h => h) (Or.inl ⟨by rfl, fun w' hS => exec_load_row 161 (.tmp 4) rfl w1.heap.size rfl 161 (srow st) hS Tryz.underlying161 (by rw [srow_size]; exact HI8.out)⟩) hHeld ?_ ?_
          rotate_left
          · simp only [Act.put, List.setIfInBounds_toArray, List.set_cons_zero, List.set_cons_succ, i64_w, i32_w]
            rfl
          refine last_ (i := 3) (N := some 31) #[true, true, true, true, false] rfl rfl (by kernel_rfl) (by decide) (fun K hK => ?_)
          refine call_ 118 #[.agg (srow st), .string (X.extract (64 * i) (64 * i + 64))] (by rfl) rfl (by go_simp) ?_
          refine (compress_any st _ _ (HG.out.below (HB.out.drew)) hbs).mono ?_
          rintro e w3 ⟨rfl, hb3⟩
          refine ⟨_, rfl, ?_⟩
          refine hK.out _ _ ?_
          clear hK K
          refine norm_ (a' := ?_) ?_ ?_
          rotate_left
          · show Act.put _ (some 31) _ = _
            simp only [Act.put, List.setIfInBounds_toArray, List.set_cons_zero, List.set_cons_succ, i64_w, i32_w]
            rfl
          have hr3 : w3.heap[w1.heap.size]? = some (.cells (srow st) 161) := (hb3.block _ hl).trans HR.out
          refine last_ (i := 4) (N := none) #[true, true, true, true, true] rfl rfl (by kernel_rfl) (by decide) (fun K hK => ?_)
          refine skip_ (by rfl) rfl (exec_store_row 161 (.tmp 4) (.tmp 31) rfl w1.heap.size (srow (cmp st (X.extract (64 * i) (64 * i + 64)))) rfl rfl 161 (srow st) hr3 (by rw [srow_size]; exact HI8.out) (by rw [srow_size, srow_size]) (srow_one _)) ?_
          refine hK.out _ _ ?_
          clear hK K
          refine done_ (by kernel_rfl) ?_
          have hxe := HH.out.2.2.2.1
          clear hx0 hbs
          go_wp2
          go_roundg gk
          case measure => omega
          case rel =>
            have hs3 : w.heap.size ≤ w3.heap.size := Nat.le_trans HB.out.size hb3.size
            refine ⟨i + 1, by have := HH.out.1; omega, rfl, ⟨?_⟩, ⟨below_setRow (HB.out.drew.trans (hb3.mono HB.out.size)) hp1 _⟩⟩
            rw [heap_setRow_same hr3]
            rw [show shaSt X (i + 1) = cmp (shaSt X i) (X.extract (64 * i) (64 * i + 64)) from rfl, HST.out]
    | succ d =>
      cases gk with
      | zero => omega
      | succ g =>
        have hmz : ¬ (t.size : Int) % 64 = 56 := by omega
        have htz : (t.size : Int) ≤ 1099511627900 := by omega
        have hb63 : d ≤ g := by omega
        have hd62 : d ≤ 62 := by omega
        have h2 : (t ++ (⟨#[0]⟩ : ByteArray)).size = t.size + 1 := one_size t 0
        have htz2 : ((t.size : Nat) : Int) + 1 ≤ 9223372036854775807 := by omega
        clear hs hsz h1 hd63
        have HT := Aside0.mk hpt
        clear hts hpt hdg
        have HQ := Aside0.mk (And.intro hb63 hd62)
        have hq : (((t.size : Int) % 64) == 56) = false := by simpa using hmz
        have hq2 : (((t.size : Int) % 64) != 56) = true := by simpa using hmz
        clear htz hb63 hd62 hmz
        go_wp2
        go_roundg g
        case measure => omega
        case rel => exact ⟨d, _, HQ.out.1, Nat.le_succ_of_le HQ.out.2, rfl, HT.out, rfl⟩
def impl_Sha256.f (a0 : ByteArray) : Option ByteArray := if a0.size ≤ 1099511627776 then some (shaI a0) else none
theorem impl_Sha256.calls (a0 : ByteArray) (r : ByteArray) (w : World) (hG : GOK w) (h : impl_Sha256.f a0 = some r) :
    Calls Tryz.prog 70 #[.string a0] w fun e w' => e = .returned (.string r) ∧ Below w.heap.size w w' := by
  unfold impl_Sha256.f at h
  by_cases hs : a0.size ≤ 1099511627776
  · rw [if_pos hs] at h
    obtain rfl := Option.some.inj h
    exact sha_any a0 w hG hs
  · rw [if_neg hs] at h
    exact absurd h (by simp)
def impl_Digest.f (a0 : Int) (a1 : ByteArray) : Option (ByteArray) := if a0 = 0 then ((impl_Sha256.f a1).bind fun t204 => (some t204)) else (if a0 = 1 then ((impl_Sha256.f a1).bind fun t205 => (if 0 ≤ 1 then (if 1 ≤ (t205.size : Int) then (some (t205.extract 0 1)) else (none)) else (none))) else (some (⟨#[]⟩ : ByteArray)))
set_option maxHeartbeats 8000000 in
set_option maxRecDepth 100000 in
theorem impl_Digest.calls (a0 : Int) (a1 : ByteArray) (r : ByteArray) (w : World) (hG : GOK w) (h : impl_Digest.f a0 a1 = some r) :
    Calls Tryz.prog 28 #[.int .i64 a0, .string a1] w fun e w' => e = .returned (.string r) ∧ Below w.heap.size w w' := by
  have HB := qK (Below.refl w.heap.size w); have H : (if a0 = 0 then ((impl_Sha256.f a1).bind fun t204 => (some t204)) else (if a0 = 1 then ((impl_Sha256.f a1).bind fun t205 => (if 0 ≤ 1 then (if 1 ≤ (t205.size : Int) then (some (t205.extract 0 1)) else (none)) else (none))) else (some (⟨#[]⟩ : ByteArray)))) = some r := h; clear h; by_cases c3 : a0 = 0
  · rw [if_pos c3] at H; obtain ⟨c3b0, c3b1⟩ := qe c3; clear c3; obtain ⟨t204, A4, H⟩ := qbi H; obtain rfl := qsi H; go_enter Tryz.func28, Tryz.ntmps28; go_wp2_with (first | ((with_reducible refine gcl (f := 70) rfl ?_); refine gL 9 Tryz.func70 #[.string a1] ?_; (with_reducible refine (impl_Sha256.calls a1 t204 _ ?_ A4.out).mono ?_); exact GOK.below hG qB; rintro e w5 ⟨rfl, hb⟩; refine ⟨_, rfl, ?_⟩; replace HB := qHB HB hb; (try clear hb))); go_ret; exact ⟨qR, qB⟩
  · rw [if_neg c3] at H; obtain ⟨c3b0, c3b1⟩ := qn c3; by_cases c6 : a0 = 1
    · rw [if_pos c6] at H; obtain ⟨c6b0, c6b1⟩ := qe c6; clear c6; obtain ⟨t205, A7, H⟩ := qbi H; by_cases c8 : 0 ≤ 1
      · rw [if_pos c8] at H; have c8b0 := eq_true c8; have c8b1 := decide_eq_true c8; clear c8; by_cases c9 : 1 ≤ (t205.size : Int)
        · rw [if_pos c9] at H; have c9b0 := eq_true c9; have c9b1 := decide_eq_true c9; clear c9; obtain rfl := qsi H; go_enter Tryz.func28, Tryz.ntmps28; go_wp2_with (first | ((with_reducible refine gcl (f := 70) rfl ?_); refine gL 13 Tryz.func70 #[.string a1] ?_; (with_reducible refine (impl_Sha256.calls a1 t205 _ ?_ A7.out).mono ?_); exact GOK.below hG qB; rintro e w10 ⟨rfl, hb⟩; refine ⟨_, rfl, ?_⟩; replace HB := qHB HB hb; (try clear hb))); go_ret; exact ⟨qR, qB⟩
        · rw [if_neg c9] at H; exact absurd H (by simp)
      · rw [if_neg c8] at H; exact absurd H (by simp)
    · rw [if_neg c6] at H; obtain ⟨c6b0, c6b1⟩ := qn c6; obtain rfl := qsi H; go_enter Tryz.func28, Tryz.ntmps28; go_wp2; go_ret; exact ⟨qR, qB⟩
def impl_Node.f (a0 : Int) (a1 : ByteArray) (a2 : ByteArray) : Option (ByteArray) := if 1 + a1.size ≤ 9223372036854775807 then (if ((⟨#[1]⟩ : ByteArray) ++ a1).size + a2.size ≤ 9223372036854775807 then ((impl_Digest.f a0 (((⟨#[1]⟩ : ByteArray) ++ a1) ++ a2)).bind fun t206 => (some t206)) else (none)) else (none)
set_option maxHeartbeats 8000000 in
set_option maxRecDepth 100000 in
theorem impl_Node.calls (a0 : Int) (a1 : ByteArray) (a2 : ByteArray) (r : ByteArray) (w : World) (hG : GOK w) (h : impl_Node.f a0 a1 a2 = some r) :
    Calls Tryz.prog 29 #[.int .i64 a0, .string a1, .string a2] w fun e w' => e = .returned (.string r) ∧ Below w.heap.size w w' := by
  have HB := qK (Below.refl w.heap.size w); have H : (if 1 + a1.size ≤ 9223372036854775807 then (if ((⟨#[1]⟩ : ByteArray) ++ a1).size + a2.size ≤ 9223372036854775807 then ((impl_Digest.f a0 (((⟨#[1]⟩ : ByteArray) ++ a1) ++ a2)).bind fun t206 => (some t206)) else (none)) else (none)) = some r := h; clear h; by_cases c4 : 1 + a1.size ≤ 9223372036854775807
  · rw [if_pos c4] at H; have c4b0 := eq_true c4; have c4b1 := decide_eq_true c4; (try have c4b2 : (9223372036854775807 < 1 + a1.size) = False := eq_false (Nat.not_lt.2 c4)); by_cases c5 : ((⟨#[1]⟩ : ByteArray) ++ a1).size + a2.size ≤ 9223372036854775807
    · rw [if_pos c5] at H; have c5b0 := eq_true c5; have c5b1 := decide_eq_true c5; (try have c5b2 : (9223372036854775807 < ((⟨#[1]⟩ : ByteArray) ++ a1).size + a2.size) = False := eq_false (Nat.not_lt.2 c5)); obtain ⟨t206, A6, H⟩ := qbi H; obtain rfl := qsi H; go_enter Tryz.func29, Tryz.ntmps29; go_wp2_with (first | ((with_reducible refine gcl (f := 28) rfl ?_); refine gL 12 Tryz.func28 #[.int .i64 a0, .string (((⟨#[1]⟩ : ByteArray) ++ a1) ++ a2)] ?_; (with_reducible refine (impl_Digest.calls a0 (((⟨#[1]⟩ : ByteArray) ++ a1) ++ a2) t206 _ ?_ A6.out).mono ?_); exact GOK.below hG qB; rintro e w7 ⟨rfl, hb⟩; refine ⟨_, rfl, ?_⟩; replace HB := qHB HB hb; (try clear hb))); go_ret; exact ⟨qR, qB⟩
    · rw [if_neg c5] at H; exact absurd H (by simp)
  · rw [if_neg c4] at H; exact absurd H (by simp)
def impl_width.f (a0 : Int) : Option (Int) := if a0 = 0 then (some 32) else (if a0 = 1 then (some 1) else (some 0))
set_option maxHeartbeats 8000000 in
set_option maxRecDepth 100000 in
theorem impl_width.calls (a0 : Int) (r : Int) (w : World) (h : impl_width.f a0 = some r) :
    Calls Tryz.prog 38 #[.int .i64 a0] w fun e w' => e = .returned (.int .i64 r) ∧ Drawn0 w w' := by
  have H : (if a0 = 0 then (some 32) else (if a0 = 1 then (some 1) else (some 0))) = some r := h; clear h; by_cases c2 : a0 = 0
  · rw [if_pos c2] at H; obtain ⟨c2b0, c2b1⟩ := qe c2; clear c2; obtain rfl := qsi H; go_enter Tryz.func38, Tryz.ntmps38; go_wp2; go_ret; exact ⟨by first | rfl | (simp; done) | (simp [*]; done), by repeat (first | exact Drawn0.refl _ | apply Drawn0.step)⟩
  · rw [if_neg c2] at H; obtain ⟨c2b0, c2b1⟩ := qn c2; by_cases c3 : a0 = 1
    · rw [if_pos c3] at H; obtain ⟨c3b0, c3b1⟩ := qe c3; clear c3; obtain rfl := qsi H; go_enter Tryz.func38, Tryz.ntmps38; go_wp2; go_ret; exact ⟨by first | rfl | (simp; done) | (simp [*]; done), by repeat (first | exact Drawn0.refl _ | apply Drawn0.step)⟩
    · rw [if_neg c3] at H; obtain ⟨c3b0, c3b1⟩ := qn c3; obtain rfl := qsi H; go_enter Tryz.func38, Tryz.ntmps38; go_wp2; go_ret; exact ⟨by first | rfl | (simp; done) | (simp [*]; done), by repeat (first | exact Drawn0.refl _ | apply Drawn0.step)⟩
def impl_Leaf.f (a0 : Int) (a1 : ByteArray) : Option (ByteArray) := if 1 + a1.size ≤ 9223372036854775807 then ((impl_Digest.f a0 ((⟨#[0]⟩ : ByteArray) ++ a1)).bind fun t207 => (some t207)) else (none)
set_option maxHeartbeats 8000000 in
set_option maxRecDepth 100000 in
theorem impl_Leaf.calls (a0 : Int) (a1 : ByteArray) (r : ByteArray) (w : World) (hG : GOK w) (h : impl_Leaf.f a0 a1 = some r) :
    Calls Tryz.prog 37 #[.int .i64 a0, .string a1] w fun e w' => e = .returned (.string r) ∧ Below w.heap.size w w' := by
  have HB := qK (Below.refl w.heap.size w); have H : (if 1 + a1.size ≤ 9223372036854775807 then ((impl_Digest.f a0 ((⟨#[0]⟩ : ByteArray) ++ a1)).bind fun t207 => (some t207)) else (none)) = some r := h; clear h; by_cases c3 : 1 + a1.size ≤ 9223372036854775807
  · rw [if_pos c3] at H; have c3b0 := eq_true c3; have c3b1 := decide_eq_true c3; (try have c3b2 : (9223372036854775807 < 1 + a1.size) = False := eq_false (Nat.not_lt.2 c3)); obtain ⟨t207, A4, H⟩ := qbi H; obtain rfl := qsi H; go_enter Tryz.func37, Tryz.ntmps37; go_wp2_with (first | ((with_reducible refine gcl (f := 28) rfl ?_); refine gL 8 Tryz.func28 #[.int .i64 a0, .string ((⟨#[0]⟩ : ByteArray) ++ a1)] ?_; (with_reducible refine (impl_Digest.calls a0 ((⟨#[0]⟩ : ByteArray) ++ a1) t207 _ ?_ A4.out).mono ?_); exact GOK.below hG qB; rintro e w5 ⟨rfl, hb⟩; refine ⟨_, rfl, ?_⟩; replace HB := qHB HB hb; (try clear hb))); go_ret; exact ⟨qR, qB⟩
  · rw [if_neg c3] at H; exact absurd H (by simp)
def impl_below.l0 : Nat → Int → Int → Option (Int)
  | 0, _, _ => none
  | k + 1, x0, x3 => if (wrap64 (2 * x3)) < x0 then (impl_below.l0 k x0 (wrap64 (x3 * 2))) else (some x3)
def impl_below.f (k : Nat) (a0 : Int) : Option (Int) := impl_below.l0 k a0 1
theorem impl_below.mono_l : ∀ k, (∀ y0 y1, LeO (impl_below.l0 k y0 y1) (impl_below.l0 (k + 1) y0 y1))
  | 0 => fun _ _ r h => by simp [impl_below.l0] at h
  | k + 1 => by
    have ih0 := impl_below.mono_l k
    · intro y0 y1
      unfold impl_below.l0
      repeat' first
        | (with_reducible first | exact ih0 .. | exact LeO.refl _ | exact LeO.none _ | refine LeO.ite ?_ ?_ | refine LeO.bind ?_ (fun _ => ?_))
        | exact ih0 .. | exact LeO.none _ | refine LeO.ite ?_ ?_ | refine LeO.bind ?_ (fun _ => ?_)
theorem impl_below.mono : ∀ a0 k, LeO (impl_below.f k a0) (impl_below.f (k + 1) a0) := by
  intro a0 k
  have ih0 := impl_below.mono_l k
  unfold impl_below.f
  repeat' first
    | (with_reducible first | exact ih0 .. | exact LeO.refl _ | exact LeO.none _ | refine LeO.ite ?_ ?_ | refine LeO.bind ?_ (fun _ => ?_))
    | exact ih0 .. | exact LeO.none _ | refine LeO.ite ?_ ?_ | refine LeO.bind ?_ (fun _ => ?_)
set_option maxHeartbeats 8000000 in
set_option maxRecDepth 100000 in
theorem impl_below.calls (k : Nat) (a0 : Int) (r : Int) (w : World) (h : impl_below.f k a0 = some r) :
    Calls Tryz.prog 41 #[.int .i64 a0] w fun e w' => e = .returned (.int .i64 r) ∧ Drawn0 w w' := by
  have H : (impl_below.l0 k a0 1) = some r := h; clear h; have H' := qK H; clear H; go_enter Tryz.func41, Tryz.ntmps41; go_wp2; go_loopg [3] k (fun kq v3 w' => ∃ (x3_1 : Int), v3 = .int .i64 x3_1 ∧ Aside0 (impl_below.l0 kq a0 x3_1 = some r) ∧ Aside0 (kq ≤ k) ∧ Drawn0 w w')
  case atStart => exact ⟨(1), qS, H', ⟨Nat.le_refl _⟩, by repeat (first | exact Drawn0.refl _ | apply Drawn0.step)⟩
  case round =>
    clear H'; obtain ⟨x3_1, rfl, HA, HK1, ⟨m1, rfl⟩⟩ := hrel
    cases gk with
    | zero => exact absurd HA.out (by simp [impl_below.l0])
    | succ k1 =>
      have H := HA.out; clear HA; simp only [impl_below.l0] at H; by_cases c2 : (wrap64 (2 * x3_1)) < a0
      · rw [if_pos c2] at H; have c2b0 := decide_eq_true c2; clear c2; have H' := qK H; clear H; go_wp2; go_roundg k1
        case measure => have := HK1.out; omega
        case rel => exact ⟨(wrap64 (x3_1 * 2)), qS, H', ⟨by have := HK1.out; omega⟩, by repeat (first | exact Drawn0.refl _ | apply Drawn0.step)⟩
      · rw [if_neg c2] at H; have c2b0 := decide_eq_false c2; clear c2; obtain rfl := qsi H; go_wp2; go_ret; exact ⟨by first | rfl | (simp; done) | (simp [*]; done), by repeat (first | exact Drawn0.refl _ | apply Drawn0.step)⟩
/-- A state of type 107 at block g of W; what its slices lead to came in by w0. -/
def IsS107 (w0 W : World) (g : Nat) (f0 : Int) (f1 : Int) : Prop := W.heap[g]? = some (.cells #[.int .i32 f0, .int .u32 f1] 107 (0, 0)) ∧ w0.heap.size ≤ g
theorem IsS107.grown {w0 W : World} {g : Nat} {f0 : Int} {f1 : Int} {W1 : World} {row : Option Nat} (h : IsS107 w0 W g f0 f1) (hw : W.grownBy W1 row) (hne : some g ≠ row) : IsS107 w0 W1 g f0 f1 := by
  obtain ⟨hb, hg⟩ := h
  exact ⟨bgr hb hw hne, hg⟩
theorem IsS107.fresh {w0 W : World} {g : Nat} {f0 : Int} {f1 : Int} (h : IsS107 w0 W g f0 f1) : ∀ k, W.heap.size ≤ k → k ≠ g := by
  obtain ⟨hb, hg⟩ := h
  exact Kd.freshB hb
theorem IsS107.kept {w0 W : World} {g : Nat} {f0 : Int} {f1 : Int} {W1 : World} {S : Nat → Prop} (h : IsS107 w0 W g f0 f1) (hk : Kept W W1 S) (hne : ¬ S g) : IsS107 w0 W1 g f0 f1 := by
  obtain ⟨hb, hg⟩ := h
  exact ⟨blk_kept hb hk hne, hg⟩
theorem IsS107.below {w0 W : World} {g : Nat} {f0 : Int} {f1 : Int} {W1 : World} (h : IsS107 w0 W g f0 f1) (hw : Below W.heap.size W W1) : IsS107 w0 W1 g f0 f1 := h.grown (grown_of_below hw none) (by simp)
theorem IsS107.alloc {w0 W : World} {g : Nat} {f0 : Int} {f1 : Int} (h : IsS107 w0 W g f0 f1) (o : Obj) : IsS107 w0 (W.alloc o) g f0 f1 := h.below (bal (Below.refl _ _) o)
theorem IsS107.drewN {w0 W : World} {g : Nat} {f0 : Int} {f1 : Int} (h : IsS107 w0 W g f0 f1) (m : Nat) : IsS107 w0 (W.drewN m) g f0 f1 := h
theorem IsS107.drew {w0 W : World} {g : Nat} {f0 : Int} {f1 : Int} (h : IsS107 w0 W g f0 f1) : IsS107 w0 W.drew g f0 f1 := h
theorem IsS107.at_ {w0 W : World} {g : Nat} {f0 : Int} {f1 : Int} {w' : World} {m : Nat} (hq : W.drewN m = w') (h : IsS107 w0 W g f0 f1) : IsS107 w0 w' g f0 f1 := by subst hq; exact IsS107.drewN h m
theorem IsS107.apart {w0 W : World} {g : Nat} {f0 : Int} {f1 : Int} {α : Type} {d : Kd α} {e : Nat} {base : Nat} {ok : Nat → Prop} {v : Value} {xs : List α} (h : IsS107 w0 W g f0 f1) (ho : d.R e W base ok v xs) (ht : ∀ q, q ∈ e :: d.E → q ≠ 107) : d.R e W base (fun k => ok k ∧ k ≠ g) v xs := by
  obtain ⟨hb, hg⟩ := h
  exact Kd.Rty ho hb ht
theorem IsS107.own_ne {w0 W : World} {g : Nat} {f0 : Int} {f1 : Int} {α : Type} {d : Kd α} {e : Nat} {base : Nat} {ok : Nat → Prop} {v : Value} {xs : List α} (h : IsS107 w0 W g f0 f1) (ho : d.R e W base ok v xs) (ht : e ≠ 107) : some g ≠ v.ownBlock := by
  obtain ⟨hb, hg⟩ := h
  exact Kd.R_ne ho hb ht
theorem IsS107.ge {w0 W : World} {g : Nat} {f0 : Int} {f1 : Int} (h : IsS107 w0 W g f0 f1) : w0.heap.size ≤ g := by
  obtain ⟨hb, hg⟩ := h
  exact hg
theorem IsS107.far {w0 W : World} {g : Nat} {f0 : Int} {f1 : Int} {p : Addr} (h : IsS107 w0 W g f0 f1) (hne : g ≠ p.block) (u : Value) : IsS107 w0 (W.setCell p u) g f0 f1 := by
  obtain ⟨hb, hg⟩ := h
  exact ⟨bfa hb hne u, hg⟩
theorem IsS107.set_1 {w0 W : World} {g : Nat} {f0 : Int} {f1 : Int} (h : IsS107 w0 W g f0 f1) (x : Int) : IsS107 w0 (W.setCell ⟨g, 1, none⟩ (.int .u32 x)) g f0 x := by
  obtain ⟨hb, hg⟩ := h
  exact ⟨by simpa using blk_set hb 1 (.int .u32 x), hg⟩
end Go.Proofs.YtajkbbifemeanaaGreatDoor.L
end
section
set_option linter.unusedVariables false
set_option linter.unusedSimpArgs false
namespace Go.Proofs.YtajkbbifemeanaaGreatDoor
open Go Go.RowKit Go.Lib Go.Proofs.YtajkbbifemeanaaGreatDoorW.PrintWords
open Go.ChangeMaps (setBlock)
theorem lain : laidOutB Tryz.prog = true := by kernel_rfl
theorem types_few : Tryz.prog.types.size + 2 ≤ 10000 := Nat.le_of_ble_eq_true (by kernel_rfl)
theorem key_row : 169 < Tryz.prog.types.size := Nat.lt_of_lt_of_le (Nat.lt_succ_self _) (Nat.le_of_ble_eq_true (by kernel_rfl))
theorem key_type : Tryz.prog.keyType 169 = true := by kernel_rfl
theorem dig_type : Tryz.prog.keyType 166 = true := by kernel_rfl
theorem jlaw : WideMaps.KeyLaw Tryz.prog 169 := deep_law_gate lain types_few key_row key_type (by kernel_rfl)
/-- A digest's cells: its bytes, then zeros. -/
def dcells (s : ByteArray) : Array Value := (byteCells s.data.toList ++ List.replicate (32 - s.size) (Value.int .u8 0)).toArray
theorem dcells_size {s : ByteArray} (h : s.size ≤ 32) : (dcells s).size = 32 := by
  have : s.data.size = s.size := rfl
  simp [dcells, byteCells_length]
  omega
theorem dcells_one (s : ByteArray) : (dcells s).all (·.oneCell') = true := by
  refine Array.all_eq_true_iff_forall_mem.2 fun v hv => ?_
  have hv' : v ∈ byteCells s.data.toList ++ List.replicate (32 - s.size) (Value.int .u8 0) := by simpa [dcells] using hv
  rcases List.mem_append.1 hv' with h | h
  · exact byteCells_one _ v h
  · rw [(List.mem_replicate.1 h).2]; rfl
theorem byteCells_inj {a b : List UInt8} (h : byteCells a = byteCells b) : a = b := by
  induction a generalizing b with
  | nil => cases b <;> simp_all [byteCells]
  | cons x a ih =>
    cases b with
    | nil => simp [byteCells] at h
    | cons y b =>
      simp only [byteCells, List.map_cons, List.cons.injEq, Value.int.injEq, true_and] at h
      have e : x = y := UInt8.toNat_inj.1 (by have := h.1; omega)
      rw [e, ih (by simpa [byteCells] using h.2)]
theorem dcells_inj {a b : ByteArray} (h : a.size = b.size) (e : (dcells a).toList = (dcells b).toList) : a = b := by
  simp only [dcells, List.toList_toArray] at e
  have := List.append_inj_left e (by rw [byteCells_length, byteCells_length]; exact h)
  have := byteCells_inj this
  cases a; cases b
  congr 1
  exact Array.toList_inj.1 this
theorem dcells_at (s : ByteArray) (j : Nat) (h : j < 32) : ∃ n : Nat, n < 256 ∧ (dcells s).toList[j]? = some (.int .u8 n) ∨ s.size > 32 := by
  by_cases hs : s.size ≤ 32
  · have hd : s.data.toList.length = s.size := by simp
    by_cases hj : j < s.size
    · refine ⟨(s.data.toList[j]'(by omega)).toNat, Or.inl ⟨UInt8.toNat_lt _, ?_⟩⟩
      simp only [dcells, List.toList_toArray]
      rw [List.getElem?_append_left (by rw [byteCells_length]; omega)]
      simp [byteCells, hj]
    · refine ⟨0, Or.inl ⟨by decide, ?_⟩⟩
      simp only [dcells, List.toList_toArray]
      rw [List.getElem?_append_right (by rw [byteCells_length]; omega)]
      rw [List.getElem?_replicate, if_pos (by rw [byteCells_length]; omega)]
      rfl
  · exact ⟨0, Or.inr (by omega)⟩
/-- A joint's cells. -/
def jcells (kind : Int) (l r : ByteArray) : Array Value := (([Value.int .i64 kind] ++ (dcells l).toList) ++ (dcells r).toList).toArray
theorem jcells_size (kind : Int) {l r : ByteArray} (hl : l.size ≤ 32) (hr : r.size ≤ 32) : (jcells kind l r).size = 65 := by
  have := dcells_size hl
  have := dcells_size hr
  simp [jcells]
  omega
theorem jcells_one (kind : Int) (l r : ByteArray) : (jcells kind l r).all (·.oneCell') = true := by
  refine Array.all_eq_true_iff_forall_mem.2 fun v hv => ?_
  have hv' : v = .int .i64 kind ∨ v ∈ dcells l ∨ v ∈ dcells r := by simpa [jcells] using hv
  rcases hv' with h | h | h
  · rw [h]; rfl
  · exact Array.all_eq_true_iff_forall_mem.1 (dcells_one l) v h
  · exact Array.all_eq_true_iff_forall_mem.1 (dcells_one r) v h
theorem jcells_inj {k k' : Int} {l r l' r' : ByteArray} (hl : l.size ≤ 32) (h1 : l.size = l'.size) (h2 : r.size = r'.size) (e : jcells k l r = jcells k' l' r') : l = l' ∧ r = r' := by
  have e := congrArg Array.toList e
  simp only [jcells, List.toList_toArray, List.append_assoc] at e
  have e := List.append_inj_right e rfl
  have e1 := List.append_inj_left e (by have := dcells_size hl; have := dcells_size (h1 ▸ hl : l'.size ≤ 32); simp_all)
  have e2 := List.append_inj_right e (by have := dcells_size hl; have := dcells_size (h1 ▸ hl : l'.size ≤ 32); simp_all)
  exact ⟨dcells_inj h1 e1, dcells_inj h2 e2⟩
/-- What lies at the places of a part is set. -/
theorem put_list (off : Nat) (v : List Value) : ∀ (j : Nat) (pre mid post : List Value), mid.length = v.length → pre.length = off + j → (v.zipIdx j).foldl (fun (cs : Array Value) (p : Value × Nat) => cs.setIfInBounds (off + p.2) p.1) (pre ++ mid ++ post).toArray = (pre ++ v ++ post).toArray := by
  induction v with
  | nil =>
    intro j pre mid post h _
    have : mid = [] := List.eq_nil_of_length_eq_zero h
    subst this
    rfl
  | cons c v ih =>
    intro j pre mid post h hp
    cases mid with
    | nil => cases h
    | cons m mid =>
      rw [List.zipIdx_cons, List.foldl_cons]
      have e : (pre ++ m :: mid ++ post).toArray.setIfInBounds (off + j) c = ((pre ++ [c]) ++ mid ++ post).toArray := by
        rw [List.setIfInBounds_toArray, ← hp]
        simp [List.set_append]
      rw [e, ih (j + 1) (pre ++ [c]) mid post (by simpa using h) (by simp; omega)]
      simp
def putc (off : Nat) (v : Array Value) (cs : Array Value) : Array Value := v.zipIdx.foldl (fun cs x => match x with | (c, j) => cs.setIfInBounds (off + j) c) cs
theorem put_cells (off : Nat) (v : Array Value) (pre mid post : List Value) (h : mid.length = v.size) (hp : pre.length = off) : putc off v (pre ++ mid ++ post).toArray = (pre ++ v.toList ++ post).toArray := by
  have := put_list off v.toList 0 pre mid post (by simpa using h) (by simpa using hp)
  rw [← this, putc, ← Array.foldl_toList, Array.toList_zipIdx]
theorem fill_step {place : Nat → Option (Nat × Nat)} {cells : Array Value} {i off size : Nat} {v : Value} {rest : List (Nat × Value)} (hp : place i = some (off, size)) (hs : v.cells.size = size) (hb : off + size ≤ cells.size) :
    Instr.fill place cells ((i, v) :: rest) = Instr.fill place (putc off v.cells cells) rest := by
  subst hs
  rw [Instr.fill]
  simp only [hp]
  rw [if_neg (by simp; omega)]
  rfl
def zj : List Value := ([Value.int .i64 0] ++ List.replicate 32 (Value.int .u8 0)) ++ List.replicate 32 (Value.int .u8 0)
theorem info_j : (Tryz.prog.info? 169).map (fun i => (i.zero, i.size)) = some (some (.agg zj.toArray), 65) := by kernel_rfl
theorem info_d : (Tryz.prog.info? 166).map (fun i => (i.zero, i.size)) = some (some (Value.agg (List.replicate 32 (Value.int .u8 0)).toArray), 32) := by kernel_rfl
theorem places_j : (match Tryz.prog.underlying 169 with | some (.struct fields) => fields.toList.mapM (fun f => (Tryz.prog.info? f.type).map fun i => (f.offset, i.size)) | _ => none) = some [(0, 1), (1, 32), (33, 32)] := by kernel_rfl
set_option maxRecDepth 100000 in
theorem built_j (kind : Int) {l r : ByteArray} (hl : l.size ≤ 32) (hr : r.size ≤ 32) : Tryz.prog.built 169 [(0, .int .i64 kind), (1, .agg (dcells l)), (2, .agg (dcells r))] = some (jcells kind l r) := by
  have h1 := dcells_size hl
  have h2 := dcells_size hr
  have hp := places_j
  unfold Program.built
  obtain ⟨it, hit, hz⟩ : ∃ it, Tryz.prog.info? 169 = some it ∧ it.zero = some (.agg zj.toArray) := by
    have := info_j
    cases h : Tryz.prog.info? 169 with
    | none => rw [h] at this; cases this
    | some it => rw [h] at this; exact ⟨it, rfl, by simpa using (Prod.mk.inj (Option.some.inj this)).1⟩
  rw [Tryz.underlying169] at hp ⊢
  simp only [hit, hz]
  simp only at hp
  rw [hp]
  have e1 : putc 0 #[Value.int .i64 kind] zj.toArray = ([] ++ [Value.int .i64 kind] ++ (List.replicate 32 (Value.int .u8 0) ++ List.replicate 32 (Value.int .u8 0))).toArray :=
    put_cells 0 #[Value.int .i64 kind] [] [Value.int .i64 0] (List.replicate 32 (Value.int .u8 0) ++ List.replicate 32 (Value.int .u8 0)) rfl rfl
  have e2 : putc 1 (dcells l) ([] ++ [Value.int .i64 kind] ++ (List.replicate 32 (Value.int .u8 0) ++ List.replicate 32 (Value.int .u8 0))).toArray = ([Value.int .i64 kind] ++ (dcells l).toList ++ List.replicate 32 (Value.int .u8 0)).toArray := by
    have := put_cells 1 (dcells l) [Value.int .i64 kind] (List.replicate 32 (Value.int .u8 0)) (List.replicate 32 (Value.int .u8 0)) (by rw [h1]; rfl) rfl
    rw [← this, List.nil_append, List.append_assoc]
  have e3 : putc 33 (dcells r) ([Value.int .i64 kind] ++ (dcells l).toList ++ List.replicate 32 (Value.int .u8 0)).toArray = jcells kind l r := by
    have := put_cells 33 (dcells r) ([Value.int .i64 kind] ++ (dcells l).toList) (List.replicate 32 (Value.int .u8 0)) [] (by rw [h2]; rfl) (by simp [h1])
    rw [List.append_nil, List.append_nil] at this
    exact this
  show Instr.fill _ zj.toArray _ = _
  rw [fill_step (i := 0) (off := 0) (size := 1) (v := .int .i64 kind) rfl rfl (by decide)]
  show Instr.fill _ (putc 0 #[Value.int .i64 kind] zj.toArray) _ = _
  rw [e1, fill_step (i := 1) (off := 1) (size := 32) (v := .agg (dcells l)) rfl h1 (by simp)]
  show Instr.fill _ (putc 1 (dcells l) _) _ = _
  rw [e2, fill_step (i := 2) (off := 33) (size := 32) (v := .agg (dcells r)) rfl h2 (by simp [h1])]
  show Instr.fill _ (putc 33 (dcells r) _) _ = _
  rw [e3]
  rfl
theorem lits_bytes {d : Nat} (cs : List Value) (hl : cs.length = 32) (hc : ∀ j, j < 32 → ∃ n : Nat, n < 256 ∧ cs[j]? = some (.int .u8 n)) : ∃ ls, Tryz.prog.keyLits (d + 2) 166 cs = some ls := by
  have hcells : Tryz.prog.cellsOf 166 = 32 := by kernel_rfl
  have hc8 : Tryz.prog.cellsOf 5 = 1 := by kernel_rfl
  unfold Program.keyLits
  rw [Tryz.underlying166]
  simp only [hcells, hl, if_true, hc8, Nat.mul_one]
  have : ∀ is : List Nat, (∀ i ∈ is, i < 32) → ∃ ls, is.mapM (fun i => Tryz.prog.keyLits (d + 1) 5 ((cs.drop i).take 1)) = some ls := by
    intro is
    induction is with
    | nil => intro _; exact ⟨[], rfl⟩
    | cons i is ih =>
      intro h
      obtain ⟨ls, hls⟩ := ih (fun x hx => h x (List.mem_cons_of_mem _ hx))
      obtain ⟨n, hn, he⟩ := hc i (h i List.mem_cons_self)
      have hdt : (cs.drop i).take 1 = [.int .u8 n] := by
        obtain ⟨hi, hv⟩ := List.getElem?_eq_some_iff.1 he
        rw [List.drop_eq_getElem_cons hi, hv]
        rfl
      refine ⟨[.int .u8 n] :: ls, ?_⟩
      rw [List.mapM_cons, hls, hdt]
      unfold Program.keyLits
      rw [Tryz.underlying5]
      have hw : (Lit.int .u8 (n : Int)).wf = true := by
        show (decide ((0 : Int) ≤ n) && decide ((n : Int) ≤ 255)) = true
        rw [decide_eq_true (by omega), decide_eq_true (by omega)]; rfl
      simp [hw]
  obtain ⟨ls, hls⟩ := this (List.range 32) (fun i hi => List.mem_range.1 hi)
  exact ⟨ls.flatten, by simp [hls]⟩
theorem lits_digest {d : Nat} {s : ByteArray} (h : s.size ≤ 32) : ∃ ls, Tryz.prog.keyLits (d + 2) 166 (dcells s).toList = some ls :=
  lits_bytes _ (by have := dcells_size h; simpa using this) fun j hj => by
    obtain ⟨n, hn | hn⟩ := dcells_at s j hj
    · exact ⟨n, hn⟩
    · omega
theorem key_digest {s : ByteArray} (h : s.size ≤ 32) : ∃ kl, keyOf Tryz.prog 166 (.agg (dcells s)) = some kl := by
  have hcells : Tryz.prog.cellsOf 166 = 32 := by kernel_rfl
  have hn : ∃ d, Tryz.prog.types.size + 1 = d + 2 := ⟨Tryz.prog.types.size - 1, by have := key_row; omega⟩
  obtain ⟨d, hd⟩ := hn
  obtain ⟨ls, hls⟩ := lits_digest (d := d) h
  refine ⟨.string (keyBytes ls), ?_⟩
  unfold keyOf
  rw [Tryz.underlying166, hd]
  simp only [dig_type, Bool.true_and, Value.formed, Tryz.underlying166, hcells, dcells_size h, Value.cells, hls]
  rfl
set_option maxRecDepth 100000 in
theorem key_joint {kind : Int} (hk : (Lit.int .i64 kind).wf = true) {l r : ByteArray} (hl : l.size ≤ 32) (hr : r.size ≤ 32) : ∃ kl, keyOf Tryz.prog 169 (.agg (jcells kind l r)) = some kl := by
  have hcells : Tryz.prog.cellsOf 169 = 65 := by kernel_rfl
  have hcd : Tryz.prog.cellsOf 166 = 32 := by kernel_rfl
  have hci : Tryz.prog.cellsOf 3 = 1 := by kernel_rfl
  have h1 := dcells_size hl
  have h2 := dcells_size hr
  have hn : ∃ d, Tryz.prog.types.size + 1 = d + 3 := ⟨Tryz.prog.types.size - 2, by have := key_row; omega⟩
  obtain ⟨d, hd⟩ := hn
  obtain ⟨l1, hl1⟩ := lits_digest (d := d) hl
  obtain ⟨l2, hl2⟩ := lits_digest (d := d) hr
  have hs : ∀ fs, Tryz.prog.underlying 169 = some (.struct fs) → ∃ ls, fs.all (·.name != "_") = true ∧ fs.toList.mapM (fun f => Tryz.prog.keyLits (d + 2) f.type (((jcells kind l r).toList.drop f.offset).take (Tryz.prog.cellsOf f.type))) = some ls := by
    intro fs hfs
    rw [Tryz.underlying169] at hfs
    obtain rfl := TypeDesc.struct.inj (Option.some.inj hfs)
    refine ⟨[[.int .i64 kind], l1, l2], by kernel_rfl, ?_⟩
    have a0 : ((jcells kind l r).toList.drop 0).take (Tryz.prog.cellsOf 3) = [.int .i64 kind] := by rw [hci]; simp only [jcells, List.toList_toArray, List.append_assoc, List.singleton_append, List.drop_zero]; rfl
    have a1 : ((jcells kind l r).toList.drop 1).take (Tryz.prog.cellsOf 166) = (dcells l).toList := by
      rw [hcd]
      simp only [jcells, List.toList_toArray]
      rw [List.append_assoc, List.singleton_append, List.drop_succ_cons, List.drop_zero, List.take_append_of_le_length (by simp [h1]), List.take_of_length_le (by simp [h1])]
    have a2 : ((jcells kind l r).toList.drop 33).take (Tryz.prog.cellsOf 166) = (dcells r).toList := by
      rw [hcd]
      simp only [jcells, List.toList_toArray]
      rw [List.drop_append_of_le_length (by simp [h1]), List.drop_eq_nil_of_le (by simp [h1]), List.nil_append, List.take_of_length_le (by simp [h2])]
    have b0 : Tryz.prog.keyLits (d + 2) 3 [.int .i64 kind] = some [.int .i64 kind] := by
      unfold Program.keyLits
      rw [Tryz.underlying3]
      simp [hk]
    simp only [List.mapM_cons, List.mapM_nil, a0, a1, a2, b0, hl1, hl2]
    rfl
  obtain ⟨fs, hfs⟩ : ∃ fs, Tryz.prog.underlying 169 = some (.struct fs) := ⟨_, Tryz.underlying169⟩
  obtain ⟨ls, hall, hls⟩ := hs fs hfs
  have hlen : (jcells kind l r).toList.length = 65 := by have := jcells_size kind hl hr; simpa using this
  have hk3 : Tryz.prog.keyLits (d + 3) 169 (jcells kind l r).toList = some ls.flatten := by
    unfold Program.keyLits
    rw [hfs]
    simp only [hcells, hlen, hall, and_self, if_true, hls]
    rfl
  refine ⟨.string (keyBytes ls.flatten), ?_⟩
  unfold keyOf
  rw [hfs, hd]
  simp only [key_type, Bool.true_and, Value.formed, hfs, hcells, jcells_size kind hl hr, Value.cells, hk3, beq_self_eq_true, if_true]
  rfl
/-- A map whose entries are nodes of two digests of n bytes. -/
def Nodes (nd : ByteArray → ByteArray → Option ByteArray) (kind : Int) (n : Nat) (es : Array MapEntry) : Prop := ∀ e ∈ es.toList, ∃ l r v, l.size = n ∧ r.size = n ∧ e.key = .agg (jcells kind l r) ∧ e.val = .string v ∧ nd l r = some v
section
variable {nd : ByteArray → ByteArray → Option ByteArray} {kind : Int} {n : Nat} {es : Array MapEntry} {clock gm : Nat}
theorem nodes_look (hk : (Lit.int .i64 kind).wf = true) (hn : n ≤ 32) (H : Nodes nd kind n es) {l r : ByteArray} (hl : l.size = n) (hr : r.size = n) :
    ∃ (v : ByteArray) (b : Bool), (∀ w : World, w.heap[gm]? = some (.map es clock) → (Instr.lookup 105 (.map (some gm)) (.agg (jcells kind l r)) true).run Tryz.prog w = .ok (.tuple #[.string v, .bool b]) w) ∧ (b = true → nd l r = some v) := by
  obtain ⟨kl, hkl⟩ := key_joint hk (by omega : l.size ≤ 32) (by omega : r.size ≤ 32)
  have hkeys : ∀ e ∈ es.toList, ∃ q, keyOf Tryz.prog 169 e.key = some q := fun e he => by
    obtain ⟨l', r', v', h1, h2, h3, _⟩ := H e he
    rw [h3]
    exact key_joint hk (by omega) (by omega)
  have hz : ∀ w : World, (zeroValue 9).run Tryz.prog w = .ok (.string ⟨#[]⟩) w := fun w => by kernel_rfl
  by_cases c : ∃ e ∈ es.toList, e.key = .agg (jcells kind l r)
  · obtain ⟨e, he, hek⟩ := c
    obtain ⟨l', r', v, h1, h2, h3, h4, h5⟩ := H e he
    have hj : jcells kind l' r' = jcells kind l r := Value.agg.inj (h3.symm.trans hek)
    obtain ⟨rfl, rfl⟩ := jcells_inj (by omega) (by omega) (by omega) hj
    refine ⟨v, true, fun w hw => ?_, fun _ => h5⟩
    rcases jlaw.find w hkl es.toList hkeys with ⟨_, g2⟩ | ⟨j, e0, g1, g2, g3⟩
    · exact absurd hek (g2 e he)
    · obtain ⟨l2, r2, v2, q1, q2, q3, q4, q5⟩ := H e0 (List.mem_of_getElem? g2)
      have hj2 : jcells kind l2 r2 = jcells kind l' r' := Value.agg.inj (q3.symm.trans g3)
      obtain ⟨rfl, rfl⟩ := jcells_inj (by omega) (by omega) (by omega) hj2
      obtain rfl := Option.some.inj (q5.symm.trans h5)
      simp [Instr.lookup, run_underlying Tryz.underlying105, MapKept.run_getObj_map hw, jlaw.check w _ hkl, g1, q4, Result.andThen]
  · refine ⟨⟨#[]⟩, false, fun w hw => ?_, fun h => Bool.noConfusion h⟩
    rcases jlaw.find w hkl es.toList hkeys with ⟨g1, _⟩ | ⟨j, e0, g1, g2, g3⟩
    · simp [Instr.lookup, run_underlying Tryz.underlying105, MapKept.run_getObj_map hw, jlaw.check w _ hkl, g1, hz w, Result.andThen]
    · exact absurd ⟨e0, List.mem_of_getElem? g2, g3⟩ c
theorem nodes_put (hk : (Lit.int .i64 kind).wf = true) (hn : n ≤ 32) (H : Nodes nd kind n es) {l r v : ByteArray} (hl : l.size = n) (hr : r.size = n) (hv : nd l r = some v) {w : World} (hw : w.heap[gm]? = some (.map es clock)) :
    ∃ es' clock', (Instr.mapUpdate 105 (.map (some gm)) (.agg (jcells kind l r)) (.string v)).run Tryz.prog w = .ok () (setBlock w gm (.map es' clock')) ∧ Nodes nd kind n es' := by
  obtain ⟨kl, hkl⟩ := key_joint hk (by omega : l.size ≤ 32) (by omega : r.size ≤ 32)
  have hkeys : ∀ e ∈ es.toList, ∃ q, keyOf Tryz.prog 169 e.key = some q := fun e he => by
    obtain ⟨l', r', v', h1, h2, h3, _⟩ := H e he
    rw [h3]
    exact key_joint hk (by omega) (by omega)
  rcases jlaw.find w hkl es.toList hkeys with ⟨h1, h2⟩ | ⟨j, e0, h1, h2, h3⟩
  · refine ⟨es.push ⟨.agg (jcells kind l r), .string v, clock⟩, clock + 1, ?_, ?_⟩
    · simp [Instr.mapUpdate, run_underlying Tryz.underlying105, MapKept.run_getObj_map hw, jlaw.check w false hkl, h1, MapKept.run_setObj_map _ hw, Result.andThen, setBlock]
    · intro e he
      simp only [Array.toList_push, List.mem_append, List.mem_singleton] at he
      rcases he with he | rfl
      · exact H e he
      · exact ⟨l, r, v, hl, hr, rfl, rfl, hv⟩
  · have hj : es[j]? = some e0 := by simpa using h2
    refine ⟨es.modify j (fun e' => { e' with key := .agg (jcells kind l r), val := .string v }), clock, ?_, ?_⟩
    · simp [Instr.mapUpdate, run_underlying Tryz.underlying105, MapKept.run_getObj_map hw, jlaw.check w false hkl, h1, hj, h3, jlaw.stays w hkl, MapKept.run_setObj_map _ hw, Result.andThen, setBlock]
    · intro e he
      rcases MapFrom.mem_modify he with he | ⟨e', _, rfl⟩
      · exact H e he
      · exact ⟨l, r, v, hl, hr, rfl, rfl, hv⟩
theorem nodes_clear {w : World} (hw : w.heap[gm]? = some (.map es clock)) (ty : TypeId) :
    (Builtin.clear_ #[105] ty #[.map (some gm)]).run Tryz.prog w = .ok (.tuple #[]) (setBlock w gm (.map #[] clock)) := by
  simp [Builtin.clear_, run_underlying Tryz.underlying105, MapKept.run_getObj_map hw, MapKept.run_setObj_map _ hw, Result.andThen, setBlock]
end
theorem eql_digest {s : ByteArray} (h : s.size ≤ 32) (w : World) : (Op.equal 166 (.agg (dcells s)) (.agg (dcells s))).run Tryz.prog w = .ok true w := by
  obtain ⟨kl, hkl⟩ := key_digest h
  obtain ⟨r, h1, h2⟩ := run_equal_deep w (m := 3) (by decide) (k := 166) (by kernel_rfl) (by kernel_rfl) hkl hkl
  rw [h2.2 rfl] at h1
  exact h1
theorem heap_block {w : World} {b : Nat} {o o' : Obj} (h : w.heap[b]? = some o) : (setBlock w b o').heap[b]? = some o' := by
  obtain ⟨hb, _⟩ := Array.getElem?_eq_some_iff.1 h
  simp [setBlock, hb]
theorem heap_block_ne {w : World} {b c : Nat} {o' : Obj} (h : c ≠ b) : (setBlock w b o').heap[c]? = w.heap[c]? := by
  simp only [setBlock, Array.getElem?_setIfInBounds]
  rw [if_neg (fun e => h e.symm)]
theorem below_block {B : Nat} {a w : World} (h : Below B a w) {b : Nat} (hb : B ≤ b) (o : Obj) : Below B a (setBlock w b o) :=
  h.trans ⟨rfl, rfl, rfl, by simp [setBlock], fun k hk => heap_block_ne (by omega)⟩
end Go.Proofs.YtajkbbifemeanaaGreatDoor
end
section
namespace Go.Proofs.YtajkbbifemeanaaGreatDoor
open Go
abbrev muLink : Go.Conc.Locks.MuLink := { lock := 121, unlock := 122, ilock := 148, iunlock := 149, disable := 74, enable := 75, acquire := 86, relMerge := 73, cas32 := 161, add32 := 163, lockSlow := 162, unlockSlow := 164, tIMutex := 107, tMutex := 109, tPMutex := 196, tPIMutex := 216, tPI32 := 218, tUP := 114, tNoCopy := 62, tU32 := 68 }
theorem muLib : Go.Conc.Locks.MuLib Tryz.prog muLink :=
  ⟨Tryz.func121, Tryz.func122, Tryz.func148, Tryz.func149, Tryz.func74, Tryz.func75, Tryz.func86, Tryz.func73, Tryz.func161, Tryz.func163, Tryz.underlying107, Tryz.runUnderlying107, Tryz.sizeOf107, Tryz.isAgg107, Tryz.zeroValue107, Tryz.underlying109, Tryz.runUnderlying109, Tryz.sizeOf109, Tryz.isAgg109, Tryz.zeroValue109, Tryz.underlying196, Tryz.runUnderlying196, Tryz.sizeOf196, Tryz.isAgg196, Tryz.zeroValue196, Tryz.underlying216, Tryz.runUnderlying216, Tryz.sizeOf216, Tryz.isAgg216, Tryz.zeroValue216, Tryz.underlying218, Tryz.runUnderlying218, Tryz.sizeOf218, Tryz.isAgg218, Tryz.zeroValue218, Tryz.underlying114, Tryz.runUnderlying114, Tryz.sizeOf114, Tryz.isAgg114, Tryz.zeroValue114, Tryz.underlying62, Tryz.runUnderlying62, Tryz.sizeOf62, Tryz.isAgg62, Tryz.zeroValue62, Tryz.underlying21, Tryz.runUnderlying21, Tryz.sizeOf21, Tryz.isAgg21, Tryz.zeroValue21, (by kernel_rfl)⟩
end Go.Proofs.YtajkbbifemeanaaGreatDoor
end
section
set_option linter.unusedVariables false
set_option linter.unusedSimpArgs false
namespace Go.Proofs.YtajkbbifemeanaaGreatDoor.L
open Go Go.RowKit Go.Lib Go.MuLone Go.Proofs Go.Proofs.YtajkbbifemeanaaGreatDoor Go.Proofs.YtajkbbifemeanaaGreatDoorW.PrintWords Go.Proofs.YtajkbbifemeanaaGreatDoorW.PrintLast Go.Proofs.YtajkbbifemeanaaGreatDoorW.PrintMore
open Go.ChangeMaps (setBlock)
def z32 : Array Value := (List.replicate 32 (Value.int .u8 0)).toArray
theorem z32_size : z32.size = 32 := rfl
theorem z32_one : z32.all (·.oneCell') = true := by kernel_rfl
theorem zj_size : zj.toArray.size = 65 := rfl
theorem infoD {s : ByteArray} (h : s.size ≤ 32) : (Tryz.prog.info? 166).map (·.size) = some (dcells s).size := by rw [dcells_size h]; exact (zero_of_info info_d).2
theorem infoZ : (Tryz.prog.info? 166).map (·.size) = some z32.size := (zero_of_info info_d).2
theorem zeroD : ∀ w, (zeroValue 166).run Tryz.prog w = .ok (.agg z32) w := (zero_of_info info_d).1
theorem zeroJ : ∀ w, (zeroValue 169).run Tryz.prog w = .ok (.agg zj.toArray) w := (zero_of_info info_j).1
theorem info8 : (Tryz.prog.info? 5).map (·.size) = some 1 := by kernel_rfl
theorem copy_z32 {s : ByteArray} (h : s.size ≤ 32) : (z32.toList.take 0 ++ byteCells s.data.toList ++ z32.toList.drop (0 + s.size)).toArray = dcells s := by
  simp only [z32, dcells, List.toList_toArray, List.take_zero, List.nil_append, Nat.zero_add, List.drop_replicate]
theorem wpList_copy_known {P : Program} (w : World) {ops : Array Oper} {rest : List Oper} {o : Oper} {a : Act} {Q : Exit → Act → World → Prop} (hgd : o.guard = none) (d s : Operand) (t t' : TypeId)
    (ho : o.op = .call { callee := .builtin .copy, args := #[d, s], argTypes := #[t, t'] }) (v u : Value) (hd : a.eval d = v) (hs : a.eval s = u) {v' : Value} {w' : World}
    (hr : (Builtin.copy_ #[t, t'] o.type #[v, u]).run P w = .ok v' w') (h : wpList P ops Q rest (a.put o.dst v') w') : wpList P ops Q (o :: rest) a w :=
  wpList_plain hgd fun _ hK => by
    unfold Oper.wp execOp
    simp only [ho, resolve, invoke, builtin, Sem.run_bind, Sem.run_pure, Result.andThen_ok, List.map_toArray, List.map_cons, List.map_nil, hd, hs, hr]
    exact hK _ _ h
theorem heap_row {w : World} {g : Nat} {cs cs' : Array Value} {t : TypeId} {fr : Nat × Nat} (h : w.heap[g]? = some (.cells cs t fr)) : (w.setRow g cs').heap[g]? = some (.cells cs' t fr) := by
  simp [World.setRow, Array.getElem?_modify, h]
theorem below_row {B g : Nat} {w w' : World} (h : Below B w w') (hg : B ≤ g) (c : Array Value) : Below B w (w'.setRow g c) := by
  refine ⟨h.os, h.tape, h.output, ?_, fun k hk => ?_⟩
  · simpa [World.setRow] using h.size
  · rw [← h.block k hk]
    simp only [World.setRow, Array.getElem?_modify]
    rw [if_neg (by omega)]
theorem blk_row {w : World} {g g' : Nat} {o : Obj} (h : w.heap[g']? = some o) (hne : g' ≠ g) (cs : Array Value) : (w.setRow g cs).heap[g']? = some o := by
  simp only [World.setRow, Array.getElem?_modify]
  rw [if_neg (fun e => hne e.symm)]
  exact h
set_option maxHeartbeats 16000000 in
set_option maxRecDepth 100000 in
theorem digestOf_any (s : ByteArray) (hs : s.size ≤ 32) (w : World) : Calls Tryz.prog 123 #[.string s] w fun e w' => e = .returned (.agg (dcells s)) ∧ Below w.heap.size w w' := by
  have HB := qK (Below.refl w.heap.size w)
  have HS := qK hs
  clear hs
  have hz := zeroD
  have hu := Tryz.underlying166
  go_enter Tryz.func123, Tryz.ntmps123
  go_upto_region 1 with ((with_reducible refine gds (N := 2) rfl ?_); refine qbx 2 z32 166 ?_; intro g2 hg w' hbox hb; replace HB := qK (bst HB.out hb); have B2 := qK hbox; have G2 := qK (show w.heap.size ≤ g2 by rw [hg]; exact Nat.le_refl _); clear hb hbox hg)
  go_upto_region 2 with (first | ((with_reducible refine gds (N := 3) rfl ?_); refine qbx 3 z32 166 ?_; intro g3 hg w' hbox hb; have N23 := qK (show g2 ≠ g3 by rw [hg]; exact Nat.ne_of_lt (blt B2.out)); have G3 := qK (show w.heap.size ≤ g3 by rw [hg]; exact HB.out.size); replace B2 := qK (bbe B2.out hb); replace HB := qK (bst HB.out hb); have B3 := qK hbox; clear hb hbox hg) | ((with_reducible refine gst (t := 166) (p := 3) rfl ?_); refine wpList_store_row rfl 166 (.tmp 3) (.tmp 4) rfl g3 z32 ?hx ?hy 166 z32 ?hg ?hi ?ho ?h1 ?_; (case hx => rfl); (case hy => rfl); (case hg => exact B3.out); (case hi => exact infoZ); (case ho => exact rfl); (case h1 => exact z32_one)))
  replace B2 := qK (blk_row B2.out N23.out z32)
  replace B3 := qK (heap_row (cs' := z32) B3.out)
  replace HB := qK (below_row HB.out G3.out z32)
  generalize World.setRow _ g3 _ = w3 at B2 B3 HB ⊢
  clear hz
  go_upto_region 3 with (refine wpList_copy_known _ rfl _ _ 22 9 rfl (.slice (some ⟨g3, 0, none⟩) 32 32) (.string s) rfl rfl (run_copy_row_string _ _ _ _ 5 g3 0 32 32 s z32 166 Tryz.underlying22 info8 B3.out HS.out (by have := HS.out; rw [z32_size]; omega)) ?_; rw [copy_z32 HS.out])
  replace B2 := qK (blk_row B2.out N23.out (dcells s))
  replace B3 := qK (heap_row (cs' := dcells s) B3.out)
  replace HB := qK (below_row HB.out G3.out (dcells s))
  generalize World.setRow _ g3 _ = w4 at B2 B3 HB ⊢
  go_wp2_with (first | ((with_reducible refine gds (N := 8) rfl ?_); refine wpList_load_row rfl 166 (.tmp 3) rfl g3 ?hp 166 (dcells s) (0, 0) _ ?hg Tryz.underlying166 ?ha ?hi ?_; (case hp => rfl); (case hg => exact B3.out); (case ha => rfl); (case hi => exact (infoD HS.out))) | ((with_reducible refine gst (t := 166) (p := 2) rfl ?_); refine wpList_store_row rfl 166 (.tmp 2) (.tmp 8) rfl g2 (dcells s) ?hx ?hy 166 z32 ?hg ?hi ?ho ?h1 ?_; (case hx => rfl); (case hy => rfl); (case hg => exact B2.out); (case hi => exact (infoD HS.out)); (case ho => exact (by rw [z32_size, dcells_size HS.out])); (case h1 => exact (dcells_one s))))
  replace B2 := qK (heap_row (cs' := dcells s) B2.out)
  replace HB := qK (below_row HB.out G2.out (dcells s))
  refine bodyPost_ret (v := .agg (dcells s)) ?_ ?_ ?_
  · exact results_cell_row rfl _ _ g2 166 (dcells s) (0, 0) _ rfl B2.out Tryz.underlying166 rfl (infoD HS.out)
  · rfl
  · exact ⟨rfl, HB.out⟩
/-- The nodes that are kept, at gn, their map at gm. -/
def NodesAt (nd : ByteArray → ByteArray → Option ByteArray) (kind : Int) (n gn gm : Nat) (w : World) : Prop :=
  ∃ (s : Int) (es : Array MapEntry) (clock : Nat), w.heap[gn]? = some (.cells #[.int .i32 0, .int .u32 s, .map (some gm)] 111 (0, 0)) ∧ w.heap[gm]? = some (.map es clock) ∧ Nodes nd kind n es
theorem wpList_built_j {ops : Array Oper} {rest : List Oper} {o : Oper} {a : Act} {w : World} {Q : Exit → Act → World → Prop} (hg : o.guard = none) (x y z : Operand) (ho : o.op = .build 169 #[(0, x), (1, y), (2, z)])
    {kind : Int} {l r : ByteArray} (hl : l.size ≤ 32) (hr : r.size ≤ 32) (hx : a.eval x = .int .i64 kind) (hy : a.eval y = .agg (dcells l)) (hz : a.eval z = .agg (dcells r))
    (h : wpList Tryz.prog ops Q rest (a.put o.dst (.agg (jcells kind l r))) w) : wpList Tryz.prog ops Q (o :: rest) a w := by
  have e : Tryz.prog.built 169 ((#[(0, x), (1, y), (2, z)] : Array (Nat × Operand)).map fun (i, x) => (i, a.eval x)).toList = some (jcells kind l r) := by
    simp [hx, hy, hz, built_j kind hl hr]
  exact wpList_build hg 169 _ ho (by rw [e]; rfl) (by rw [e]; exact h)
theorem exec_load_row' {P : Program} {o : Oper} {a : Act} {w : World} (ty : TypeId) (x : Operand) (ho : o.op = .load ty x) (g : Nat) (hx : a.eval x = .pointer (some ⟨g, 0, none⟩)) (t : TypeId) (cs : Array Value) {d : TypeDesc} (hg : w.heap[g]? = some (.cells cs t (0, 0)))
    (hu : P.underlying ty = some d) (hd : (match d with | .struct _ | .array _ _ => true | _ => false) = true) (hi : (P.info? ty).map (·.size) = some cs.size) : (execOp a.eval o).run P w = .ok (.value (.agg cs)) w := by
  unfold execOp
  simp only [ho, hx, Instr.loadAt, Instr.sureAddr, Sem.run_bind, Sem.run_pure, Result.andThen_ok, run_loadVar_row w g t ty cs (0, 0) d hg hu hd hi]
theorem exec_eql {o : Oper} {a : Act} {w : World} {x y : Operand} {us vs : Array Value} {t t2 : TypeId} (hm : Tryz.prog.eqGuardType Tryz.prog.depth t = false) (ho : o.op = .binOp .eql t x y t2) (hx : a.eval x = .agg us) (hy : a.eval y = .agg vs) (h : (Op.equal t (.agg us) (.agg vs)).run Tryz.prog w = .ok true w) : (execOp a.eval o).run Tryz.prog w = .ok (.value (.bool true)) w := by
  unfold execOp
  simp [ho, hx, hy, run_eqGuard_agg (hm := hm), binOp, h]
theorem exec_look {o : Oper} {a : Act} {w : World} {t : TypeId} {x y : Operand} {m k v : Value} (ho : o.op = .lookup t x y true) (hx : a.eval x = m) (hy : a.eval y = k) (h : (Instr.lookup t m k true).run Tryz.prog w = .ok v w) : (execOp a.eval o).run Tryz.prog w = .ok (.value v) w := by
  unfold execOp
  simp only [ho, hx, hy, Sem.run_bind, h, Result.andThen_ok, Sem.run_pure]
theorem exec_put {o : Oper} {a : Act} {w w' : World} {t : TypeId} {x y z : Operand} {m k v : Value} (ho : o.op = .mapUpdate t x y z) (hx : a.eval x = m) (hy : a.eval y = k) (hz : a.eval z = v) (h : (Instr.mapUpdate t m k v).run Tryz.prog w = .ok () w') : (execOp a.eval o).run Tryz.prog w = .ok .skip w' := by
  unfold execOp
  simp only [ho, hx, hy, hz, Sem.run_bind, h, Result.andThen_ok, Sem.run_pure]
theorem infoJ {kind : Int} {l r : ByteArray} (hl : l.size ≤ 32) (hr : r.size ≤ 32) : (Tryz.prog.info? 169).map (·.size) = some (jcells kind l r).size := by rw [jcells_size kind hl hr]; exact (zero_of_info info_j).2
theorem jrange {w : World} {g : Nat} {kind : Int} {l r : ByteArray} (hl : l.size ≤ 32) (h : w.heap[g]? = some (.cells (jcells kind l r) 169 (0, 0))) : w.rangeAt g 1 (dcells l).toList := fun j v hj => by
  have hlen := dcells_size hl
  have hj' : j < 32 := by have := (List.getElem?_eq_some_iff.1 hj).1; simpa [hlen] using this
  rw [cell_of_row _ _ _ _ _ _ h]
  rw [← Array.getElem?_toList]
  simp only [jcells, List.toList_toArray]
  rw [List.append_assoc, List.singleton_append, Nat.add_comm 1 j, List.getElem?_cons_succ, List.getElem?_append_left (by simp [hlen]; exact hj')]
  exact hj
theorem run_map_len {w : World} {gm clock : Nat} {es : Array MapEntry} (h : w.heap[gm]? = some (.map es clock)) (ty : TypeId) : (Builtin.len_ #[105] ty #[.map (some gm)]).run Tryz.prog w = .ok (.int .i64 es.size) w := by
  simp [Builtin.len_, Builtin.lenOf, run_underlying Tryz.underlying105, MapKept.run_getObj_map h, Result.andThen, goInt]
/-- A region's end alone, where the function has deferred calls. -/
def calmQ (Q : Exit → Act → World → Prop) : Exit → Act → World → Prop := fun e a w => match e with | .normal => Q .normal a w | _ => False
theorem qsd {P : Program} {ops : Array Oper} {Q : Exit → Act → World → Prop} {id : Nat} (n : Nat) (S : World → Prop) {ds : List Nat} {a : Act} {w : World} (hS : S w.drew)
    (h : S w.drew → wpAnyLast P .any ops (calmQ Q) S ds n (Array.replicate n false) a w.drew) (hm : P.follows .mixedOrders = true := by kernel_rfl) (hn : ops.size = n := by rfl) : (Code.region id ops true).wp P Q a w :=
  Code.wp_mono (fun e a w he => by
    cases e
    case normal => exact he
    all_goals exact he.elim) (qs n S hS h hm hn)
theorem doned {P : Program} {md : Region.Mode} {ops : Array Oper} {Q : Exit → Act → World → Prop} {S : World → Prop} {ds : List Nat} {l : Array Bool} {a : Act} {w : World} {n : Nat} (hr : (Region.ready md ops l == []) = true) (h : Q .normal a w) : wpAnyLast P md ops (calmQ Q) S ds n l a w := done_ hr h
theorem map_lt {w : World} {g clock : Nat} {es : Array MapEntry} (h : w.heap[g]? = some (.map es clock)) : g < w.heap.size := (Array.getElem?_eq_some_iff.1 h).1
set_option maxHeartbeats 16000000 in
set_option maxRecDepth 100000 in
theorem node_any (nd : ByteArray → ByteArray → Option ByteArray) (kind : Int) (n : Nat) (l r v : ByteArray) (w0 w : World) (gn gm : Nat) (hB : Below w0.heap.size w0 w)
    (hC : ∀ W : World, Below w0.heap.size w0 W → Calls Tryz.prog 29 #[.int .i64 kind, .string l, .string r] W fun e w' => e = .returned (.string v) ∧ Below W.heap.size W w') (h1 : w0.heap.size ≤ gm) (h2 : w0.heap.size ≤ gn) (h3 : gm ≠ gn)
    (hN : NodesAt nd kind n gn gm w) (hk : (Lit.int .i64 kind).wf = true) (hn : n ≤ 32) (hl : l.size = n) (hr : r.size = n) (hv : nd l r = some v) :
    Calls Tryz.prog 72 #[.pointer (some ⟨gn, 0, none⟩), .int .i64 kind, .string l, .string r] w fun e w' => e = .returned (.string v) ∧ Below w0.heap.size w0 w' ∧ NodesAt nd kind n gn gm w' := by
  obtain ⟨s, es, clock, hgn, hgm, hes⟩ := hN
  obtain ⟨v1, b1, hlk, hb1⟩ := nodes_look (gm := gm) (clock := clock) hk hn hes hl hr
  have c0 : w.cell? ⟨gn, 0, none⟩ = some (.int .i32 0) := (bce hgn 0).trans rfl
  have f0 : w.frozen? ⟨gn, 0, none⟩ = false := bfz hgn 0
  have HB := qK hB
  have HC := qK hC
  have GM := qK h1
  have GN := qK h2
  have NE := qK h3
  have BN := qK hgn
  have BM := qK hgm
  have HE := qK hes
  have HK := qK hk
  have HN := qK hn
  have HLN := qK hl
  have HRN := qK hr
  have HL := qK (show l.size ≤ 32 by omega)
  have HR := qK (show r.size ≤ 32 by omega)
  have HV := qK hv
  have LK := qK hlk
  have LB := qK hb1
  clear hB hC h1 h2 h3 hgn hgm hes hk hn hl hr hv hlk hb1
  have hu := Tryz.underlying111
  have huj := Tryz.underlying169
  go_enter_defers Tryz.func72, Tryz.ntmps72
  go_upto_region 2 with (go_at_call 121; refine (lock_free muLib ⟨gn, 0, none⟩ _ c0 f0).mono ?_; rintro e w' ⟨rfl, rfl⟩)
  replace BN := qK (show (World.setCell w ⟨gn, 0, none⟩ (.int .i32 1)).heap[gn]? = some (.cells #[.int .i32 1, .int .u32 s, .map (some gm)] 111 (0, 0)) from by simpa using blk_set BN.out 0 (.int .i32 1))
  replace BM := qK ((Below.heap_setCell w ⟨gn, 0, none⟩ (.int .i32 1) gm NE.out).trans BM.out)
  replace HB := qK (bse (j := 0) (v := .int .i32 1) HB.out GN.out)
  clear c0 f0
  generalize World.setCell w ⟨gn, 0, none⟩ _ = w1 at BN BM HB ⊢
  have hz := zeroJ
  go_upto_region 4 with (first | (go_at_call 123; (with_reducible refine (digestOf_any l HL.out _).mono ?_); rintro e w' ⟨rfl, hb⟩; replace BN := qK (bbe BN.out hb); replace BM := qK (bbe BM.out hb); replace HB := qK (bst HB.out hb); clear hb) | (go_at_call 123; (with_reducible refine (digestOf_any r HR.out _).mono ?_); rintro e w' ⟨rfl, hb⟩; replace BN := qK (bbe BN.out hb); replace BM := qK (bbe BM.out hb); replace HB := qK (bst HB.out hb); clear hb) | ((with_reducible refine gds (N := 25) rfl ?_); refine wpList_built_j rfl (.tmp 20) (.tmp 22) (.tmp 24) rfl HL.out HR.out rfl rfl rfl ?_) | ((with_reducible refine gds (N := 9) rfl ?_); refine qbx 9 zj.toArray 169 ?_; intro g9 hg w' hbox hb; have BN0 := BN.out; have BM0 := BM.out; replace BN := qK (bbe BN.out hb); replace BM := qK (bbe BM.out hb); have G9 := qK (show w0.heap.size ≤ g9 by rw [hg]; exact HB.out.size); have N9 := qK (show gn ≠ g9 ∧ gm ≠ g9 by rw [hg]; exact ⟨Nat.ne_of_lt (blt BN0), Nat.ne_of_lt (map_lt BM0)⟩); replace HB := qK (bst HB.out hb); have BJ := qK hbox; clear hb hbox hg BN0 BM0) | ((with_reducible refine gst (t := 169) (p := 9) rfl ?_); refine wpList_store_row rfl 169 (.tmp 9) (.tmp 25) rfl g9 (jcells kind l r) ?hx ?hy 169 zj.toArray ?hg ?hi ?ho ?h1 ?_; (case hx => rfl); (case hy => rfl); (case hg => exact BJ.out); (case hi => exact (infoJ HL.out HR.out)); (case ho => exact (by rw [zj_size, jcells_size kind HL.out HR.out])); (case h1 => exact (jcells_one kind l r))))
  clear hz
  replace BN := qK (blk_row BN.out N9.out.1 (jcells kind l r))
  replace BM := qK (blk_row BM.out N9.out.2 (jcells kind l r))
  replace BJ := qK (heap_row (cs' := (jcells kind l r)) BJ.out)
  replace HB := qK (below_row HB.out G9.out (jcells kind l r))
  generalize World.setRow _ g9 _ = w3 at BN BM BJ HB ⊢
  refine qsd 11 (fun w' => w'.cell? ⟨gn, 2, none⟩ = some (.map (some gm)) ∧ w'.heap[g9]? = some (.cells (jcells kind l r) 169 (0, 0)) ∧ w'.heap[gm]? = some (.map es clock)) (ds := []) ⟨(bce BN.out 2).trans rfl, BJ.out, BM.out⟩ (fun hHeld => ?_)
  replace BN := qK (bbe BN.out (bd1 (Below.refl _ _)))
  replace BM := qK (bbe BM.out (bd1 (Below.refl _ _)))
  replace BJ := qK (bbe BJ.out (bd1 (Below.refl _ _)))
  replace HB := qK (bst HB.out (bd1 (Below.refl _ _)))
  generalize World.drew w3 = w4 at BN BM BJ HB hHeld ⊢
  refine qp 0 27 ?_
  refine qp 1 28 ?_
  refine qp 2 29 ?_
  refine qt 3 30 ?_
  refine qt 4 31 ?_ (hy := Or.inl ⟨by rfl, fun w' hS => exec_load_row' 169 (.tmp 9) rfl g9 rfl 169 (jcells kind l r) hS.2.1 Tryz.underlying169 rfl (infoJ HL.out HR.out)⟩)
  refine qt 5 32 ?_ (hy := Or.inl ⟨by rfl, fun w' hS => exec_look rfl rfl rfl (LK.out w' hS.2.2)⟩)
  refine qp 6 26 ?_
  refine qp 7 33 ?_
  refine qp 8 34 ?_
  refine qp 9 10 ?_
  refine qp 10 11 ?_
  refine doned (by kernel_rfl) ?_
  go_upto_region 5 with (fail)
  cases b1
  case true =>
    obtain rfl := Option.some.inj ((LB.out rfl).symm.trans HV.out)
    refine qsd 8 (fun w' => w'.cell? ⟨gn, 2, none⟩ = some (.map (some gm)) ∧ w'.heap[g9]? = some (.cells (jcells kind l r) 169 (0, 0)) ∧ w'.heap[gm]? = some (.map es clock)) (ds := []) ⟨(bce BN.out 2).trans rfl, BJ.out, BM.out⟩ (fun hHeld => ?_)
    replace BN := qK (bbe BN.out (bd1 (Below.refl _ _)))
    replace BM := qK (bbe BM.out (bd1 (Below.refl _ _)))
    replace BJ := qK (bbe BJ.out (bd1 (Below.refl _ _)))
    replace HB := qK (bst HB.out (bd1 (Below.refl _ _)))
    generalize World.drew w4 = w5 at BN BM BJ HB hHeld ⊢
    refine qp 0 35 ?_
    refine qp 1 36 ?_
    refine qp 2 37 ?_
    refine qt 3 38 ?_ (hy := yieldsIf_load_mid (by rfl) 166 (.tmp 37) rfl g9 1 rfl (dcells l).toList _ (fun w' hS => jrange HL.out hS.2.1) Tryz.underlying166 rfl (by have := dcells_size HL.out; simpa [this] using (infoD HL.out)))
    refine qp 4 39 ?_
    refine qo 5 40 (fun K hK => ?_)
    refine goes_ (N := some 40) Tryz.func123 (by kernel_rfl) rfl #[.string l] (by rfl) rfl rfl qA ?_
    refine (digestOf_any l HL.out _).mono ?_
    rintro e w' ⟨rfl, hb⟩
    replace BN := qK (bbe BN.out hb); replace BM := qK (bbe BM.out hb); replace BJ := qK (bbe BJ.out hb)
    replace HB := qK (bst HB.out hb)
    clear hb
    refine ⟨_, rfl, ?_⟩
    refine hK.out _ _ ⟨(bce BN.out 2).trans rfl, BJ.out, BM.out⟩ (fun hHeld => ?_)
    clear hK K
    refine norm_ (a' := ?_) ?_ ?_
    rotate_left
    · show Act.put _ (some 40) _ = _
      simp only [Act.put, List.setIfInBounds_toArray, List.set_cons_zero, List.set_cons_succ, i64_w, i32_w]
      rfl
    refine qp 6 41 ?_ (hy := Or.inl ⟨by rfl, fun w' => exec_eql (by kernel_rfl) rfl rfl rfl (eql_digest HL.out w')⟩)
    refine qp 7 42 ?_
    refine doned (by kernel_rfl) ?_
    go_wp2
    refine leaves_cons (f := 122) (args := #[.pointer (some ⟨gn, 0, none⟩)]) (by simp) (by simp [go_sem]) ?_
    refine (unlock_deferred muLib ⟨gn, 0, none⟩ .returning _ ((bce BN.out 0).trans rfl) (bfz BN.out 0)).mono ?_
    rintro e u' w'' ⟨rfl, rfl, rfl⟩
    exact ⟨_, results_tmp rfl _ _ _, rfl, bse HB.out GN.out, s, _, _, by simpa using blk_set BN.out 0 (.int .i32 0), (Below.heap_setCell _ _ _ _ NE.out).trans BM.out, HE.out⟩
  case false =>
    refine qsd 8 (fun w' => w'.cell? ⟨gn, 2, none⟩ = some (.map (some gm)) ∧ w'.heap[g9]? = some (.cells (jcells kind l r) 169 (0, 0)) ∧ w'.heap[gm]? = some (.map es clock)) (ds := []) ⟨(bce BN.out 2).trans rfl, BJ.out, BM.out⟩ (fun hHeld => ?_)
    replace BN := qK (bbe BN.out (bd1 (Below.refl _ _)))
    replace BM := qK (bbe BM.out (bd1 (Below.refl _ _)))
    replace BJ := qK (bbe BJ.out (bd1 (Below.refl _ _)))
    replace HB := qK (bst HB.out (bd1 (Below.refl _ _)))
    generalize World.drew w4 = w5 at BN BM BJ HB hHeld ⊢
    refine qp 0 35 ?_
    refine qp 1 36 ?_
    refine qu 2 37 ?_
    refine qu 3 38 ?_
    refine qu 4 39 ?_
    refine qu 5 40 ?_
    refine qu 6 41 ?_
    refine qp 7 42 ?_
    refine doned (by kernel_rfl) ?_
    have hc2 : w5.cell? ⟨gn, 2, none⟩ = some (.map (some gm)) := (bce BN.out 2).trans rfl
    have hlen := run_map_len (w := w5) BM.out
    by_cases hc : 4096 ≤ es.size
    all_goals
      first
        | have d1 : decide ((es.size : Int) ≥ 4096) = true := decide_eq_true (by omega)
          have d2 : decide (4096 ≤ (es.size : Int)) = true := decide_eq_true (by omega)
          have d3 : decide (4096 ≤ es.size) = true := decide_eq_true hc
          have hclr := nodes_clear (w := w5) BM.out
          clear hc
          go_upto_region 9 with (fail)
          replace BN := qK ((heap_block_ne (o' := .map #[] clock) NE.out.symm).trans BN.out)
          replace BJ := qK ((heap_block_ne (o' := .map #[] clock) N9.out.2.symm).trans BJ.out)
          replace HB := qK (below_block HB.out GM.out (.map #[] clock))
          replace BM := qK (heap_block (o' := .map #[] clock) BM.out)
          replace HE := qK (show Nodes nd kind n #[] from fun e he => by simp at he)
          generalize setBlock w5 gm _ = w6 at BN BM BJ HB ⊢
        | have d1 : decide ((es.size : Int) ≥ 4096) = false := decide_eq_false (by omega)
          have d2 : decide (4096 ≤ (es.size : Int)) = false := decide_eq_false (by omega)
          have d3 : decide (4096 ≤ es.size) = false := decide_eq_false hc
          clear hc
          go_upto_region 9 with (fail)
          obtain ⟨w6, hw6⟩ : ∃ w6, w5 = w6 := ⟨_, rfl⟩
          subst hw6
    all_goals
      clear hlen hc2 d1 d2 d3
      go_upto_region 10 with (go_at_call 29; (with_reducible refine (HC.out _ HB.out).mono ?_); rintro e w' ⟨rfl, hb⟩; replace BN := qK (bbe BN.out hb); replace BM := qK (bbe BM.out hb); replace BJ := qK (bbe BJ.out hb); replace HB := qK (bst HB.out hb); clear hb)
      refine qsd 7 (fun w' => w'.cell? ⟨gn, 2, none⟩ = some (.map (some gm)) ∧ w'.heap[g9]? = some (.cells (jcells kind l r) 169 (0, 0))) (ds := []) ⟨(bce BN.out 2).trans rfl, BJ.out⟩ (fun hHeld => ?_)
      replace BN := qK (bbe BN.out (bd1 (Below.refl _ _)))
      replace BM := qK (bbe BM.out (bd1 (Below.refl _ _)))
      replace BJ := qK (bbe BJ.out (bd1 (Below.refl _ _)))
      replace HB := qK (bst HB.out (bd1 (Below.refl _ _)))
      generalize World.drew _ = w8 at BN BM BJ HB hHeld ⊢
      refine qp 0 58 ?_
      refine qp 1 59 ?_
      refine qp 2 60 ?_
      refine qt 3 61 ?_
      refine qt 4 62 ?_ (hy := Or.inl ⟨by rfl, fun w' hS => exec_load_row' 169 (.tmp 9) rfl g9 rfl 169 (jcells kind l r) hS.2 Tryz.underlying169 rfl (infoJ HL.out HR.out)⟩)
      refine qp 5 63 ?_
      obtain ⟨es', clock', hput, hes'⟩ := nodes_put (gm := gm) HK.out HN.out HE.out HLN.out HRN.out HV.out BM.out
      refine one_ (i := 6) (N := none) #[true, true, true, true, true, true, true] rfl rfl (by kernel_rfl) (by decide) (fun K hK => ?_)
      refine skip_ (by rfl) rfl (exec_put rfl rfl rfl rfl hput) ?_
      replace BN := qK ((heap_block_ne (o' := .map es' clock') NE.out.symm).trans BN.out)
      replace BJ := qK ((heap_block_ne (o' := .map es' clock') N9.out.2.symm).trans BJ.out)
      replace HB := qK (below_block HB.out GM.out (.map es' clock'))
      replace BM := qK (heap_block (o' := .map es' clock') BM.out)
      have HE' := qK hes'
      clear hput hes'
      generalize setBlock w8 gm _ = w9 at BN BM BJ HB ⊢
      refine hK.out _ _ ⟨(bce BN.out 2).trans rfl, BJ.out⟩ (fun hHeld => ?_)
      clear hK K
      refine doned (by kernel_rfl) ?_
      go_wp2
      refine leaves_cons (f := 122) (args := #[.pointer (some ⟨gn, 0, none⟩)]) (by simp) (by simp [go_sem]) ?_
      refine (unlock_deferred muLib ⟨gn, 0, none⟩ .returning _ ((bce BN.out 0).trans rfl) (bfz BN.out 0)).mono ?_
      rintro e u' w'' ⟨rfl, rfl, rfl⟩
      exact ⟨_, results_tmp rfl _ _ _, rfl, bse HB.out GN.out, s, _, _, by simpa using blk_set BN.out 0 (.int .i32 0), (Below.heap_setCell _ _ _ _ NE.out).trans BM.out, HE'.out⟩
end Go.Proofs.YtajkbbifemeanaaGreatDoor.L
end
section
set_option linter.unusedVariables false
set_option linter.unusedSimpArgs false
namespace Go.Proofs.YtajkbbifemeanaaGreatDoor.L
open Go Go.RowKit Go.Proofs Go.Proofs.YtajkbbifemeanaaGreatDoor Go.Proofs.YtajkbbifemeanaaGreatDoorW.PrintWords Go.Proofs.YtajkbbifemeanaaGreatDoorW.PrintLast Go.Proofs.YtajkbbifemeanaaGreatDoorW.PrintMore
/-- What root computes; n: how many bytes a digest has. -/
def impl_rootO (n : Nat) : Nat → Int → List ByteArray → Option ByteArray
  | 0, _, _ => none
  | k + 1, a0, l1 => if (l1.length : Int) = 0 then impl_Digest.f a0 (⟨#[]⟩ : ByteArray) else (if (l1.length : Int) = 1 then impl_Leaf.f a0 (rdOf ByteArray.empty l1 0) else
      ((impl_below.f k (l1.length : Int)).bind fun t => (if 0 ≤ t then (if t ≤ (l1.length : Int) then ((impl_rootO n k a0 (l1.take (t : Int).toNat)).bind fun x => ((impl_rootO n k a0 (l1.drop (t : Int).toNat)).bind fun y => (if x.size = n then (if y.size = n then impl_Node.f a0 x y else none) else none))) else none) else none)))
theorem impl_rootO.mono (n : Nat) : ∀ k a0 l1, LeO (impl_rootO n k a0 l1) (impl_rootO n (k + 1) a0 l1)
  | 0 => fun _ _ r h => by simp [impl_rootO] at h
  | k + 1 => by
    have ih := impl_rootO.mono n k
    intro a0 l1
    unfold impl_rootO
    repeat' first
      | (with_reducible first | exact ih .. | exact impl_below.mono .. | exact LeO.refl _ | exact LeO.none _ | refine LeO.ite ?_ ?_ | refine LeO.bind ?_ (fun _ => ?_))
/-- What Root computes, below 64 entries. -/
def impl_Root.f (k : Nat) (a0 : Int) (l1 : List ByteArray) : Option ByteArray := if a0 = 0 then (if l1.length < 64 then impl_rootO 32 k a0 l1 else none) else if a0 = 1 then (if l1.length < 64 then impl_rootO 1 k a0 l1 else none) else some (⟨#[]⟩ : ByteArray)
theorem impl_Root.mono : ∀ a0 a1 k, LeO (impl_Root.f k a0 a1) (impl_Root.f (k + 1) a0 a1) := by
  intro a0 a1 k
  unfold impl_Root.f
  exact LeO.ite (LeO.ite (impl_rootO.mono _ _ _ _) (LeO.none _)) (LeO.ite (LeO.ite (impl_rootO.mono _ _ _ _) (LeO.none _)) (LeO.refl _))
end Go.Proofs.YtajkbbifemeanaaGreatDoor.L
end
section
set_option linter.unusedVariables false
set_option linter.unusedSimpArgs false
namespace Go.Proofs.YtajkbbifemeanaaGreatDoor.L
open Go Go.RowKit Go.Lib Go.Proofs Go.Proofs.YtajkbbifemeanaaGreatDoor Go.Proofs.YtajkbbifemeanaaGreatDoorW.PrintWords Go.Proofs.YtajkbbifemeanaaGreatDoorW.PrintLast Go.Proofs.YtajkbbifemeanaaGreatDoorW.PrintMore
theorem nodes_below {nd : ByteArray → ByteArray → Option ByteArray} {kind : Int} {n gn gm : Nat} {w w' : World} (h : NodesAt nd kind n gn gm w) (hb : Below w.heap.size w w') : NodesAt nd kind n gn gm w' := by
  obtain ⟨s, es, clock, h1, h2, h3⟩ := h
  exact ⟨s, es, clock, bbe h1 hb, bbe h2 hb, h3⟩
set_option maxHeartbeats 16000000 in
set_option maxRecDepth 100000 in
theorem root_any (n : Nat) (k : Nat) : ∀ (kind : Int) (A : Option Addr) (c : Nat) (l : List ByteArray) (r : ByteArray) (w0 w : World) (gn gm : Nat) (hB : Below w0.heap.size w0 w) (hG : GOK w0) (h1 : w0.heap.size ≤ gm) (h2 : w0.heap.size ≤ gn) (h3 : gm ≠ gn)
    (hN : NodesAt (impl_Node.f kind) kind n gn gm w) (hk : (Lit.int .i64 kind).wf = true) (hn : n ≤ 32)
    (hC : Kd.C Kd.string w0 A l.length l) (hc : l.length ≤ c) (h : impl_rootO n k kind l = some r),
    Calls Tryz.prog 39 #[.int .i64 kind, .slice A l.length c, .pointer (some ⟨gn, 0, none⟩)] w fun e w' => e = .returned (.string r) ∧ Below w0.heap.size w0 w' ∧ NodesAt (impl_Node.f kind) kind n gn gm w' := by
  induction k with
  | zero => intro kind A c l r w0 w gn gm _ _ _ _ _ _ _ _ _ _ h; exact absurd h (by simp [impl_rootO])
  | succ k ih =>
  intro kind A c l r w0 w gn gm hB hG h1 h2 h3 hN hk hn hC hc h
  rw [impl_rootO] at h
  have HB := qK hB
  have HG := qK hG
  have G1 := qK h1
  have G2 := qK h2
  have G3 := qK h3
  have HN := qK hN
  have HK := qK hk
  have N32 := qK hn
  have HC := qK hC
  have HC1 := qK hc
  have IH := qK ih
  clear hB hG h1 h2 h3 hN hk hn hC hc ih
  by_cases c3 : (l.length : Int) = 0
  · rw [if_pos c3] at h
    obtain ⟨c3b0, c3b1⟩ := qe c3
    clear c3
    have H := qK h
    clear h
    go_enter Tryz.func39, Tryz.ntmps39
    go_wp2_with ((with_reducible refine gcl (f := 28) rfl ?_); refine gL 13 Tryz.func28 #[.int .i64 kind, .string (⟨#[]⟩ : ByteArray)] ?_; (with_reducible refine (impl_Digest.calls kind (⟨#[]⟩ : ByteArray) r _ (HG.out.below HB.out) H.out).mono ?_); rintro e w5 ⟨rfl, hb⟩; refine ⟨_, rfl, ?_⟩; replace HB := qK (bst HB.out hb); replace HN := qK (nodes_below HN.out hb); clear hb)
    go_ret
    exact ⟨rfl, HB.out, HN.out⟩
  · rw [if_neg c3] at h
    obtain ⟨c3b0, c3b1⟩ := qn c3
    by_cases c6 : (l.length : Int) = 1
    · rw [if_pos c6] at h
      obtain ⟨c6b0, c6b1⟩ := qe c6
      have H := qK h
      clear h
      have p564 : 0 ≤ (0 : Int) := by omega
      have q564 : 0 < (l.length : Int) := by omega
      clear c6 c3
      have HCw := qK (Kd.Cbe HC.out HB.out)
      obtain ⟨ad564, e564, hx564_0⟩ := Kd.at_string HCw.out 0 p564 q564
      cases e564
      have qi564 : (0 < l.length) = True := eq_true (by omega)
      (try rw [show ((0 : Int)).toNat = 0 from rfl] at hx564_0)
      (try rw [Addr.add_zero'] at hx564_0)
      replace p564 := eq_true p564
      replace q564 := eq_true q564
      go_enter Tryz.func39, Tryz.ntmps39
      go_wp2_with ((with_reducible refine gcl (f := 37) rfl ?_); refine gL 20 Tryz.func37 #[.int .i64 kind, .string (rdOf ByteArray.empty l 0)] ?_; (with_reducible refine (impl_Leaf.calls kind (rdOf ByteArray.empty l 0) r _ (HG.out.below HB.out) H.out).mono ?_); rintro e w9 ⟨rfl, hb⟩; refine ⟨_, rfl, ?_⟩; replace HB := qK (bst HB.out hb); replace HN := qK (nodes_below HN.out hb); clear hb)
      go_ret
      exact ⟨rfl, HB.out, HN.out⟩
    rw [if_neg c6] at h
    obtain ⟨c6b0, c6b1⟩ := qn c6
    obtain ⟨t, hT, h⟩ := Option.bind_eq_some_iff.mp h
    by_cases c11 : 0 ≤ t
    case neg => rw [if_neg c11] at h; cases h
    rw [if_pos c11] at h
    by_cases c12 : t ≤ (l.length : Int)
    case neg => rw [if_neg c12] at h; cases h
    rw [if_pos c12] at h
    obtain ⟨x, hx, h⟩ := Option.bind_eq_some_iff.mp h
    obtain ⟨y, hy, h⟩ := Option.bind_eq_some_iff.mp h
    by_cases s1 : x.size = n
    case neg => rw [if_neg s1] at h; cases h
    rw [if_pos s1] at h
    by_cases s2 : y.size = n
    case neg => rw [if_neg s2] at h; cases h
    rw [if_pos s2] at h
    have HT := qK hT
    have HX := qK hx
    have HY := qK hy
    have H := qK h
    have S1 := qK s1
    have S2 := qK s2
    have P11 := qK c11
    have P12 := qK c12
    have c11b0 := eq_true c11
    have c11b1 := decide_eq_true c11
    have c12b0 := eq_true c12
    have c12b1 := decide_eq_true c12
    clear hT hx hy h s1 s2 c3 c6 c11 c12
    go_enter Tryz.func39, Tryz.ntmps39
    go_upto_region 7 with ((with_reducible refine gcl (f := 41) rfl ?_); refine gL 23 Tryz.func41 #[.int .i64 (l.length : Int)] ?_; (with_reducible refine (impl_below.calls k (l.length : Int) t _ HT.out).mono ?_); rintro e w' ⟨rfl, ⟨nd, rfl⟩⟩; refine ⟨_, rfl, ?_⟩)
    replace HB := qK (pbd (n := nd) HB.out)
    replace HN := qK (nodes_below HN.out (pbd (n := nd) (Below.refl _ _)))
    generalize World.drewN w nd = w1 at HB HN ⊢
    obtain ⟨i019, hi019, _, hsz19, _⟩ := info_parts info9
    obtain ⟨hcut19, hA19, hC19⟩ := print_take_of (P := Tryz.prog) Value.string (⟨#[]⟩ : ByteArray) 23 9 .i64 Tryz.underlying23 hi019 hsz19 A c l t P11.out P12.out HC1.out
    have HR567 := qK (show Kd.C Kd.string w0 A (l.take (t : Int).toNat).length (l.take (t : Int).toNat) from Kd.C_of_reads (h1 := fun _ => rfl) (hA19 _ (Kd.reads_of_C HC.out)))
    have HC567 := qK hC19
    clear hA19 hC19 hi019 hsz19
    obtain ⟨i020, hi020, _, hsz20, _⟩ := info_parts info9
    obtain ⟨A20, hcut20, hA20, hC20⟩ := print_drop_of (P := Tryz.prog) Value.string (⟨#[]⟩ : ByteArray) 23 9 .i64 Tryz.underlying23 hi020 hsz20 A c l t P11.out P12.out HC1.out
    have HR569 := qK (show Kd.C Kd.string w0 A20 (l.drop (t : Int).toNat).length (l.drop (t : Int).toNat) from Kd.C_of_reads (h1 := fun _ => rfl) (hA20 _ (Kd.reads_of_C HC.out)))
    have HC569 := qK hC20
    clear hA20 hC20 hi020 hsz20
    refine qs 16 (fun w' => True) (ds := []) trivial (fun hHeld => ?_)
    replace HB := qK (bst HB.out (bd1 (Below.refl _ _)))
    replace HN := qK (nodes_below HN.out (bd1 (Below.refl _ _)))
    generalize World.drew w1 = w2 at HB HN hHeld ⊢
    refine qp 0 24 ?_
    refine qp 1 25 ?_
    refine qp 2 26 ?_
    refine qp 3 27 ?_
    refine qp 4 28 ?_
    refine qp 5 29 ?_
    refine qp 6 30 ?_
    refine qp 8 32 ?_
    refine qp 9 33 ?_
    refine qp 10 34 ?_
    refine qp 11 35 ?_
    refine qp 12 36 ?_
    refine qo 7 31 (fun K hK => ?_)
    refine goes_ Tryz.func39 (by kernel_rfl) rfl #[.int .i64 kind, .slice A (l.take (t : Int).toNat).length c, .pointer (some ⟨gn, 0, none⟩)] (by rfl) rfl rfl (by (try simp only [List.map_toArray, List.map_cons, List.map_nil]); first | done | (rw [show (l.take (t : Int).toNat).length = t.toNat from (by rw [List.length_take]; have h_ := P12.out; omega)] <;> rfl) | rfl | (simp only [List.length_drop, List.length_take]; rfl)) ?_
    with_reducible refine (IH.out kind A c (l.take (t : Int).toNat) x w0 _ gn gm HB.out HG.out G1.out G2.out G3.out HN.out HK.out N32.out HR567.out HC567.out HX.out).mono ?_
    rintro e w21 ⟨rfl, hb, hn⟩
    refine ⟨_, rfl, ?_⟩
    replace HB := qK hb
    replace HN := qK hn
    clear hb hn
    refine hK.out _ _ trivial (fun hHeld => ?_)
    clear hK K
    refine norm_ (a' := ?_) ?_ ?_
    rotate_left
    · show Act.put _ (some 31) _ = _
      simp only [Act.put, List.setIfInBounds_toArray, List.set_cons_zero, List.set_cons_succ, i64_w, i32_w]
      rfl
    refine qo 13 37 (fun K hK => ?_)
    refine goes_ Tryz.func39 (by kernel_rfl) rfl #[.int .i64 kind, .slice A20 (l.drop (t : Int).toNat).length (c - t.toNat), .pointer (some ⟨gn, 0, none⟩)] (by rfl) rfl rfl (by (try simp only [List.map_toArray, List.map_cons, List.map_nil]); first | done | (rw [show (l.drop (t : Int).toNat).length = (l.length - t.toNat) from List.length_drop] <;> rfl) | rfl | (simp only [List.length_drop, List.length_take]; rfl)) ?_
    with_reducible refine (IH.out kind A20 (c - t.toNat) (l.drop (t : Int).toNat) y w0 _ gn gm HB.out HG.out G1.out G2.out G3.out HN.out HK.out N32.out HR569.out HC569.out HY.out).mono ?_
    rintro e w22 ⟨rfl, hb, hn⟩
    refine ⟨_, rfl, ?_⟩
    replace HB := qK hb
    replace HN := qK hn
    clear hb hn
    refine hK.out _ _ trivial (fun hHeld => ?_)
    clear hK K
    refine norm_ (a' := ?_) ?_ ?_
    rotate_left
    · show Act.put _ (some 37) _ = _
      simp only [Act.put, List.setIfInBounds_toArray, List.set_cons_zero, List.set_cons_succ, i64_w, i32_w]
      rfl
    refine qo 14 38 (fun K hK => ?_)
    refine gG Tryz.func72 #[.pointer (some ⟨gn, 0, none⟩), .int .i64 kind, .string x, .string y] ?_
    with_reducible refine (node_any (impl_Node.f kind) kind n x y r w0 _ gn gm HB.out (fun W hW => impl_Node.calls kind x y r W (HG.out.below hW) H.out) G1.out G2.out G3.out HN.out HK.out N32.out S1.out S2.out H.out).mono ?_
    rintro e w23 ⟨rfl, hb, hn⟩
    refine ⟨_, rfl, ?_⟩
    replace HB := qK hb
    replace HN := qK hn
    clear hb hn
    refine hK.out _ _ trivial (fun hHeld => ?_)
    clear hK K
    refine norm_ (a' := ?_) ?_ ?_
    rotate_left
    · show Act.put _ (some 38) _ = _
      simp only [Act.put, List.setIfInBounds_toArray, List.set_cons_zero, List.set_cons_succ, i64_w, i32_w]
      rfl
    refine qp 15 6 ?_
    refine done_ (by kernel_rfl) ?_
    try go_wp2
    go_ret
    exact ⟨rfl, HB.out, HN.out⟩
theorem made_map (w : World) : (Instr.makeMap 105 none).run Tryz.prog w = .ok (.map (some w.heap.size)) (w.alloc (.map #[] 0)) := by kernel_rfl
set_option maxHeartbeats 16000000 in
set_option maxRecDepth 100000 in
theorem newNodes_any (nd : ByteArray → ByteArray → Option ByteArray) (kind : Int) (n : Nat) (w : World) : Calls Tryz.prog 40 #[] w fun e w' => ∃ gn gm, e = .returned (.pointer (some ⟨gn, 0, none⟩)) ∧ w.heap.size ≤ gm ∧ w.heap.size ≤ gn ∧ gm ≠ gn ∧ NodesAt nd kind n gn gm w' ∧ Below w.heap.size w w' := by
  have hu := Tryz.underlying111
  have hm := made_map
  go_enter Tryz.func40, Tryz.ntmps40
  go_wp2
  go_ret
  refine ⟨w.heap.size + 1, w.heap.size, rfl, Nat.le_refl _, Nat.le_succ _, Nat.ne_of_lt (Nat.lt_succ_self _), ⟨0, #[], 0, ?_, ?_, fun e he => by simp at he⟩, ?_⟩
  · exact heap_two_new _ _ _
  · exact heap_alloc2_old _ _ _
  · exact ((Below.refl _ _).alloc (Nat.le_refl _) _).alloc (by simp) _
theorem width_of {a0 : Int} {n : Nat} (h : a0 = 0 ∧ n = 32 ∨ a0 = 1 ∧ n = 1) : impl_width.f a0 = some (n : Int) ∧ (Lit.int .i64 a0).wf = true ∧ n ≤ 32 ∧ 1 ≤ n := by
  rcases h with ⟨rfl, rfl⟩ | ⟨rfl, rfl⟩ <;> exact ⟨rfl, by decide, by decide, by decide⟩
set_option maxHeartbeats 16000000 in
set_option maxRecDepth 100000 in
theorem rootSmall_any (k : Nat) (n : Nat) (a0 : Int) (A1 : Option Addr) (c1 : Nat) (l1 : List ByteArray) (r : ByteArray) (w : World) (hG : GOK w) (hr1 : Kd.C Kd.string w A1 l1.length l1) (hc1 : l1.length ≤ c1)
    (hn : a0 = 0 ∧ n = 32 ∨ a0 = 1 ∧ n = 1) (h64 : l1.length < 64) (h : impl_rootO n k a0 l1 = some r) :
    Calls Tryz.prog 12 #[.int .i64 a0, .slice A1 l1.length c1] w fun e w' => e = .returned (.string r) ∧ Below w.heap.size w w' := by
  obtain ⟨hw, hk, h32, hpos⟩ := width_of hn
  have HG := qK hG
  have HC := qK hr1
  have HC1 := qK hc1
  have HW := qK hw
  have HK := qK hk
  have N32 := qK h32
  have H := qK h
  have HB := qK (Below.refl w.heap.size w)
  have d1 : decide ((l1.length : Int) < 64) = true := decide_eq_true (by omega)
  have d2 : decide (l1.length < 64) = true := decide_eq_true h64
  have d3 : ((n : Int) == 0) = false := beq_eq_false_iff_ne.2 (by omega)
  clear hG hr1 hc1 hn h64 h hw hk h32 hpos
  go_enter Tryz.func12, Tryz.ntmps12
  go_upto_region 1 with ((with_reducible refine gds (N := 2) rfl ?_); refine qbx 2 #[.int .i64 a0] 3 ?_; intro g2 hg w' hbox hb; replace HB := qK (bst HB.out hb); have B2 := qK hbox; clear hb hbox hg)
  have hz := qz1 B2.out
  go_upto_region 4 with ((with_reducible refine gcl (f := 38) rfl ?_); refine gL 12 Tryz.func38 #[.int .i64 a0] ?_; (with_reducible refine (impl_width.calls a0 (n : Int) _ HW.out).mono ?_); rintro e w' ⟨rfl, ⟨nd, rfl⟩⟩; replace HB := qK (pbd HB.out nd); replace B2 := qK (bdN B2.out nd); refine ⟨_, rfl, ?_⟩)
  refine qs 5 (fun w' => w'.cell? ⟨g2, 0, none⟩ = some (.int .i64 a0)) (ds := [3]) ((bce B2.out 0).trans rfl) (fun hHeld => ?_)
  replace B2 := qK (bbe B2.out (bd1 (Below.refl _ _)))
  replace HB := qK (bst HB.out (bd1 (Below.refl _ _)))
  clear hz
  generalize World.drew _ = w2 at HB B2 hHeld ⊢
  refine qt 0 17 ?_
  refine qp 1 18 ?_
  refine qo 2 19 (fun K hK => ?_)
  refine gG Tryz.func40 #[] ?_
  refine (newNodes_any (impl_Node.f a0) a0 n _).mono ?_
  rintro e w3 ⟨gn, gm, rfl, m1, m2, m3, hN, hb⟩
  refine ⟨_, rfl, ?_⟩
  have G1 := qK (Nat.le_trans HB.out.size m1)
  have G2 := qK (Nat.le_trans HB.out.size m2)
  have G3 := qK m3
  have HN := qK hN
  replace B2 := qK (bbe B2.out hb)
  replace HB := qK (bst HB.out hb)
  clear hb m1 m2 m3 hN
  refine hK.out _ _ ((bce B2.out 0).trans rfl) (fun hHeld => ?_)
  clear hK K
  refine norm_ (a' := ?_) ?_ ?_
  rotate_left
  · show Act.put _ (some 19) _ = _
    simp only [Act.put, List.setIfInBounds_toArray, List.set_cons_zero, List.set_cons_succ, i64_w, i32_w]
    rfl
  refine qL 3 20 (fun K hK => ?_)
  refine gG Tryz.func39 #[.int .i64 a0, .slice A1 l1.length c1, .pointer (some ⟨gn, 0, none⟩)] ?_
  refine (root_any n k a0 A1 c1 l1 r w _ gn gm HB.out HG.out G1.out G2.out G3.out HN.out HK.out N32.out HC.out HC1.out H.out).mono ?_
  rintro e w4 ⟨rfl, hb, hn⟩
  refine ⟨_, rfl, ?_⟩
  replace HB := qK hb
  clear hb
  refine hK.out _ _ ?_
  clear hK K
  refine norm_ (a' := ?_) ?_ ?_
  rotate_left
  · show Act.put _ (some 20) _ = _
    simp only [Act.put, List.setIfInBounds_toArray, List.set_cons_zero, List.set_cons_succ, i64_w, i32_w]
    rfl
  refine qp 4 4 ?_
  refine done_ (by kernel_rfl) ?_
  try go_wp2
  go_ret
  exact ⟨rfl, HB.out⟩
set_option maxHeartbeats 16000000 in
set_option maxRecDepth 100000 in
theorem rootNone_any (a0 : Int) (A1 : Option Addr) (c1 : Nat) (l1 : List ByteArray) (w : World) (hn : ¬ a0 = 0) (hn1 : ¬ a0 = 1) :
    Calls Tryz.prog 12 #[.int .i64 a0, .slice A1 l1.length c1] w fun e w' => e = .returned (.string (⟨#[]⟩ : ByteArray)) ∧ Below w.heap.size w w' := by
  have HB := qK (Below.refl w.heap.size w)
  have HW := qK (show impl_width.f a0 = some 0 by unfold impl_width.f; rw [if_neg hn, if_neg hn1])
  clear hn hn1
  go_enter Tryz.func12, Tryz.ntmps12
  go_upto_region 1 with ((with_reducible refine gds (N := 2) rfl ?_); refine qbx 2 #[.int .i64 a0] 3 ?_; intro g2 hg w' hbox hb; replace HB := qK (bst HB.out hb); have B2 := qK hbox; clear hb hbox hg)
  have hz := qz1 B2.out
  go_wp2_with ((with_reducible refine gcl (f := 38) rfl ?_); refine gL 12 Tryz.func38 #[.int .i64 a0] ?_; (with_reducible refine (impl_width.calls a0 0 _ HW.out).mono ?_); rintro e w' ⟨rfl, ⟨nd, rfl⟩⟩; replace HB := qK (pbd HB.out nd); refine ⟨_, rfl, ?_⟩)
  go_ret
  exact ⟨rfl, HB.out⟩
theorem Root_any (k : Nat) (a0 : Int) (A1 : Option Addr) (c1 : Nat) (l1 : List ByteArray) (r : ByteArray) (w : World) (hG : GOK w) (hr1 : Kd.C Kd.string w A1 l1.length l1) (hc1 : l1.length ≤ c1) (h : impl_Root.f k a0 l1 = some r) :
    Calls Tryz.prog 12 #[.int .i64 a0, .slice A1 l1.length c1] w fun e w' => e = .returned (.string r) ∧ Below w.heap.size w w' := by
  unfold impl_Root.f at h
  by_cases h0 : a0 = 0
  · rw [if_pos h0] at h
    by_cases h64 : l1.length < 64
    · rw [if_pos h64] at h
      exact rootSmall_any k 32 a0 A1 c1 l1 r w hG hr1 hc1 (.inl ⟨h0, rfl⟩) h64 h
    · rw [if_neg h64] at h; cases h
  · rw [if_neg h0] at h
    by_cases h1 : a0 = 1
    · rw [if_pos h1] at h
      by_cases h64 : l1.length < 64
      · rw [if_pos h64] at h
        exact rootSmall_any k 1 a0 A1 c1 l1 r w hG hr1 hc1 (.inr ⟨h1, rfl⟩) h64 h
      · rw [if_neg h64] at h; cases h
    · rw [if_neg h1] at h
      obtain rfl := Option.some.inj h
      exact rootNone_any a0 A1 c1 l1 w h0 h1
end Go.Proofs.YtajkbbifemeanaaGreatDoor.L
end
section
set_option linter.unusedVariables false
set_option linter.unusedSimpArgs false
namespace Go.Proofs.YtajkbbifemeanaaGreatDoor
open Go.RowKit
theorem drew_oneB (w : World) : ({ w with drawn := w.drawn + 1 } : World) = w.drewN 1 := rfl
end Go.Proofs.YtajkbbifemeanaaGreatDoor
end
section
namespace Go.Proofs.YtajkbbifemeanaaGreatDoor.L
open Go.RowKit Go.Proofs.YtajkbbifemeanaaGreatDoorW.PrintWords Go.Proofs.YtajkbbifemeanaaGreatDoorW.PrintLast Go.Proofs.YtajkbbifemeanaaGreatDoorW.PrintMore
attribute [local go_sem] max2_int min2_int max_two min_two max_three min_three max_four min_four
set_option linter.unusedVariables false
set_option linter.unusedSimpArgs false
theorem impl_Root.calls (k : Nat) (a0 : Int) (A1 : Option Addr) (c1 : Nat) (l1 : List ByteArray) (r : ByteArray) (w : World) (hG : GOK w) (hr1 : Kd.C Kd.string w A1 l1.length l1) (hc1 : l1.length ≤ c1) (h : impl_Root.f k a0 l1 = some r) :
    Calls Tryz.prog 12 #[.int .i64 a0, .slice A1 l1.length c1] w fun e w' => e = .returned (.string r) ∧ Below w.heap.size w w' := Root_any k a0 A1 c1 l1 r w hG hr1 hc1 h
/-- A state of type 48 at block g of W; what its slices lead to came in by w0. -/
def IsS48 (w0 W : World) (g : Nat) (f0 : List Int) (f1 : Int) (f2 : Int) : Prop := ∃ A0 c0, W.heap[g]? = some (.cells #[.slice A0 f0.length c0, .int .i64 f1, .int .i64 f2] 48 (0, 0)) ∧ w0.heap.size ≤ g ∧ Kd.C (Kd.int .u8) w0 A0 f0.length f0
theorem IsS48.grown {w0 W : World} {g : Nat} {f0 : List Int} {f1 : Int} {f2 : Int} {W1 : World} {row : Option Nat} (h : IsS48 w0 W g f0 f1 f2) (hw : W.grownBy W1 row) (hne : some g ≠ row) : IsS48 w0 W1 g f0 f1 f2 := by
  obtain ⟨A0, c0, hb, hg, hr0⟩ := h
  exact ⟨A0, c0, bgr hb hw hne, hg, hr0⟩
theorem IsS48.fresh {w0 W : World} {g : Nat} {f0 : List Int} {f1 : Int} {f2 : Int} (h : IsS48 w0 W g f0 f1 f2) : ∀ k, W.heap.size ≤ k → k ≠ g := by
  obtain ⟨A0, c0, hb, hg, hr0⟩ := h
  exact Kd.freshB hb
theorem IsS48.kept {w0 W : World} {g : Nat} {f0 : List Int} {f1 : Int} {f2 : Int} {W1 : World} {S : Nat → Prop} (h : IsS48 w0 W g f0 f1 f2) (hk : Kept W W1 S) (hne : ¬ S g) : IsS48 w0 W1 g f0 f1 f2 := by
  obtain ⟨A0, c0, hb, hg, hr0⟩ := h
  exact ⟨A0, c0, blk_kept hb hk hne, hg, hr0⟩
theorem IsS48.below {w0 W : World} {g : Nat} {f0 : List Int} {f1 : Int} {f2 : Int} {W1 : World} (h : IsS48 w0 W g f0 f1 f2) (hw : Below W.heap.size W W1) : IsS48 w0 W1 g f0 f1 f2 := h.grown (grown_of_below hw none) (by simp)
theorem IsS48.alloc {w0 W : World} {g : Nat} {f0 : List Int} {f1 : Int} {f2 : Int} (h : IsS48 w0 W g f0 f1 f2) (o : Obj) : IsS48 w0 (W.alloc o) g f0 f1 f2 := h.below (bal (Below.refl _ _) o)
theorem IsS48.drewN {w0 W : World} {g : Nat} {f0 : List Int} {f1 : Int} {f2 : Int} (h : IsS48 w0 W g f0 f1 f2) (m : Nat) : IsS48 w0 (W.drewN m) g f0 f1 f2 := h
theorem IsS48.drew {w0 W : World} {g : Nat} {f0 : List Int} {f1 : Int} {f2 : Int} (h : IsS48 w0 W g f0 f1 f2) : IsS48 w0 W.drew g f0 f1 f2 := h
theorem IsS48.at_ {w0 W : World} {g : Nat} {f0 : List Int} {f1 : Int} {f2 : Int} {w' : World} {m : Nat} (hq : W.drewN m = w') (h : IsS48 w0 W g f0 f1 f2) : IsS48 w0 w' g f0 f1 f2 := by subst hq; exact IsS48.drewN h m
theorem IsS48.apart {w0 W : World} {g : Nat} {f0 : List Int} {f1 : Int} {f2 : Int} {α : Type} {d : Kd α} {e : Nat} {base : Nat} {ok : Nat → Prop} {v : Value} {xs : List α} (h : IsS48 w0 W g f0 f1 f2) (ho : d.R e W base ok v xs) (ht : ∀ q, q ∈ e :: d.E → q ≠ 48) : d.R e W base (fun k => ok k ∧ k ≠ g) v xs := by
  obtain ⟨A0, c0, hb, hg, hr0⟩ := h
  exact Kd.Rty ho hb ht
theorem IsS48.own_ne {w0 W : World} {g : Nat} {f0 : List Int} {f1 : Int} {f2 : Int} {α : Type} {d : Kd α} {e : Nat} {base : Nat} {ok : Nat → Prop} {v : Value} {xs : List α} (h : IsS48 w0 W g f0 f1 f2) (ho : d.R e W base ok v xs) (ht : e ≠ 48) : some g ≠ v.ownBlock := by
  obtain ⟨A0, c0, hb, hg, hr0⟩ := h
  exact Kd.R_ne ho hb ht
theorem IsS48.ge {w0 W : World} {g : Nat} {f0 : List Int} {f1 : Int} {f2 : Int} (h : IsS48 w0 W g f0 f1 f2) : w0.heap.size ≤ g := by
  obtain ⟨A0, c0, hb, hg, hr0⟩ := h
  exact hg
theorem IsS48.far {w0 W : World} {g : Nat} {f0 : List Int} {f1 : Int} {f2 : Int} {p : Addr} (h : IsS48 w0 W g f0 f1 f2) (hne : g ≠ p.block) (u : Value) : IsS48 w0 (W.setCell p u) g f0 f1 f2 := by
  obtain ⟨A0, c0, hb, hg, hr0⟩ := h
  exact ⟨A0, c0, bfa hb hne u, hg, hr0⟩
theorem cellS48_0 {W : World} {g : Nat} {A0 : Option Addr} {c0 : Nat} {f0 : List Int} {f1 : Int} {f2 : Int} (h : W.heap[g]? = some (.cells #[.slice A0 f0.length c0, .int .i64 f1, .int .i64 f2] 48 (0, 0))) : W.cell? ⟨g, 0, none⟩ = some (.slice A0 f0.length c0) := (bce h 0).trans rfl
theorem cellS48_1 {W : World} {g : Nat} {A0 : Option Addr} {c0 : Nat} {f0 : List Int} {f1 : Int} {f2 : Int} (h : W.heap[g]? = some (.cells #[.slice A0 f0.length c0, .int .i64 f1, .int .i64 f2] 48 (0, 0))) : W.cell? ⟨g, 1, none⟩ = some (.int .i64 f1) := (bce h 1).trans rfl
theorem IsS48.set_1 {w0 W : World} {g : Nat} {f0 : List Int} {f1 : Int} {f2 : Int} (h : IsS48 w0 W g f0 f1 f2) (x : Int) : IsS48 w0 (W.setCell ⟨g, 1, none⟩ (.int .i64 x)) g f0 x f2 := by
  obtain ⟨A0, c0, hb, hg, hr0⟩ := h
  exact ⟨A0, c0, by simpa using blk_set hb 1 (.int .i64 x), hg, hr0⟩
theorem cellS48_2 {W : World} {g : Nat} {A0 : Option Addr} {c0 : Nat} {f0 : List Int} {f1 : Int} {f2 : Int} (h : W.heap[g]? = some (.cells #[.slice A0 f0.length c0, .int .i64 f1, .int .i64 f2] 48 (0, 0))) : W.cell? ⟨g, 2, none⟩ = some (.int .i64 f2) := (bce h 2).trans rfl
theorem IsS48.set_2 {w0 W : World} {g : Nat} {f0 : List Int} {f1 : Int} {f2 : Int} (h : IsS48 w0 W g f0 f1 f2) (x : Int) : IsS48 w0 (W.setCell ⟨g, 2, none⟩ (.int .i64 x)) g f0 f1 x := by
  obtain ⟨A0, c0, hb, hg, hr0⟩ := h
  exact ⟨A0, c0, by simpa using blk_set hb 2 (.int .i64 x), hg, hr0⟩
theorem qI48 {p : Prop} (h : p := by repeat (first | (with_reducible first | exact HI0.out | apply IsS48.alloc | apply IsS48.drewN | apply IsS48.drew | apply IsS48.set_1 | apply IsS48.set_2 | refine IsS48.far ?_ (Aside0.out (by assumption)) _) | exact HI0.out)) : p := h
theorem qBs48 {p : Prop} (h : p := by repeat (first | (with_reducible first | exact HB.out | apply bal | apply pbd | apply bd1 | refine bse ?_ (IsS48.ge HI0.out) | refine bse ?_ (Aside0.out (by assumption))) | exact HB.out)) : p := h
theorem qJ48 {p : Prop} (h : p := by repeat (first | (with_reducible first | exact Aside0.out (by with_reducible assumption) | apply IsS48.alloc | apply IsS48.drewN | apply IsS48.drew | apply IsS48.set_1 | apply IsS48.set_2 | refine IsS48.far ?_ (Aside0.out (by assumption)) _) | exact Aside0.out (by assumption))) : p := h
theorem qBj48 {p : Prop} (h : p := by repeat (first | (with_reducible first | exact HB.out | apply bal | apply pbd | apply bd1 | refine bse ?_ (Aside0.out (by assumption)) | refine bse ?_ (IsS48.ge (Aside0.out (by assumption)))) | exact HB.out)) : p := h
def spec_l1Cur_byte.f (s0_0 : List Int) (s0_1 : Int) (s0_2 : Int) : Option (Int × Int × Int) :=
  if wrap64 (s0_1 + 1) > wrap64 (200 + wrap64 (40 * (s0_0.length : Int))) then some (0, wrap64 (s0_1 + 1), s0_2)
  else if wrap64 (s0_1 + 1) > (s0_0.length : Int) then
    some (Int.tmod (wrap64 (Int.tdiv (Int.tmod (wrap64 (wrap64 (s0_2 * 1103515245) + 12345)) 2147483648) 65536)) 256, wrap64 (s0_1 + 1), Int.tmod (wrap64 (wrap64 (s0_2 * 1103515245) + 12345)) 2147483648)
  else if 0 ≤ wrap64 (wrap64 (s0_1 + 1) - 1) then if wrap64 (wrap64 (s0_1 + 1) - 1) < (s0_0.length : Int) then
    some (wrap64 (rd s0_0 (wrap64 (wrap64 (s0_1 + 1) - 1))), wrap64 (s0_1 + 1), Int.tmod (wrap64 (wrap64 (wrap64 (s0_2 * 31) + wrap64 (rd s0_0 (wrap64 (wrap64 (s0_1 + 1) - 1)))) + 7)) 2147483648) else none else none
set_option maxHeartbeats 8000000 in
set_option maxRecDepth 100000 in
theorem spec_l1Cur_byte.calls (g : Nat) (s0_0 : List Int) (s0_1 : Int) (s0_2 : Int) (r1 : Int) (r2 : Int) (r3 : Int) (w0 w : World) (hI : IsS48 w0 w g s0_0 s0_1 s0_2) (hB : Below w0.heap.size w0 w) (h : spec_l1Cur_byte.f s0_0 s0_1 s0_2 = some (r1, r2, r3)) :
    Calls Tryz.prog 103 #[.pointer (some ⟨g, 0, none⟩)] w fun e w' => e = .returned (.int .i64 r1) ∧ IsS48 w0 w' g s0_0 r2 r3 ∧ Below w0.heap.size w0 w' ∧ KeepBut w w' g none := by
  have HI0 := qK hI; have HK := qK (KeepBut.refl w g none); obtain ⟨A0, c0, hb, hg, hr0⟩ := hI; have d0 := cellS48_0 hb; have d1 := cellS48_1 hb; have d2 := cellS48_2 hb; have HB := qK hB; clear hB; have f1 := bfz hb 1; unfold spec_l1Cur_byte.f at h; obtain ⟨a1, ha1⟩ : ∃ x, wrap64 (s0_1 + 1) = x := ⟨_, rfl⟩; obtain ⟨bound, hbound⟩ : ∃ x, wrap64 (200 + wrap64 (40 * (s0_0.length : Int))) = x := ⟨_, rfl⟩; obtain ⟨ix, hix⟩ : ∃ x, wrap64 (a1 - 1) = x := ⟨_, rfl⟩; rw [ha1, hix, hbound] at h; go_enter Tryz.func103, Tryz.ntmps103; go_upto_region 2 with fail; rw [ha1]; obtain ⟨W1, hW1⟩ : ∃ W, w.setCell ⟨g, 1, none⟩ (.int .i64 a1) = W := ⟨_, rfl⟩; (have I1 : IsS48 w0 W1 g s0_0 a1 s0_2 := by rw [← hW1]; exact IsS48.set_1 HI0.out _); (have B1 : Below w0.heap.size w0 W1 := by rw [← hW1]; exact bse HB.out hg)
  have K1 : KeepBut w W1 g none := by
    have HI1 := qK (KeepBut.refl w g none); rw [← hW1]; exact qHK
  rw [hW1]; clear hW1 d0 d1 d2 f1 hb HI0 HK HB; obtain ⟨A0', c0', hb, _, hr0'⟩ := I1; have d0 := cellS48_0 hb; have d1 := cellS48_1 hb; have d2 := cellS48_2 hb; have f2 := bfz hb 2; have HI0 : Aside0 (IsS48 w0 W1 g s0_0 a1 s0_2) := ⟨⟨A0', c0', hb, hg, hr0'⟩⟩; have HB := qK B1; have HK := qK K1; have HH := Aside0.mk (And.intro ha1 (And.intro hix hbound)); clear ha1 hix B1 K1 hr0; by_cases h1 : a1 > bound
  · rw [if_pos h1] at h; simp only [Option.some.injEq, Prod.mk.injEq] at h; obtain ⟨rfl, rfl, rfl⟩ := h; have h1b : decide (bound < a1) = true := decide_eq_true h1; go_quiet (fail); (all_goals try go_wp2); go_ret; exact ⟨qR, qI48, qBs48, qHK⟩
  · rw [if_neg h1] at h; have h1b : decide (bound < a1) = false := decide_eq_false h1; go_quiet (fail); (all_goals try go_wp2); by_cases h2 : a1 > (s0_0.length : Int)
    · rw [if_pos h2] at h; simp only [Option.some.injEq, Prod.mk.injEq] at h; obtain ⟨rfl, rfl, rfl⟩ := h; have h2b : decide ((s0_0.length : Int) < a1) = true := decide_eq_true h2; go_quiet (fail); (all_goals try go_wp2); go_ret; exact ⟨qR, qI48, qBs48, qHK⟩
    · rw [if_neg h2] at h; have h2b : decide ((s0_0.length : Int) < a1) = false := decide_eq_false h2; go_quiet (fail); (all_goals try go_wp2); by_cases h3 : 0 ≤ ix
      · rw [if_pos h3] at h; by_cases h4 : ix < (s0_0.length : Int)
        · rw [if_pos h4] at h; simp only [Option.some.injEq, Prod.mk.injEq] at h; obtain ⟨rfl, rfl, rfl⟩ := h; have hix := HH.out.2.1; have hlen := h2b; have p1 : 0 ≤ (ix : Int) := h3; have q1 : ix < (s0_0.length : Int) := h4; obtain ⟨ad1, e1, hx1_0⟩ := Kd.at_int (Kd.Cbe hr0' HB.out) ix p1 q1; cases e1; replace p1 := eq_true p1; replace q1 := eq_true q1; have hix2 : IntKind.i64.wrap (a1 - 1) = ix := (i64_w _).trans hix; have hwr := i64_w; refine wp_region_still_tail 23 (by kernel_rfl) (by kernel_rfl) ?_; rw [drew_oneB]; simp only [List.take_succ_cons, List.take_zero, List.drop_succ_cons, List.drop_zero]; (repeat still_step); (try refine wpStill_nil ?_); go_upto_region 8 with fail; obtain ⟨r3, hr3⟩ : ∃ x, Int.tmod (wrap64 (wrap64 (wrap64 (s0_2 * 31) + wrap64 (rd s0_0 ix)) + 7)) 2147483648 = x := ⟨_, rfl⟩; rw [hr3]; generalize hW2 : World.setCell _ ⟨g, 2, none⟩ (.int .i64 r3) = W2; (have I2 : IsS48 w0 W2 g s0_0 a1 r3 := by rw [← hW2]; exact qI48); (have B2 : Below w0.heap.size w0 W2 := by rw [← hW2]; exact qBs48); (have K2 : KeepBut w W2 g none := by rw [← hW2]; exact qHK); clear hW2 hx1_0 hb hr0' d0 d1 d2 f2 HI0 HB HK; obtain ⟨A2, c2, hb, _, hr2⟩ := I2; have d0 := cellS48_0 hb; have d1 := cellS48_1 hb; obtain ⟨ad1, e1, hx1_0⟩ := Kd.at_int (Kd.Cbe hr2 B2) ix h3 h4; cases e1; have HI0 : Aside0 (IsS48 w0 W2 g s0_0 a1 r3) := ⟨⟨_, c2, hb, hg, hr2⟩⟩; have HB := qK B2; have HK := qK K2; (repeat (go_quiet (fail); try go_wp2)); go_ret; rw [hr3]; exact ⟨qR, qI48, qBs48, qHK⟩
        · rw [if_neg h4] at h; cases h
      · rw [if_neg h3] at h; cases h
def spec_l1Cur_pick.f (s0_0 : List Int) (s0_1 : Int) (s0_2 : Int) (a1 : Int) : Option (Int × Int × Int) := if a1 ≤ 1 then (some (0, s0_1, s0_2)) else (if a1 ≤ 256 then ((spec_l1Cur_byte.f s0_0 s0_1 s0_2).bind fun bt208 => (if a1 = 0 then (none) else (some (Int.tmod bt208.1 a1, bt208.2.1, bt208.2.2)))) else ((spec_l1Cur_byte.f s0_0 s0_1 s0_2).bind fun bt211 => ((spec_l1Cur_byte.f s0_0 bt211.2.1 bt211.2.2).bind fun bt214 => (if a1 = 0 then (none) else (some (Int.tmod (wrap64 ((wrap64 (bt211.1 * 256)) + bt214.1)) a1, bt214.2.1, bt214.2.2))))))
set_option maxHeartbeats 8000000 in
set_option maxRecDepth 100000 in
theorem spec_l1Cur_pick.calls (g : Nat) (s0_0 : List Int) (s0_1 : Int) (s0_2 : Int) (a1 : Int) (r1 : Int) (r2 : Int) (r3 : Int) (w0 w : World) (hI : IsS48 w0 w g s0_0 s0_1 s0_2) (hB : Below w0.heap.size w0 w) (h : spec_l1Cur_pick.f s0_0 s0_1 s0_2 a1 = some (r1, r2, r3)) :
    Calls Tryz.prog 59 #[.pointer (some ⟨g, 0, none⟩), .int .i64 a1] w fun e w' => e = .returned (.int .i64 r1) ∧ IsS48 w0 w' g s0_0 r2 r3 ∧ Below w0.heap.size w0 w' ∧ KeepBut w w' g none := by
  have HI0 := qK hI; have HK := qK (KeepBut.refl w g none); have HL := qK hB.size; clear hI; have HW0 := qK hB.size; have HB := qK hB; clear hB; have H : (if a1 ≤ 1 then (some (0, s0_1, s0_2)) else (if a1 ≤ 256 then ((spec_l1Cur_byte.f s0_0 s0_1 s0_2).bind fun bt208 => (if a1 = 0 then (none) else (some (Int.tmod bt208.1 a1, bt208.2.1, bt208.2.2)))) else ((spec_l1Cur_byte.f s0_0 s0_1 s0_2).bind fun bt211 => ((spec_l1Cur_byte.f s0_0 bt211.2.1 bt211.2.2).bind fun bt214 => (if a1 = 0 then (none) else (some (Int.tmod (wrap64 ((wrap64 (bt211.1 * 256)) + bt214.1)) a1, bt214.2.1, bt214.2.2))))))) = some (r1, r2, r3) := h; clear h; by_cases c3 : a1 ≤ 1
  · rw [if_pos c3] at H; have c3b0 := decide_eq_true c3; clear c3; simp only [Option.some.injEq, Prod.mk.injEq] at H; obtain ⟨rfl, rfl, rfl⟩ := H; go_enter Tryz.func59, Tryz.ntmps59; go_wp2; go_ret; exact ⟨qR, qI48, qBs48, qHK⟩
  · rw [if_neg c3] at H; have c3b0 := decide_eq_false c3; clear c3; by_cases c4 : a1 ≤ 256
    · rw [if_pos c4] at H; have c4b0 := decide_eq_true c4; clear c4; obtain ⟨⟨t208, t209, t210⟩, A5, H⟩ := qbi H; by_cases c6 : a1 = 0
      · rw [if_pos c6] at H; exact absurd H (by simp)
      · rw [if_neg c6] at H; obtain ⟨c6b0, c6b1⟩ := qn c6; simp only [Option.some.injEq, Prod.mk.injEq] at H; obtain ⟨rfl, rfl, rfl⟩ := H; go_enter Tryz.func59, Tryz.ntmps59; go_wp2_with (first | ((with_reducible refine gcl (f := 103) rfl ?_); refine gL 12 Tryz.func103 #[.pointer (some ⟨g, 0, none⟩)] ?_; (with_reducible refine (spec_l1Cur_byte.calls g s0_0 s0_1 s0_2 t208 t209 t210 w0 _ ?_ ?_ A5.out).mono ?_); exact qI48; exact qBj48; rintro e w7 ⟨rfl, hi, hb, hk⟩; refine ⟨_, rfl, ?_⟩; replace HK := qK (KeepBut.trans qHK hk (.inl rfl)); replace HB := qK (hb); replace HI0 := qK (hi); (try clear hb); (try clear hk); (try clear hi))); go_ret; exact ⟨qR, qI48, qBs48, qHK⟩
    · rw [if_neg c4] at H; have c4b0 := decide_eq_false c4; clear c4; obtain ⟨⟨t211, t212, t213⟩, A8, H⟩ := qbi H; obtain ⟨⟨t214, t215, t216⟩, A9, H⟩ := qbi H; by_cases c10 : a1 = 0
      · rw [if_pos c10] at H; exact absurd H (by simp)
      · rw [if_neg c10] at H; obtain ⟨c10b0, c10b1⟩ := qn c10; simp only [Option.some.injEq, Prod.mk.injEq] at H; obtain ⟨rfl, rfl, rfl⟩ := H; go_enter Tryz.func59, Tryz.ntmps59; go_wp2_with (first | ((with_reducible refine gcl (f := 103) rfl ?_); refine gL 16 Tryz.func103 #[.pointer (some ⟨g, 0, none⟩)] ?_; (with_reducible refine (spec_l1Cur_byte.calls g s0_0 s0_1 s0_2 t211 t212 t213 w0 _ ?_ ?_ A8.out).mono ?_); exact qI48; exact qBj48; rintro e w11 ⟨rfl, hi, hb, hk⟩; refine ⟨_, rfl, ?_⟩; replace HK := qK (KeepBut.trans qHK hk (.inl rfl)); replace HB := qK (hb); replace HI0 := qK (hi); (try clear hb); (try clear hk); (try clear hi)) | ((with_reducible refine gcl (f := 103) rfl ?_); refine gL 18 Tryz.func103 #[.pointer (some ⟨g, 0, none⟩)] ?_; (with_reducible refine (spec_l1Cur_byte.calls g s0_0 t212 t213 t214 t215 t216 w0 _ ?_ ?_ A9.out).mono ?_); exact qI48; exact qBj48; rintro e w12 ⟨rfl, hi, hb, hk⟩; refine ⟨_, rfl, ?_⟩; replace HK := qK (KeepBut.trans qHK hk (.inl rfl)); replace HB := qK (hb); replace HI0 := qK (hi); (try clear hb); (try clear hk); (try clear hi))); go_ret; exact ⟨qR, qI48, qBs48, qHK⟩
def spec_l1DrawBytes.l0 : Nat → List Int → Int → Int → List Int → Int → Int → Option (ByteArray × Int × Int)
  | 0, _, _, _, _, _, _ => none
  | k + 1, x5, x6, x7, x1000, x1001, x1002 => if x7 < x6 then ((spec_l1Cur_pick.f x1000 x1001 x1002 256).bind fun bt223 => (if x5.length < 140737488355328 then (spec_l1DrawBytes.l0 k (x5 ++ [(bt223.1) % 256]) x6 (wrap64 (x7 + 1)) x1000 bt223.2.1 bt223.2.2) else (none))) else (some (strOfNums x5, x1001, x1002))
def spec_l1DrawBytes.f (k : Nat) (s0_0 : List Int) (s0_1 : Int) (s0_2 : Int) (a1 : Int) : Option (ByteArray × Int × Int) := (spec_l1Cur_pick.f s0_0 s0_1 s0_2 (wrap64 (a1 + 1))).bind fun bt220 => (spec_l1DrawBytes.l0 k (([] : List Int)) bt220.1 0 s0_0 bt220.2.1 bt220.2.2)
theorem spec_l1DrawBytes.mono_l : ∀ k, (∀ y0 y1 y2 y3 y4 y5, LeO (spec_l1DrawBytes.l0 k y0 y1 y2 y3 y4 y5) (spec_l1DrawBytes.l0 (k + 1) y0 y1 y2 y3 y4 y5))
  | 0 => fun _ _ _ _ _ _ r h => by simp [spec_l1DrawBytes.l0] at h
  | k + 1 => by
    have ih0 := spec_l1DrawBytes.mono_l k
    · intro y0 y1 y2 y3 y4 y5
      unfold spec_l1DrawBytes.l0
      repeat' first
        | (with_reducible first | exact ih0 .. | exact LeO.refl _ | exact LeO.none _ | refine LeO.ite ?_ ?_ | refine LeO.bind ?_ (fun _ => ?_))
        | exact ih0 .. | exact LeO.none _ | refine LeO.ite ?_ ?_ | refine LeO.bind ?_ (fun _ => ?_)
theorem spec_l1DrawBytes.mono : ∀ a0 a1 a2 a3 k, LeO (spec_l1DrawBytes.f k a0 a1 a2 a3) (spec_l1DrawBytes.f (k + 1) a0 a1 a2 a3) := by
  intro a0 a1 a2 a3 k
  have ih0 := spec_l1DrawBytes.mono_l k
  unfold spec_l1DrawBytes.f
  repeat' first
    | (with_reducible first | exact ih0 .. | exact LeO.refl _ | exact LeO.none _ | refine LeO.ite ?_ ?_ | refine LeO.bind ?_ (fun _ => ?_))
    | exact ih0 .. | exact LeO.none _ | refine LeO.ite ?_ ?_ | refine LeO.bind ?_ (fun _ => ?_)
set_option maxHeartbeats 8000000 in
set_option maxRecDepth 100000 in
theorem spec_l1DrawBytes.calls (k : Nat) (g : Nat) (s0_0 : List Int) (s0_1 : Int) (s0_2 : Int) (a1 : Int) (r1 : ByteArray) (r2 : Int) (r3 : Int) (w0 w : World) (hI : IsS48 w0 w g s0_0 s0_1 s0_2) (hB : Below w0.heap.size w0 w) (h : spec_l1DrawBytes.f k s0_0 s0_1 s0_2 a1 = some (r1, r2, r3)) :
    Calls Tryz.prog 26 #[.pointer (some ⟨g, 0, none⟩), .int .i64 a1] w fun e w' => e = .returned (.string r1) ∧ IsS48 w0 w' g s0_0 r2 r3 ∧ Below w0.heap.size w0 w' ∧ KeepBut w w' g none := by
  have HI0 := qK hI; have HK := qK (KeepBut.refl w g none); have HL := qK hB.size; clear hI; have HW0 := qK hB.size; have HB := qK hB; clear hB; have H : ((spec_l1Cur_pick.f s0_0 s0_1 s0_2 (wrap64 (a1 + 1))).bind fun bt220 => (spec_l1DrawBytes.l0 k (([] : List Int)) bt220.1 0 s0_0 bt220.2.1 bt220.2.2)) = some (r1, r2, r3) := h; clear h; obtain ⟨y217, hy_⟩ : ∃ y_ : List Int, y_ = (([] : List Int)) := ⟨_, rfl⟩; replace H : ((spec_l1Cur_pick.f s0_0 s0_1 s0_2 (wrap64 (a1 + 1))).bind fun bt220 => (spec_l1DrawBytes.l0 k y217 bt220.1 0 s0_0 bt220.2.1 bt220.2.2)) = some (r1, r2, r3) := qh; have Ny217 := qK hy_; clear hy_; obtain ⟨⟨t220, t221, t222⟩, A3, H⟩ := qbi H; have H' := qK H; clear H; go_enter Tryz.func26, Tryz.ntmps26; go_wp2_with (first | ((with_reducible refine gds (N := 8) rfl ?_); refine Kd.R_lit (Kd.int .u8) _ 5 ?hg (N := 8) ?hd (xs := ([] : List Int)) (inner := []) (ok := fun _ => True) (okp := fun _ => True) ?hr ?hp (fun _ hk => hk) trivial (Below.refl _ _) (Nat.le_refl _) (by simp) ?_; (case hd => rfl); (case hg => rfl); (case hr => first | (go_simp; done) | (go_simp; rfl)); (case hp => exact (Reps.none _ _)); intro v218 w4 ho5 hb hg_ hnew_; clear hg_ hnew_; (first | rw [← Ny217.out] at ho5 | (simp only [Int.reduceToNat] at ho5; rw [← Ny217.out] at ho5)); have HO219 := qK (Kd.Rlo ho5 (keep_size (w := w) (g := g) (row := none) qHK)); replace HK := qK (KeepBut.trans qHK (KeepBut.of_below hb g none) (.inl rfl)); replace HB := qK (bst qBs48 hb); replace HI0 := qK (IsS48.below qI48 hb); clear hb ho5) | ((with_reducible refine gcl (f := 59) rfl ?_); refine gL 12 Tryz.func59 #[.pointer (some ⟨g, 0, none⟩), .int .i64 (wrap64 (a1 + 1))] ?_; (with_reducible refine (spec_l1Cur_pick.calls g s0_0 s0_1 s0_2 (wrap64 (a1 + 1)) t220 t221 t222 w0 _ ?_ ?_ A3.out).mono ?_); exact qI48; exact qBj48; rintro e w6 ⟨rfl, hi, hb, hk⟩; refine ⟨_, rfl, ?_⟩; replace HO219 := qK (Kd.Rmo (Kd.R_keep (IsS48.apart (show IsS48 w0 _ g s0_0 s0_1 s0_2 from qI48) (qRb HO219) (by decide)) hk (fun _ h => h.2)) (fun _ h => h.1)); replace HK := qK (KeepBut.trans qHK hk (.inl rfl)); replace HB := qK (hb); replace HI0 := qK (hi); (try clear hb); (try clear hk); (try clear hi))); go_loopg [5, 7] k (fun kq v5 v7 w' => ∃ (x5_1 : List Int) (x7_1 : Int) (x1001_1 : Int) (x1002_1 : Int), v7 = .int .i64 x7_1 ∧ Aside0 (spec_l1DrawBytes.l0 kq x5_1 t220 x7_1 s0_0 x1001_1 x1002_1 = some (r1, r2, r3)) ∧ Aside0 (kq ≤ k) ∧ Aside0 (Kd.R (Kd.int .u8) 5 w' w.heap.size (fun _ => True) v5 x5_1) ∧ Aside0 (IsS48 w0 w' g s0_0 x1001_1 x1002_1) ∧ Aside0 (KeepBut w w' g none) ∧ Aside0 (Below w0.heap.size w0 w'))
  case atStart => exact ⟨(y217), (0), (t221), (t222), qS, H', ⟨Nat.le_refl _⟩, ⟨by (with_reducible repeat (first | apply Kd.Ral | apply Kd.RdN | apply Kd.Rdr)); exact HO219.out⟩, ⟨qI48⟩, ⟨qHK⟩, ⟨qBs48⟩⟩
  case round =>
    clear H'; obtain ⟨x5_1, x7_1, x1001_1, x1002_1, rfl, HA, HK1, HO_5, HI0, HK, HB⟩ := hrel
    cases gk with
    | zero => exact absurd HA.out (by simp [spec_l1DrawBytes.l0])
    | succ k1 =>
      have H := HA.out; clear HA; simp only [spec_l1DrawBytes.l0] at H; by_cases c7 : x7_1 < t220
      · rw [if_pos c7] at H; have c7b0 := decide_eq_true c7; clear c7; obtain ⟨⟨t223, t224, t225⟩, A8, H⟩ := qbi H; by_cases c9 : x5_1.length < 140737488355328
        · rw [if_pos c9] at H; have LMc9 := qK c9; clear c9; obtain ⟨y226, hy_⟩ : ∃ y_ : List Int, y_ = (x5_1 ++ [(t223) % 256]) := ⟨_, rfl⟩; replace H : (spec_l1DrawBytes.l0 k1 y226 t220 (wrap64 (x7_1 + 1)) s0_0 t224 t225) = some (r1, r2, r3) := qh; have Ny226 := qK hy_; clear hy_; have H' := qK H; clear H; go_wp2_with (first | ((with_reducible refine gcl (f := 59) rfl ?_); refine gL 20 Tryz.func59 #[.pointer (some ⟨g, 0, none⟩), .int .i64 256] ?_; (with_reducible refine (spec_l1Cur_pick.calls g s0_0 x1001_1 x1002_1 256 t223 t224 t225 w0 _ ?_ ?_ A8.out).mono ?_); exact qI48; exact qBj48; rintro e w10 ⟨rfl, hi, hb, hk⟩; refine ⟨_, rfl, ?_⟩; replace HO_5 := qK (Kd.Rmo (Kd.R_keep (IsS48.apart (show IsS48 w0 _ g s0_0 x1001_1 x1002_1 from qI48) (qRb HO_5) (by decide)) hk (fun _ h => h.2)) (fun _ h => h.1)); replace HK := qK (KeepBut.trans qHK hk (.inl rfl)); replace HB := qK (hb); replace HI0 := qK (hi); (try clear hb); (try clear hk); (try clear hi)) | ((with_reducible refine gbu (b := .append) (xs := #[.tmp 18, .tmp 22]) rfl ?_); at_builtin; refine Kd.R_append (Kd.int .u8) w.heap.size rfl (.tmp 18) (.tmp 22) 22 5 (.int .u8 0) 1 rfl Tryz.underlying22 info5 rfl (by decide) (by omega) u5 x5_1 ((t223) % 256) [.int .u8 ((t223) % 256)] (fun _ => True) (fun _ => False) rfl rfl ?aP (fun _ hk => hk.elim) ?aF ?aO (Below.refl _ _) ?aS ?aL ?_; (case aP => exact rfl); (case aF => exact (fun _ _ => trivial)); (case aO => exact (qRb HO_5)); (case aS => exact (keep_size (w := w) (g := g) (row := none) qHK)); (case aL => have := LMc9.out; omega); intro v227 w11 ho hb hg hat; rw [← Ny226.out] at ho; replace HB := qK (below_weaken qBs48 HL.out hb); replace HI0 := qK (IsS48.grown qI48 hg (IsS48.own_ne HI0.out HO_5.out (by decide))); replace HK := qK (KeepBut.trans qHK (KeepBut.of_grown hg g) (Kd.R_base2 HO_5.out)); have HO228 := qK (ho); clear HO_5; clear ho hb hg hat)); go_roundg k1
          case measure => have := HK1.out; omega
          case rel => exact ⟨(y226), (wrap64 (x7_1 + 1)), (t224), (t225), qS, H', ⟨by have := HK1.out; omega⟩, ⟨by (with_reducible repeat (first | apply Kd.Ral | apply Kd.RdN | apply Kd.Rdr)); exact HO228.out⟩, ⟨qI48⟩, ⟨qHK⟩, ⟨qBs48⟩⟩
        · rw [if_neg c9] at H; exact absurd H (by simp)
      · rw [if_neg c7] at H; have c7b0 := decide_eq_false c7; clear c7; simp only [Option.some.injEq, Prod.mk.injEq] at H; obtain ⟨rfl, rfl, rfl⟩ := H; have hcv12 := own_string (P := Tryz.prog) Tryz.underlying22 Tryz.underlying5 Tryz.underlying9 (Kd.own_of_R HO_5.out); go_wp2; go_ret; exact ⟨qR, qI48, qBs48, qHK⟩
def spec_l2Width.f (a0 : Int) : Option (Int) := if a0 = 1 then (some 1) else (some 32)
set_option maxHeartbeats 8000000 in
set_option maxRecDepth 100000 in
theorem spec_l2Width.calls (a0 : Int) (r : Int) (w : World) (h : spec_l2Width.f a0 = some r) :
    Calls Tryz.prog 36 #[.int .i64 a0] w fun e w' => e = .returned (.int .i64 r) ∧ Drawn0 w w' := by
  have H : (if a0 = 1 then (some 1) else (some 32)) = some r := h; clear h; by_cases c2 : a0 = 1
  · rw [if_pos c2] at H; obtain ⟨c2b0, c2b1⟩ := qe c2; clear c2; obtain rfl := qsi H; go_enter Tryz.func36, Tryz.ntmps36; go_wp2; go_ret; exact ⟨by first | rfl | (simp; done) | (simp [*]; done), by repeat (first | exact Drawn0.refl _ | apply Drawn0.step)⟩
  · rw [if_neg c2] at H; obtain ⟨c2b0, c2b1⟩ := qn c2; obtain rfl := qsi H; go_enter Tryz.func36, Tryz.ntmps36; go_wp2; go_ret; exact ⟨by first | rfl | (simp; done) | (simp [*]; done), by repeat (first | exact Drawn0.refl _ | apply Drawn0.step)⟩
def spec_l2DrawEntries.l0 : Nat → List ByteArray → Int → Int → List Int → Int → Int → Option (List ByteArray × Int × Int)
  | 0, _, _, _, _, _, _ => none
  | k + 1, x5, x6, x7, x1000, x1001, x1002 => if x7 < x6 then ((spec_l1DrawBytes.f k x1000 x1001 x1002 3).bind fun bt235 => (if x5.length < 8796093022208 then (spec_l2DrawEntries.l0 k (x5 ++ [bt235.1]) x6 (wrap64 (x7 + 1)) x1000 bt235.2.1 bt235.2.2) else (none))) else (some (x5, x1001, x1002))
def spec_l2DrawEntries.f (k : Nat) (s0_0 : List Int) (s0_1 : Int) (s0_2 : Int) (a1 : Int) : Option (List ByteArray × Int × Int) := (spec_l1Cur_pick.f s0_0 s0_1 s0_2 (wrap64 (a1 + 1))).bind fun bt232 => (spec_l2DrawEntries.l0 k (([] : List ByteArray)) bt232.1 0 s0_0 bt232.2.1 bt232.2.2)
theorem spec_l2DrawEntries.mono_l : ∀ k, (∀ y0 y1 y2 y3 y4 y5, LeO (spec_l2DrawEntries.l0 k y0 y1 y2 y3 y4 y5) (spec_l2DrawEntries.l0 (k + 1) y0 y1 y2 y3 y4 y5))
  | 0 => fun _ _ _ _ _ _ r h => by simp [spec_l2DrawEntries.l0] at h
  | k + 1 => by
    have ih0 := spec_l2DrawEntries.mono_l k
    · intro y0 y1 y2 y3 y4 y5
      unfold spec_l2DrawEntries.l0
      repeat' first
        | (with_reducible first | exact ih0 .. | exact spec_l1DrawBytes.mono .. | exact LeO.refl _ | exact LeO.none _ | refine LeO.ite ?_ ?_ | refine LeO.bind ?_ (fun _ => ?_))
        | exact ih0 .. | exact spec_l1DrawBytes.mono .. | exact LeO.none _ | refine LeO.ite ?_ ?_ | refine LeO.bind ?_ (fun _ => ?_)
theorem spec_l2DrawEntries.mono : ∀ a0 a1 a2 a3 k, LeO (spec_l2DrawEntries.f k a0 a1 a2 a3) (spec_l2DrawEntries.f (k + 1) a0 a1 a2 a3) := by
  intro a0 a1 a2 a3 k
  have ih0 := spec_l2DrawEntries.mono_l k
  unfold spec_l2DrawEntries.f
  repeat' first
    | (with_reducible first | exact ih0 .. | exact spec_l1DrawBytes.mono .. | exact LeO.refl _ | exact LeO.none _ | refine LeO.ite ?_ ?_ | refine LeO.bind ?_ (fun _ => ?_))
    | exact ih0 .. | exact spec_l1DrawBytes.mono .. | exact LeO.none _ | refine LeO.ite ?_ ?_ | refine LeO.bind ?_ (fun _ => ?_)
set_option maxHeartbeats 8000000 in
set_option maxRecDepth 100000 in
theorem spec_l2DrawEntries.calls (k : Nat) (g : Nat) (s0_0 : List Int) (s0_1 : Int) (s0_2 : Int) (a1 : Int) (r1 : List ByteArray) (r2 : Int) (r3 : Int) (w0 w : World) (hI : IsS48 w0 w g s0_0 s0_1 s0_2) (hB : Below w0.heap.size w0 w) (h : spec_l2DrawEntries.f k s0_0 s0_1 s0_2 a1 = some (r1, r2, r3)) :
    Calls Tryz.prog 91 #[.pointer (some ⟨g, 0, none⟩), .int .i64 a1] w fun e w' => ∃ v0_ : Value, e = .returned (v0_) ∧ Kd.R Kd.string 9 w' w.heap.size (fun _ => True) v0_ r1 ∧ IsS48 w0 w' g s0_0 r2 r3 ∧ Below w0.heap.size w0 w' ∧ KeepBut w w' g none := by
  have HI0 := qK hI; have HK := qK (KeepBut.refl w g none); have HL := qK hB.size; clear hI; have HW0 := qK hB.size; have HB := qK hB; clear hB; have H : ((spec_l1Cur_pick.f s0_0 s0_1 s0_2 (wrap64 (a1 + 1))).bind fun bt232 => (spec_l2DrawEntries.l0 k (([] : List ByteArray)) bt232.1 0 s0_0 bt232.2.1 bt232.2.2)) = some (r1, r2, r3) := h; clear h; obtain ⟨y229, hy_⟩ : ∃ y_ : List ByteArray, y_ = (([] : List ByteArray)) := ⟨_, rfl⟩; replace H : ((spec_l1Cur_pick.f s0_0 s0_1 s0_2 (wrap64 (a1 + 1))).bind fun bt232 => (spec_l2DrawEntries.l0 k y229 bt232.1 0 s0_0 bt232.2.1 bt232.2.2)) = some (r1, r2, r3) := qh; have Ny229 := qK hy_; clear hy_; obtain ⟨⟨t232, t233, t234⟩, A3, H⟩ := qbi H; have H' := qK H; clear H; go_enter Tryz.func91, Tryz.ntmps91; go_wp2_with (first | ((with_reducible refine gds (N := 8) rfl ?_); refine Kd.R_lit Kd.string _ 9 ?hg (N := 8) ?hd (xs := ([] : List ByteArray)) (inner := []) (ok := fun _ => True) (okp := fun _ => True) ?hr ?hp (fun _ hk => hk) trivial (Below.refl _ _) (Nat.le_refl _) (by simp) ?_; (case hd => rfl); (case hg => rfl); (case hr => first | (go_simp; done) | (go_simp; rfl)); (case hp => exact (Reps.none _ _)); intro v230 w4 ho5 hb hg_ hnew_; clear hg_ hnew_; (first | rw [← Ny229.out] at ho5 | (simp only [Int.reduceToNat] at ho5; rw [← Ny229.out] at ho5)); have HO231 := qK (Kd.Rlo ho5 (keep_size (w := w) (g := g) (row := none) qHK)); replace HK := qK (KeepBut.trans qHK (KeepBut.of_below hb g none) (.inl rfl)); replace HB := qK (bst qBs48 hb); replace HI0 := qK (IsS48.below qI48 hb); clear hb ho5) | ((with_reducible refine gcl (f := 59) rfl ?_); refine gL 12 Tryz.func59 #[.pointer (some ⟨g, 0, none⟩), .int .i64 (wrap64 (a1 + 1))] ?_; (with_reducible refine (spec_l1Cur_pick.calls g s0_0 s0_1 s0_2 (wrap64 (a1 + 1)) t232 t233 t234 w0 _ ?_ ?_ A3.out).mono ?_); exact qI48; exact qBj48; rintro e w6 ⟨rfl, hi, hb, hk⟩; refine ⟨_, rfl, ?_⟩; replace HO231 := qK (Kd.Rmo (Kd.R_keep (IsS48.apart (show IsS48 w0 _ g s0_0 s0_1 s0_2 from qI48) (qRb HO231) (by decide)) hk (fun _ h => h.2)) (fun _ h => h.1)); replace HK := qK (KeepBut.trans qHK hk (.inl rfl)); replace HB := qK (hb); replace HI0 := qK (hi); (try clear hb); (try clear hk); (try clear hi))); go_loopg [5, 7] k (fun kq v5 v7 w' => ∃ (x5_1 : List ByteArray) (x7_1 : Int) (x1001_1 : Int) (x1002_1 : Int), v7 = .int .i64 x7_1 ∧ Aside0 (spec_l2DrawEntries.l0 kq x5_1 t232 x7_1 s0_0 x1001_1 x1002_1 = some (r1, r2, r3)) ∧ Aside0 (kq ≤ k) ∧ Aside0 (Kd.R Kd.string 9 w' w.heap.size (fun _ => True) v5 x5_1) ∧ Aside0 (IsS48 w0 w' g s0_0 x1001_1 x1002_1) ∧ Aside0 (KeepBut w w' g none) ∧ Aside0 (Below w0.heap.size w0 w'))
  case atStart => exact ⟨(y229), (0), (t233), (t234), qS, H', ⟨Nat.le_refl _⟩, ⟨by (with_reducible repeat (first | apply Kd.Ral | apply Kd.RdN | apply Kd.Rdr)); exact HO231.out⟩, ⟨qI48⟩, ⟨qHK⟩, ⟨qBs48⟩⟩
  case round =>
    clear H'; obtain ⟨x5_1, x7_1, x1001_1, x1002_1, rfl, HA, HK1, HO_5, HI0, HK, HB⟩ := hrel
    cases gk with
    | zero => exact absurd HA.out (by simp [spec_l2DrawEntries.l0])
    | succ k1 =>
      have H := HA.out; clear HA; simp only [spec_l2DrawEntries.l0] at H; by_cases c7 : x7_1 < t232
      · rw [if_pos c7] at H; have c7b0 := decide_eq_true c7; clear c7; obtain ⟨⟨t235, t236, t237⟩, A8, H⟩ := qbi H; by_cases c9 : x5_1.length < 8796093022208
        · rw [if_pos c9] at H; have LMc9 := qK c9; clear c9; obtain ⟨y238, hy_⟩ : ∃ y_ : List ByteArray, y_ = (x5_1 ++ [t235]) := ⟨_, rfl⟩; replace H : (spec_l2DrawEntries.l0 k1 y238 t232 (wrap64 (x7_1 + 1)) s0_0 t236 t237) = some (r1, r2, r3) := qh; have Ny238 := qK hy_; clear hy_; have H' := qK H; clear H; go_wp2_with (first | ((with_reducible refine gcl (f := 26) rfl ?_); refine gL 20 Tryz.func26 #[.pointer (some ⟨g, 0, none⟩), .int .i64 3] ?_; (with_reducible refine (spec_l1DrawBytes.calls k1 g s0_0 x1001_1 x1002_1 3 t235 t236 t237 w0 _ ?_ ?_ A8.out).mono ?_); exact qI48; exact qBj48; rintro e w10 ⟨rfl, hi, hb, hk⟩; refine ⟨_, rfl, ?_⟩; replace HO_5 := qK (Kd.Rmo (Kd.R_keep (IsS48.apart (show IsS48 w0 _ g s0_0 x1001_1 x1002_1 from qI48) (qRb HO_5) (by decide)) hk (fun _ h => h.2)) (fun _ h => h.1)); replace HK := qK (KeepBut.trans qHK hk (.inl rfl)); replace HB := qK (hb); replace HI0 := qK (hi); (try clear hb); (try clear hk); (try clear hi)) | ((with_reducible refine gbu (b := .append) (xs := #[.tmp 18, .tmp 21]) rfl ?_); at_builtin; refine Kd.R_append Kd.string w.heap.size rfl (.tmp 18) (.tmp 21) 23 9 (.string ⟨#[]⟩) 16 rfl Tryz.underlying23 info9 rfl (by decide) (by omega) u5 x5_1 t235 [.string t235] (fun _ => True) (fun _ => False) rfl rfl ?aP (fun _ hk => hk.elim) ?aF ?aO (Below.refl _ _) ?aS ?aL ?_; (case aP => exact rfl); (case aF => exact (fun _ _ => trivial)); (case aO => exact (qRb HO_5)); (case aS => exact (keep_size (w := w) (g := g) (row := none) qHK)); (case aL => have := LMc9.out; omega); intro v239 w11 ho hb hg hat; rw [← Ny238.out] at ho; replace HB := qK (below_weaken qBs48 HL.out hb); replace HI0 := qK (IsS48.grown qI48 hg (IsS48.own_ne HI0.out HO_5.out (by decide))); replace HK := qK (KeepBut.trans qHK (KeepBut.of_grown hg g) (Kd.R_base2 HO_5.out)); have HO240 := qK (ho); clear HO_5; clear ho hb hg hat)); go_roundg k1
          case measure => have := HK1.out; omega
          case rel => exact ⟨(y238), (wrap64 (x7_1 + 1)), (t236), (t237), qS, H', ⟨by have := HK1.out; omega⟩, ⟨by (with_reducible repeat (first | apply Kd.Ral | apply Kd.RdN | apply Kd.Rdr)); exact HO240.out⟩, ⟨qI48⟩, ⟨qHK⟩, ⟨qBs48⟩⟩
        · rw [if_neg c9] at H; exact absurd H (by simp)
      · rw [if_neg c7] at H; have c7b0 := decide_eq_false c7; clear c7; simp only [Option.some.injEq, Prod.mk.injEq] at H; obtain ⟨rfl, rfl, rfl⟩ := H; go_wp2; go_ret; exact ⟨_, qR, by (with_reducible repeat (first | apply Kd.Ral | apply Kd.RdN | apply Kd.Rdr)); exact HO_5.out, qI48, qBs48, qHK⟩
def spec_l2KindOK.f (a0 : Int) : Option (Bool) := if a0 = 0 then (some true) else (some (a0 == 1))
set_option maxHeartbeats 8000000 in
set_option maxRecDepth 100000 in
theorem spec_l2KindOK.calls (a0 : Int) (r : Bool) (w : World) (h : spec_l2KindOK.f a0 = some r) :
    Calls Tryz.prog 34 #[.int .i64 a0] w fun e w' => e = .returned (.bool r) ∧ Drawn0 w w' := by
  have H : (if a0 = 0 then (some true) else (some (a0 == 1))) = some r := h; clear h; by_cases c2 : a0 = 0
  · rw [if_pos c2] at H; obtain ⟨c2b0, c2b1⟩ := qe c2; clear c2; obtain rfl := qsi H; go_enter Tryz.func34, Tryz.ntmps34; go_wp2; go_ret; exact ⟨by first | rfl | (simp; done) | (simp [*]; done), by repeat (first | exact Drawn0.refl _ | apply Drawn0.step)⟩
  · rw [if_neg c2] at H; obtain ⟨c2b0, c2b1⟩ := qn c2; obtain rfl := qsi H; go_enter Tryz.func34, Tryz.ntmps34; go_wp2; go_ret; exact ⟨by first | rfl | (simp; done) | (simp [*]; done), by repeat (first | exact Drawn0.refl _ | apply Drawn0.step)⟩
def spec_l1Between.f (a0 : Int) (a1 : Int) (a2 : Int) : Option (Bool) := if a1 ≤ a0 then (some (decide (a0 ≤ a2))) else (some false)
set_option maxHeartbeats 8000000 in
set_option maxRecDepth 100000 in
theorem spec_l1Between.calls (a0 : Int) (a1 : Int) (a2 : Int) (r : Bool) (w : World) (h : spec_l1Between.f a0 a1 a2 = some r) :
    Calls Tryz.prog 35 #[.int .i64 a0, .int .i64 a1, .int .i64 a2] w fun e w' => e = .returned (.bool r) ∧ Drawn0 w w' := by
  have H : (if a1 ≤ a0 then (some (decide (a0 ≤ a2))) else (some false)) = some r := h; clear h; by_cases c4 : a1 ≤ a0
  · rw [if_pos c4] at H; have c4b0 := decide_eq_true c4; clear c4; obtain rfl := qsi H; go_enter Tryz.func35, Tryz.ntmps35; go_wp2; go_ret; exact ⟨by first | rfl | (simp; done) | (simp [*]; done), by repeat (first | exact Drawn0.refl _ | apply Drawn0.step)⟩
  · rw [if_neg c4] at H; have c4b0 := decide_eq_false c4; clear c4; obtain rfl := qsi H; go_enter Tryz.func35, Tryz.ntmps35; go_wp2; go_ret; exact ⟨by first | rfl | (simp; done) | (simp [*]; done), by repeat (first | exact Drawn0.refl _ | apply Drawn0.step)⟩
mutual
def spec_Path.j0 : Nat → Int → List ByteArray → Int → Int → Bool → Option (List ByteArray)
  | 0, _, _, _, _, _ => none
  | k + 1, x0, x1, x2, x7, x24 => if x24 = true then (some (([] : List ByteArray))) else ((spec_l2Split.f k x7).bind fun t246 => (if x2 < t246 then (if 0 ≤ t246 then (if t246 ≤ (x1.length : Int) then ((spec_Path.f k x0 (x1.take (t246 : Int).toNat) x2).bind fun t248 => ((spec_Root.f k x0 (x1.drop (t246 : Int).toNat)).bind fun t252 => (if t248.length < 8796093022208 then (some (t248 ++ [t252])) else (none)))) else (none)) else (none)) else (if 0 ≤ t246 then (if t246 ≤ (x1.length : Int) then ((spec_Path.f k x0 (x1.drop (t246 : Int).toNat) (wrap64 (x2 - t246))).bind fun t257 => ((spec_Root.f k x0 (x1.take (t246 : Int).toNat)).bind fun t261 => (if t257.length < 8796093022208 then (some (t257 ++ [t261])) else (none)))) else (none)) else (none))))
def spec_Path.f : Nat → Int → List ByteArray → Int → Option (List ByteArray)
  | 0, _, _, _ => none
  | k + 1, a0, l1, a2 => (spec_l2KindOK.f a0).bind fun t241 => (if t241 = true then ((spec_l1Between.f a2 0 (wrap64 ((l1.length : Int) - 1))).bind fun t242 => (if t242 = true then (spec_Path.j0 k a0 l1 a2 (l1.length : Int) ((l1.length : Int) == 1)) else (spec_Path.j0 k a0 l1 a2 (l1.length : Int) true))) else (spec_Path.j0 k a0 l1 a2 (l1.length : Int) true))
end
theorem spec_Path.mono_l : ∀ k, (∀ y0 y1 y2, LeO (spec_Path.f k y0 y1 y2) (spec_Path.f (k + 1) y0 y1 y2)) ∧ (∀ y0 y1 y2 y3 y4, LeO (spec_Path.j0 k y0 y1 y2 y3 y4) (spec_Path.j0 (k + 1) y0 y1 y2 y3 y4))
  | 0 => by refine ⟨?_, ?_⟩ <;> intros <;> intro r h <;> simp [spec_Path.f, spec_Path.j0] at h
  | k + 1 => by
    obtain ⟨ih0, ih1⟩ := spec_Path.mono_l k
    refine ⟨?_, ?_⟩ <;> intros <;> first | unfold spec_Path.f | unfold spec_Path.j0
    repeat' first
      | (with_reducible first | exact ih0 .. | exact ih1 .. | exact spec_Root.mono .. | exact spec_l2Split.mono .. | exact LeO.refl _ | exact LeO.none _ | refine LeO.ite ?_ ?_ | refine LeO.bind ?_ (fun _ => ?_))
      | exact ih0 .. | exact ih1 .. | exact spec_Root.mono .. | exact spec_l2Split.mono .. | exact LeO.none _ | refine LeO.ite ?_ ?_ | refine LeO.bind ?_ (fun _ => ?_)
theorem spec_Path.mono : ∀ a0 a1 a2 k, LeO (spec_Path.f k a0 a1 a2) (spec_Path.f (k + 1) a0 a1 a2) := by
  intro a0 a1 a2 k
  obtain ⟨ih0, ih1⟩ := spec_Path.mono_l k
  exact ih0 a0 a1 a2
def spec_Path.T6 : Bool × List (List Nat × List Nat) := (true, [([], []), ([], []), ([], []), ([1, 2], [1, 2]), ([], []), ([0, 3, 4], [0, 3, 4]), ([], []), ([], []), ([], []), ([7, 8], [7, 8]), ([6, 9, 5], [6, 9]), ([10], [10]), ([5, 11, 10], [5, 11]), ([12, 12, 0, 1, 2, 3, 4, 5, 6, 7, 8, 9, 10, 11, 12], [12])])
def spec_Path.B6 : List Nat := [0, 0, 0, 6, 0, 31, 0, 0, 0, 384, 1023, 2047, 4095, 8191]
theorem spec_Path.tab6 : rtab .any (opsOf Tryz.f92 6) = spec_Path.T6 := by kernel_rfl
theorem spec_Path.bits6 : waitsOk spec_Path.T6.2 spec_Path.B6 = true := by kernel_rfl
def spec_Path.T7 : Bool × List (List Nat × List Nat) := (true, [([], []), ([], []), ([], []), ([1, 2], [1, 2]), ([], []), ([], []), ([4, 5], [4, 5]), ([0, 3, 6], [0, 3, 6]), ([], []), ([], []), ([], []), ([9, 10], [9, 10]), ([8, 11, 7], [8, 11]), ([12], [12]), ([7, 13, 12], [7, 13]), ([14, 14, 0, 1, 2, 3, 4, 5, 6, 7, 8, 9, 10, 11, 12, 13, 14], [14])])
def spec_Path.B7 : List Nat := [0, 0, 0, 6, 0, 0, 48, 127, 0, 0, 0, 1536, 4095, 8191, 16383, 32767]
theorem spec_Path.tab7 : rtab .any (opsOf Tryz.f92 7) = spec_Path.T7 := by kernel_rfl
theorem spec_Path.bits7 : waitsOk spec_Path.T7.2 spec_Path.B7 = true := by kernel_rfl
set_option maxHeartbeats 8000000 in
set_option maxRecDepth 100000 in
theorem spec_Path.calls (k : Nat) : ∀ (a0 : Int) (A1 : Option Addr) (c1 : Nat) (l1 : List ByteArray) (a2 : Int) (r : List ByteArray) (w : World) (hr1 : Kd.C Kd.string w A1 l1.length l1) (hc1 : l1.length ≤ c1) (h : spec_Path.f k a0 l1 a2 = some r),
    Calls Tryz.prog 92 #[.int .i64 a0, .slice A1 l1.length c1, .int .i64 a2] w fun e w' => ∃ v0_ : Value, e = .returned (v0_) ∧ Kd.R Kd.string 9 w' w.heap.size (fun _ => True) v0_ r ∧ Below w.heap.size w w' := by
  induction k using Nat.strongRecOn with
  | _ k ih =>
  intro a0 A1 c1 l1 a2 r w hr1 hc1 h
  cases k with
  | zero => exact absurd h (by simp [spec_Path.f])
  | succ k =>
  simp only [spec_Path.f] at h; have HR1 := qK hr1; have HC1 := qK hc1; clear hr1 hc1; have HB := qK (Below.refl w.heap.size w); have H : ((spec_l2KindOK.f a0).bind fun t241 => (if t241 = true then ((spec_l1Between.f a2 0 (wrap64 ((l1.length : Int) - 1))).bind fun t242 => (if t242 = true then (spec_Path.j0 k a0 l1 a2 (l1.length : Int) ((l1.length : Int) == 1)) else (spec_Path.j0 k a0 l1 a2 (l1.length : Int) true))) else (spec_Path.j0 k a0 l1 a2 (l1.length : Int) true))) = some r := h; clear h; have HC4 := qK H; clear H; go_enter Tryz.func92, Tryz.ntmps92; go_upto_region 2 with (fail); go_cut [24] (fun v24 wc => ∃ (kq : Nat) (x24_3 : Bool), v24 = .bool x24_3 ∧ Aside0 (spec_Path.j0 kq a0 l1 a2 (l1.length : Int) x24_3 = some r) ∧ Aside0 (kq ≤ k) ∧ Aside0 (Below w.heap.size w wc))
  case first =>
    have H := HC4.out; clear HC4; obtain ⟨t241, A5, H⟩ := qbi H; by_cases c6 : t241 = true
    · subst c6; rw [if_pos rfl] at H; obtain ⟨t242, A7, H⟩ := qbi H; by_cases c8 : t242 = true
      · subst c8; rw [if_pos rfl] at H; have H' := qK H; clear H; go_wp2_with (first | ((with_reducible refine gcl (f := 34) rfl ?_); refine gL 12 Tryz.func34 #[.int .i64 a0] ?_; (with_reducible refine (spec_l2KindOK.calls a0 true _ A5.out).mono ?_); rintro e w' ⟨rfl, ⟨nd, rfl⟩⟩; refine ⟨_, rfl, ?_⟩) | (go_at_call 35; (with_reducible refine (spec_l1Between.calls a2 0 (wrap64 ((l1.length : Int) - 1)) true _ A7.out).mono ?_); rintro e w' ⟨rfl, ⟨nd, rfl⟩⟩)); go_meet
        case rel => exact ⟨_, (((l1.length : Int) == 1)), qS, H', ⟨by first | omega | exact Nat.le_refl _⟩, ⟨qB⟩⟩
      · replace c8 := Bool.eq_false_iff.mpr c8; subst c8; rw [if_neg qff] at H; have H' := qK H; clear H; go_wp2_with (first | ((with_reducible refine gcl (f := 34) rfl ?_); refine gL 12 Tryz.func34 #[.int .i64 a0] ?_; (with_reducible refine (spec_l2KindOK.calls a0 true _ A5.out).mono ?_); rintro e w' ⟨rfl, ⟨nd, rfl⟩⟩; refine ⟨_, rfl, ?_⟩) | (go_at_call 35; (with_reducible refine (spec_l1Between.calls a2 0 (wrap64 ((l1.length : Int) - 1)) false _ A7.out).mono ?_); rintro e w' ⟨rfl, ⟨nd, rfl⟩⟩)); go_meet
        case rel => exact ⟨_, (true), qS, H', ⟨by first | omega | exact Nat.le_refl _⟩, ⟨qB⟩⟩
    · replace c6 := Bool.eq_false_iff.mpr c6; subst c6; rw [if_neg qff] at H; have H' := qK H; clear H; go_wp2_with (first | ((with_reducible refine gcl (f := 34) rfl ?_); refine gL 12 Tryz.func34 #[.int .i64 a0] ?_; (with_reducible refine (spec_l2KindOK.calls a0 false _ A5.out).mono ?_); rintro e w' ⟨rfl, ⟨nd, rfl⟩⟩; refine ⟨_, rfl, ?_⟩)); go_meet
      case rel => exact ⟨_, (true), qS, H', ⟨by first | omega | exact Nat.le_refl _⟩, ⟨qB⟩⟩
  case rest =>
    clear HC4; (try clear c1); obtain ⟨kq, x24_3, rfl, HA, HJ3, HB⟩ := hcut
    cases kq with
    | zero => exact absurd HA.out (by simp [spec_Path.j0])
    | succ kj3 =>
      have H := HA.out; clear HA; simp only [spec_Path.j0] at H; by_cases c9 : x24_3 = true
      · subst c9; rw [if_pos rfl] at H; obtain ⟨y243, hy_⟩ : ∃ y_ : List ByteArray, y_ = (([] : List ByteArray)) := ⟨_, rfl⟩; replace H : (some y243) = some r := qh; have Ny243 := qK hy_; clear hy_; obtain rfl := qsi H; go_wp2_with (first | ((with_reducible refine gds (N := 25) rfl ?_); refine Kd.R_lit Kd.string _ 9 ?hg (N := 25) ?hd (xs := ([] : List ByteArray)) (inner := []) (ok := fun _ => True) (okp := fun _ => True) ?hr ?hp (fun _ hk => hk) trivial (Below.refl _ _) (Nat.le_refl _) (by simp) ?_; (case hd => rfl); (case hg => rfl); (case hr => first | (go_simp; done) | (go_simp; rfl)); (case hp => exact (Reps.none _ _)); intro v244 w10 ho11 hb hg_ hnew_; clear hg_ hnew_; (first | rw [← Ny243.out] at ho11 | (simp only [Int.reduceToNat] at ho11; rw [← Ny243.out] at ho11)); have HO245 := qK (Kd.Rlo ho11 (bsz qB)); replace HB := qHB HB hb; clear hb ho11)); go_ret; exact ⟨_, qR, by (with_reducible repeat (first | apply Kd.Ral | apply Kd.RdN | apply Kd.Rdr)); exact HO245.out, qB⟩
      · replace c9 := Bool.eq_false_iff.mpr c9; subst c9; rw [if_neg qff] at H; obtain ⟨t246, A12, H⟩ := qbi H; by_cases c13 : a2 < t246
        · rw [if_pos c13] at H; have c13b0 := decide_eq_true c13; clear c13; by_cases c14 : 0 ≤ t246
          · rw [if_pos c14] at H; have c14b0 := eq_true c14; have c14b1 := decide_eq_true c14; clear c14; by_cases c15 : t246 ≤ (l1.length : Int)
            · rw [if_pos c15] at H; have c15b0 := eq_true c15; have c15b1 := decide_eq_true c15; clear c15; obtain ⟨t248, A16, H⟩ := qbi H; have c17b0 := eq_true (of_decide_eq_true qa : 0 ≤ t246); have c18b0 := eq_true (of_decide_eq_true qa : t246 ≤ (l1.length : Int)); obtain ⟨t252, A19, H⟩ := qbi H; by_cases c20 : t248.length < 8796093022208
              · rw [if_pos c20] at H; have LMc20 := qK c20; clear c20; obtain ⟨y253, hy_⟩ : ∃ y_ : List ByteArray, y_ = (t248 ++ [t252]) := ⟨_, rfl⟩; replace H : (some y253) = some r := qh; have Ny253 := qK hy_; clear hy_; obtain rfl := qsi H; (try go_wp2_with (first | ((with_reducible refine gcl (f := 32) rfl ?_); refine gL 27 Tryz.func32 #[.int .i64 (l1.length : Int)] ?_; (with_reducible refine (spec_l2Split.calls kj3 (l1.length : Int) t246 _ A12.out).mono ?_); rintro e w' ⟨rfl, ⟨nd, rfl⟩⟩; refine ⟨_, rfl, ?_⟩))); (try (rw [drewN_self wc]; generalize hq_ : World.drewN wc _ = wc; have n0_ : Aside0 (Below w.heap.size w wc) := ⟨by rw [← hq_]; exact qB⟩; clear HB hq_; have HB := n0_; clear n0_)); replace HB := qK (bd1 HB.out); obtain ⟨i022, hi022, _, hsz22, _⟩ := info_parts info9; obtain ⟨hcut22, hA22, hC22⟩ := print_take_of (P := Tryz.prog) Value.string (⟨#[]⟩ : ByteArray) 23 9 .i64 Tryz.underlying23 hi022 hsz22 A1 c1 l1 t246 (of_decide_eq_true qa) (of_decide_eq_true qa) HC1.out; have HR247 := qK (Kd.C_of_reads (h1 := fun _ => rfl) (hA22 _ (Kd.reads_of_C HR1.out))); have HC247 := qK hC22; clear hA22 hC22 hi022 hsz22; obtain ⟨i023, hi023, _, hsz23, _⟩ := info_parts info9; obtain ⟨A23, hcut23, hA23, hC23⟩ := print_drop_of (P := Tryz.prog) Value.string (⟨#[]⟩ : ByteArray) 23 9 .i64 Tryz.underlying23 hi023 hsz23 A1 c1 l1 t246 (of_decide_eq_true qa) (of_decide_eq_true qa) HC1.out; have HR251 := qK (Kd.C_of_reads (h1 := fun _ => rfl) (hA23 _ (Kd.reads_of_C HR1.out))); have HC251 := qK hC23; clear hA23 hC23 hi023 hsz23; refine qs 14 (fun w' => True) (ds := []) trivial (fun hHeld => ?_); refine with_tabW spec_Path.tab6 spec_Path.bits6 (fun HT_ HW_ => ?_); generalize wc.drew = w21 at HB HR247 HR251 hHeld ⊢; refine qp 0 31 ?_; refine qp 1 32 ?_; refine qp 2 33 ?_; refine qp 3 34 ?_; refine qp 4 35 ?_; refine qp 6 37 ?_; refine qp 7 38 ?_; refine qp 8 39 ?_; refine qp 9 40 ?_; refine qo 5 36 (fun K hK => ?_); refine goes_ Tryz.func92 (by kernel_rfl) rfl #[.int .i64 a0, .slice A1 (l1.take (t246 : Int).toNat).length c1, .int .i64 a2] (by rfl) rfl rfl (by (try simp only [List.map_toArray, List.map_cons, List.map_nil]); first | done | (rw [show (l1.take (t246 : Int).toNat).length = t246.toNat from (by rw [List.length_take]; have h_ : (t246 : Int) ≤ (l1.length : Int) := of_decide_eq_true qa; omega)] <;> rfl) | rfl | (simp only [List.length_drop, List.length_take]; rfl)) ?_; (with_reducible refine (ih kj3 (by have := HJ3.out; omega) a0 _ _ (l1.take (t246 : Int).toNat) a2 t248 _ ?side1 ?side2 A16.out).mono ?_); (case side1 => exact qC HR247); (case side2 => exact HC247.out); rintro e w24 ⟨v249, rfl, ho0, hb⟩; refine ⟨_, rfl, ?_⟩; have HO250 := qK (Kd.Rlo ho0 (bsz qB)); replace HB := qHB HB hb; (try clear hb); (try clear ho0); refine hK.out _ _ trivial (fun hHeld => ?_); clear hK K; refine norm_ (a' := ?_) ?_ ?_; rotate_left
                · show Act.put _ (some 36) _ = _; simp only [Act.put, List.setIfInBounds_toArray, List.set_cons_zero, List.set_cons_succ, i64_w, i32_w]; rfl
                refine qo 10 41 (fun K hK => ?_); refine goes_ Tryz.func9 (by kernel_rfl) rfl #[.int .i64 a0, .slice A23 (l1.drop (t246 : Int).toNat).length (c1 - t246.toNat)] (by rfl) rfl rfl (by (try simp only [List.map_toArray, List.map_cons, List.map_nil]); first | done | (rw [show (l1.drop (t246 : Int).toNat).length = (l1.length - t246.toNat) from List.length_drop] <;> rfl) | rfl | (simp only [List.length_drop, List.length_take]; rfl)) ?_; (with_reducible refine (spec_Root.calls kj3 a0 _ _ (l1.drop (t246 : Int).toNat) t252 _ ?side1 ?side2 A19.out).mono ?_); (case side1 => exact qC HR251); (case side2 => exact HC251.out); rintro e w25 ⟨rfl, hb⟩; refine ⟨_, rfl, ?_⟩; replace HO250 := qK (Kd.Rbe (qRb HO250) hb); replace HB := qHB HB hb; (try clear hb); refine hK.out _ _ trivial (fun hHeld => ?_); clear hK K; refine norm_ (a' := ?_) ?_ ?_; rotate_left
                · show Act.put _ (some 41) _ = _; simp only [Act.put, List.setIfInBounds_toArray, List.set_cons_zero, List.set_cons_succ, i64_w, i32_w]; rfl
                refine qo 11 42 (fun K hK => ?_); refine value_ (w1 := ?_) (v := ?_) (by rfl) rfl ?_ ?_; rotate_left 2
                · go_simp; constructor
                  · rfl
                  · rfl
                refine hK.out _ _ trivial (fun hHeld => ?_); clear hK K; refine norm_ (a' := ?_) ?_ ?_; rotate_left
                · show Act.put _ (some 42) _ = _; simp only [Act.put, List.setIfInBounds_toArray, List.set_cons_zero, List.set_cons_succ, i64_w, i32_w]; rfl
                refine qo 12 43 (fun K hK => ?_); refine Kd.R_append_step Kd.string (w0 := w) w.heap.size (by rfl) (.tmp 36) (.tmp 42) 23 9 (.string ⟨#[]⟩) 16 rfl Tryz.underlying23 info9 rfl (by decide) (by omega) v249 t248 t252 [.string t252] (fun _ => True) (fun _ => False) rfl rfl ?aP (fun _ hk => hk.elim) ?aF ?aO ?aB ?aS ?aL ?_; (case aP => exact rfl); (case aB => exact qB); (case aF => exact (fun _ _ => trivial)); (case aO => exact (qRb HO250)); (case aS => exact (bsz qB)); (case aL => have := LMc20.out; omega); intro v254 w26 ho hb hg hat; rw [← Ny253.out] at ho; replace HB := qK (hb); have HO255 := qK (ho); clear HO250; clear ho hb hg hat; refine hK.out _ _ trivial (fun hHeld => ?_); clear hK K; refine norm_ (a' := ?_) ?_ ?_; rotate_left
                · show Act.put _ (some 43) _ = _; simp only [Act.put, List.setIfInBounds_toArray, List.set_cons_zero, List.set_cons_succ, i64_w, i32_w]; rfl
                refine qp 13 6 ?_; refine done_ (done_of HT_.out (by kernel_rfl)) ?_; (try go_wp2); go_ret; exact ⟨_, qR, by (with_reducible repeat (first | apply Kd.Ral | apply Kd.RdN | apply Kd.Rdr)); exact HO255.out, qB⟩
              · rw [if_neg c20] at H; exact absurd H (by simp)
            · rw [if_neg c15] at H; exact absurd H (by simp)
          · rw [if_neg c14] at H; exact absurd H (by simp)
        · rw [if_neg c13] at H; have c13b0 := decide_eq_false c13; clear c13; by_cases c27 : 0 ≤ t246
          · rw [if_pos c27] at H; have c27b0 := eq_true c27; have c27b1 := decide_eq_true c27; clear c27; by_cases c28 : t246 ≤ (l1.length : Int)
            · rw [if_pos c28] at H; have c28b0 := eq_true c28; have c28b1 := decide_eq_true c28; clear c28; obtain ⟨t257, A29, H⟩ := qbi H; have c30b0 := eq_true (of_decide_eq_true qa : 0 ≤ t246); have c31b0 := eq_true (of_decide_eq_true qa : t246 ≤ (l1.length : Int)); obtain ⟨t261, A32, H⟩ := qbi H; by_cases c33 : t257.length < 8796093022208
              · rw [if_pos c33] at H; have LMc33 := qK c33; clear c33; obtain ⟨y262, hy_⟩ : ∃ y_ : List ByteArray, y_ = (t257 ++ [t261]) := ⟨_, rfl⟩; replace H : (some y262) = some r := qh; have Ny262 := qK hy_; clear hy_; obtain rfl := qsi H; (try go_wp2_with (first | ((with_reducible refine gcl (f := 32) rfl ?_); refine gL 27 Tryz.func32 #[.int .i64 (l1.length : Int)] ?_; (with_reducible refine (spec_l2Split.calls kj3 (l1.length : Int) t246 _ A12.out).mono ?_); rintro e w' ⟨rfl, ⟨nd, rfl⟩⟩; refine ⟨_, rfl, ?_⟩))); (try (rw [drewN_self wc]; generalize hq_ : World.drewN wc _ = wc; have n0_ : Aside0 (Below w.heap.size w wc) := ⟨by rw [← hq_]; exact qB⟩; clear HB hq_; have HB := n0_; clear n0_)); replace HB := qK (bd1 HB.out); obtain ⟨i035, hi035, _, hsz35, _⟩ := info_parts info9; obtain ⟨A35, hcut35, hA35, hC35⟩ := print_drop_of (P := Tryz.prog) Value.string (⟨#[]⟩ : ByteArray) 23 9 .i64 Tryz.underlying23 hi035 hsz35 A1 c1 l1 t246 (of_decide_eq_true qa) (of_decide_eq_true qa) HC1.out; have HR256 := qK (Kd.C_of_reads (h1 := fun _ => rfl) (hA35 _ (Kd.reads_of_C HR1.out))); have HC256 := qK hC35; clear hA35 hC35 hi035 hsz35; obtain ⟨i036, hi036, _, hsz36, _⟩ := info_parts info9; obtain ⟨hcut36, hA36, hC36⟩ := print_take_of (P := Tryz.prog) Value.string (⟨#[]⟩ : ByteArray) 23 9 .i64 Tryz.underlying23 hi036 hsz36 A1 c1 l1 t246 (of_decide_eq_true qa) (of_decide_eq_true qa) HC1.out; have HR260 := qK (Kd.C_of_reads (h1 := fun _ => rfl) (hA36 _ (Kd.reads_of_C HR1.out))); have HC260 := qK hC36; clear hA36 hC36 hi036 hsz36; refine qs 16 (fun w' => True) (ds := []) trivial (fun hHeld => ?_); refine with_tabW spec_Path.tab7 spec_Path.bits7 (fun HT_ HW_ => ?_); generalize wc.drew = w34 at HB HR256 HR260 hHeld ⊢; refine qp 0 44 ?_; refine qp 1 45 ?_; refine qp 2 46 ?_; refine qp 3 47 ?_; refine qp 4 48 ?_; refine qp 5 49 ?_; refine qp 6 50 ?_; refine qp 8 52 ?_; refine qp 9 53 ?_; refine qp 10 54 ?_; refine qp 11 55 ?_; refine qo 7 51 (fun K hK => ?_); refine goes_ Tryz.func92 (by kernel_rfl) rfl #[.int .i64 a0, .slice A35 (l1.drop (t246 : Int).toNat).length (c1 - t246.toNat), .int .i64 (wrap64 (a2 - t246))] (by rfl) rfl rfl (by (try simp only [List.map_toArray, List.map_cons, List.map_nil]); first | done | (rw [show (l1.drop (t246 : Int).toNat).length = (l1.length - t246.toNat) from List.length_drop] <;> rfl) | rfl | (simp only [List.length_drop, List.length_take]; rfl)) ?_; (with_reducible refine (ih kj3 (by have := HJ3.out; omega) a0 _ _ (l1.drop (t246 : Int).toNat) (wrap64 (a2 - t246)) t257 _ ?side1 ?side2 A29.out).mono ?_); (case side1 => exact qC HR256); (case side2 => exact HC256.out); rintro e w37 ⟨v258, rfl, ho0, hb⟩; refine ⟨_, rfl, ?_⟩; have HO259 := qK (Kd.Rlo ho0 (bsz qB)); replace HB := qHB HB hb; (try clear hb); (try clear ho0); refine hK.out _ _ trivial (fun hHeld => ?_); clear hK K; refine norm_ (a' := ?_) ?_ ?_; rotate_left
                · show Act.put _ (some 51) _ = _; simp only [Act.put, List.setIfInBounds_toArray, List.set_cons_zero, List.set_cons_succ, i64_w, i32_w]; rfl
                refine qo 12 56 (fun K hK => ?_); refine goes_ Tryz.func9 (by kernel_rfl) rfl #[.int .i64 a0, .slice A1 (l1.take (t246 : Int).toNat).length c1] (by rfl) rfl rfl (by (try simp only [List.map_toArray, List.map_cons, List.map_nil]); first | done | (rw [show (l1.take (t246 : Int).toNat).length = t246.toNat from (by rw [List.length_take]; have h_ : (t246 : Int) ≤ (l1.length : Int) := of_decide_eq_true qa; omega)] <;> rfl) | rfl | (simp only [List.length_drop, List.length_take]; rfl)) ?_; (with_reducible refine (spec_Root.calls kj3 a0 _ _ (l1.take (t246 : Int).toNat) t261 _ ?side1 ?side2 A32.out).mono ?_); (case side1 => exact qC HR260); (case side2 => exact HC260.out); rintro e w38 ⟨rfl, hb⟩; refine ⟨_, rfl, ?_⟩; replace HO259 := qK (Kd.Rbe (qRb HO259) hb); replace HB := qHB HB hb; (try clear hb); refine hK.out _ _ trivial (fun hHeld => ?_); clear hK K; refine norm_ (a' := ?_) ?_ ?_; rotate_left
                · show Act.put _ (some 56) _ = _; simp only [Act.put, List.setIfInBounds_toArray, List.set_cons_zero, List.set_cons_succ, i64_w, i32_w]; rfl
                refine qo 13 57 (fun K hK => ?_); refine value_ (w1 := ?_) (v := ?_) (by rfl) rfl ?_ ?_; rotate_left 2
                · go_simp; constructor
                  · rfl
                  · rfl
                refine hK.out _ _ trivial (fun hHeld => ?_); clear hK K; refine norm_ (a' := ?_) ?_ ?_; rotate_left
                · show Act.put _ (some 57) _ = _; simp only [Act.put, List.setIfInBounds_toArray, List.set_cons_zero, List.set_cons_succ, i64_w, i32_w]; rfl
                refine qo 14 58 (fun K hK => ?_); refine Kd.R_append_step Kd.string (w0 := w) w.heap.size (by rfl) (.tmp 51) (.tmp 57) 23 9 (.string ⟨#[]⟩) 16 rfl Tryz.underlying23 info9 rfl (by decide) (by omega) v258 t257 t261 [.string t261] (fun _ => True) (fun _ => False) rfl rfl ?aP (fun _ hk => hk.elim) ?aF ?aO ?aB ?aS ?aL ?_; (case aP => exact rfl); (case aB => exact qB); (case aF => exact (fun _ _ => trivial)); (case aO => exact (qRb HO259)); (case aS => exact (bsz qB)); (case aL => have := LMc33.out; omega); intro v263 w39 ho hb hg hat; rw [← Ny262.out] at ho; replace HB := qK (hb); have HO264 := qK (ho); clear HO259; clear ho hb hg hat; refine hK.out _ _ trivial (fun hHeld => ?_); clear hK K; refine norm_ (a' := ?_) ?_ ?_; rotate_left
                · show Act.put _ (some 58) _ = _; simp only [Act.put, List.setIfInBounds_toArray, List.set_cons_zero, List.set_cons_succ, i64_w, i32_w]; rfl
                refine qp 15 6 ?_; refine done_ (done_of HT_.out (by kernel_rfl)) ?_; (try go_wp2); go_ret; exact ⟨_, qR, by (with_reducible repeat (first | apply Kd.Ral | apply Kd.RdN | apply Kd.Rdr)); exact HO264.out, qB⟩
              · rw [if_neg c33] at H; exact absurd H (by simp)
            · rw [if_neg c28] at H; exact absurd H (by simp)
          · rw [if_neg c27] at H; exact absurd H (by simp)
end Go.Proofs.YtajkbbifemeanaaGreatDoor.L
end
