/- The texts that the proof of the law FnExactEncodeStm rests on, part 2: printed functions with their contracts, words, plain laws; the last part ends in the statement itself. No condition but those that each theorem states. -/
import Derived.Test.YtjihphegmdfpfaaDoorKFnExactEncodeStm1
set_option linter.unusedVariables false
set_option linter.unusedSimpArgs false
section
namespace Go.Proofs.YtjihphegmdfpfaaDoor.L
open Go.RowKit Go.Proofs.YtjihphegmdfpfaaDoorW.PrintWords Go.Proofs.YtjihphegmdfpfaaDoorW.PrintLast Go.Proofs.YtjihphegmdfpfaaDoorW.PrintMore
attribute [local go_sem] max2_int min2_int max_two min_two max_three min_three max_four min_four
set_option linter.unusedVariables false
set_option linter.unusedSimpArgs false
def spec_l4Has.l0 : Nat → ByteArray → List ByteArray → Int → Int → Option (Bool)
  | 0, _, _, _, _ => none
  | k + 1, x1, x7, x8, x9 => if x9 < x8 then (if 0 ≤ x9 then (if x9 < (x7.length : Int) then (if (rdOf ByteArray.empty x7 x9).toList = x1.toList then (some true) else (spec_l4Has.l0 k x1 x7 x8 (wrap64 (x9 + 1)))) else (none)) else (none)) else (some false)
def spec_l4Has.f (k : Nat) (l0 : List ByteArray) (a1 : ByteArray) : Option (Bool) := spec_l4Has.l0 k a1 l0 (l0.length : Int) 0
theorem spec_l4Has.mono_l : ∀ k, (∀ y0 y1 y2 y3, LeO (spec_l4Has.l0 k y0 y1 y2 y3) (spec_l4Has.l0 (k + 1) y0 y1 y2 y3))
  | 0 => fun _ _ _ _ r h => by simp [spec_l4Has.l0] at h
  | k + 1 => by
    have ih0 := spec_l4Has.mono_l k
    · intro y0 y1 y2 y3
      unfold spec_l4Has.l0
      repeat' first
      | (with_reducible exact ih0 _ _ _ _)
      | (with_reducible exact LeO.refl _)
      | (with_reducible exact LeO.none _)
      | (with_reducible refine LeO.ite ?_ ?_)
      | (with_reducible refine LeO.bind ?_ (fun _ => ?_))
      | exact ih0 _ _ _ _
      | exact LeO.none _
      | refine LeO.ite ?_ ?_
      | refine LeO.bind ?_ (fun _ => ?_)
theorem spec_l4Has.mono : ∀ a0 a1 k, LeO (spec_l4Has.f k a0 a1) (spec_l4Has.f (k + 1) a0 a1) := by
  intro a0 a1 k
  have ih0 := spec_l4Has.mono_l k
  unfold spec_l4Has.f
  repeat' first
      | (with_reducible exact ih0 _ _ _ _)
      | (with_reducible exact LeO.refl _)
      | (with_reducible exact LeO.none _)
      | (with_reducible refine LeO.ite ?_ ?_)
      | (with_reducible refine LeO.bind ?_ (fun _ => ?_))
      | exact ih0 _ _ _ _
      | exact LeO.none _
      | refine LeO.ite ?_ ?_
      | refine LeO.bind ?_ (fun _ => ?_)
set_option maxHeartbeats 8000000 in
set_option maxRecDepth 100000 in
theorem spec_l4Has.calls (k : Nat) (A0 : Option Addr) (c0 : Nat) (l0 : List ByteArray) (a1 : ByteArray) (r : Bool) (w : World) (hr0 : Kd.C Kd.string w A0 l0.length l0) (hc0 : l0.length ≤ c0) (h : spec_l4Has.f k l0 a1 = some r) :
    Calls Tryd.prog 74 #[.slice A0 l0.length c0, .string a1] w fun e w' => e = .returned (.bool r) ∧ Drawn0 w w' := by
  have HR0 := Aside0.mk hr0; have HC0 := Aside0.mk hc0; clear hr0 hc0; have H : (spec_l4Has.l0 k a1 l0 (l0.length : Int) 0) = some r := h; clear h; have H' := Aside0.mk H; clear H; go_enter Tryd.func74, Tryd.ntmps74; go_wp2; go_loopg [9] k (fun kq v9 w' => ∃ (x9_1 : Int), v9 = .int .i64 x9_1 ∧ Aside0 (spec_l4Has.l0 kq a1 l0 (l0.length : Int) x9_1 = some r) ∧ Aside0 (kq ≤ k) ∧ Drawn0 w w')
  case atStart => exact ⟨(0), (by first | rfl | (simp; done) | (simp [*]; done)), H', ⟨Nat.le_refl _⟩, by repeat (first | exact Drawn0.refl _ | apply Drawn0.step)⟩
  case round =>
    clear H'; (try clear p2); obtain ⟨x9_1, rfl, HA, HK1, ⟨m1, rfl⟩⟩ := hrel
    cases gk with
    | zero => exact absurd HA.out (by simp [spec_l4Has.l0])
    | succ k1 =>
      have H := HA.out; clear HA; simp only [spec_l4Has.l0] at H; by_cases c3 : x9_1 < (l0.length : Int)
      · rw [if_pos c3] at H; have c3b0 : decide (x9_1 < (l0.length : Int)) = true := decide_eq_true c3; clear c3; by_cases c4 : 0 ≤ x9_1
        · rw [if_pos c4] at H; have c4b0 : decide (0 ≤ x9_1) = true := decide_eq_true c4; clear c4; by_cases c5 : x9_1 < (l0.length : Int)
          · rw [if_pos c5] at H; have c5b0 : decide (x9_1 < (l0.length : Int)) = true := decide_eq_true c5; clear c5; by_cases c6 : (rdOf ByteArray.empty l0 x9_1).toList = a1.toList
            · rw [if_pos c6] at H; have c6b0 : ((rdOf ByteArray.empty l0 x9_1).toList == a1.toList) = true := beq_iff_eq.mpr c6; have c6b1 : ((rdOf ByteArray.empty l0 x9_1).toList != a1.toList) = false := bne_eq_false_iff_eq.mpr c6; clear c6; obtain rfl := Option.some.inj H; have p118 : 0 ≤ (x9_1 : Int) := of_decide_eq_true (by first | (with_reducible assumption) | assumption); have q118 : x9_1 < (l0.length : Int) := of_decide_eq_true (by first | (with_reducible assumption) | assumption); obtain ⟨ad118, e118, hx118_0⟩ := Kd.at_string HR0.out x9_1 p118 q118; cases e118; replace p118 := eq_true p118; replace q118 := eq_true q118; go_wp2; go_ret; exact ⟨by first | rfl | (simp; done) | (simp [*]; done), by repeat (first | exact Drawn0.refl _ | apply Drawn0.step)⟩
            · rw [if_neg c6] at H; have c6b0 : ((rdOf ByteArray.empty l0 x9_1).toList == a1.toList) = false := beq_eq_false_iff_ne.mpr c6; have c6b1 : ((rdOf ByteArray.empty l0 x9_1).toList != a1.toList) = true := bne_iff_ne.mpr c6; have H' := Aside0.mk H; clear H; have p118 : 0 ≤ (x9_1 : Int) := of_decide_eq_true (by first | (with_reducible assumption) | assumption); have q118 : x9_1 < (l0.length : Int) := of_decide_eq_true (by first | (with_reducible assumption) | assumption); obtain ⟨ad118, e118, hx118_0⟩ := Kd.at_string HR0.out x9_1 p118 q118; cases e118; replace p118 := eq_true p118; replace q118 := eq_true q118; go_wp2; go_roundg k1
              case measure => have := HK1.out; omega
              case rel => exact ⟨(wrap64 (x9_1 + 1)), (by first | rfl | (simp; done) | (simp [*]; done)), H', ⟨by have := HK1.out; omega⟩, by repeat (first | exact Drawn0.refl _ | apply Drawn0.step)⟩
          · rw [if_neg c5] at H; exact absurd H (by simp)
        · rw [if_neg c4] at H; exact absurd H (by simp)
      · rw [if_neg c3] at H; have c3b0 : decide (x9_1 < (l0.length : Int)) = false := decide_eq_false c3; clear c3; obtain rfl := Option.some.inj H; go_wp2; go_ret; exact ⟨by first | rfl | (simp; done) | (simp [*]; done), by repeat (first | exact Drawn0.refl _ | apply Drawn0.step)⟩
def spec_l4Keywords.f  : Option (List ByteArray) := some (([(⟨#[99, 114, 101, 97, 116, 101]⟩ : ByteArray), (⟨#[116, 97, 98, 108, 101]⟩ : ByteArray), (⟨#[105, 110, 115, 101, 114, 116]⟩ : ByteArray), (⟨#[105, 110, 116, 111]⟩ : ByteArray), (⟨#[118, 97, 108, 117, 101, 115]⟩ : ByteArray), (⟨#[117, 112, 100, 97, 116, 101]⟩ : ByteArray), (⟨#[115, 101, 116]⟩ : ByteArray), (⟨#[100, 101, 108, 101, 116, 101]⟩ : ByteArray), (⟨#[102, 114, 111, 109]⟩ : ByteArray), (⟨#[119, 104, 101, 114, 101]⟩ : ByteArray), (⟨#[115, 101, 108, 101, 99, 116]⟩ : ByteArray), (⟨#[97, 110, 100]⟩ : ByteArray), (⟨#[111, 114]⟩ : ByteArray), (⟨#[110, 111, 116]⟩ : ByteArray), (⟨#[108, 101, 110]⟩ : ByteArray), (⟨#[105, 110, 116]⟩ : ByteArray), (⟨#[116, 101, 120, 116]⟩ : ByteArray)] : List ByteArray))
set_option maxHeartbeats 8000000 in
set_option maxRecDepth 100000 in
theorem spec_l4Keywords.calls  (r : List ByteArray) (w : World) (h : spec_l4Keywords.f  = some r) :
    Calls Tryd.prog 75 #[] w fun e w' => ∃ v0_ : Value, e = .returned (v0_) ∧ Kd.R Kd.string 9 w' w.heap.size (fun _ => True) v0_ r ∧ Below w.heap.size w w' := by
  have HB := Aside0.mk (Below.refl w.heap.size w); have H : (some (([(⟨#[99, 114, 101, 97, 116, 101]⟩ : ByteArray), (⟨#[116, 97, 98, 108, 101]⟩ : ByteArray), (⟨#[105, 110, 115, 101, 114, 116]⟩ : ByteArray), (⟨#[105, 110, 116, 111]⟩ : ByteArray), (⟨#[118, 97, 108, 117, 101, 115]⟩ : ByteArray), (⟨#[117, 112, 100, 97, 116, 101]⟩ : ByteArray), (⟨#[115, 101, 116]⟩ : ByteArray), (⟨#[100, 101, 108, 101, 116, 101]⟩ : ByteArray), (⟨#[102, 114, 111, 109]⟩ : ByteArray), (⟨#[119, 104, 101, 114, 101]⟩ : ByteArray), (⟨#[115, 101, 108, 101, 99, 116]⟩ : ByteArray), (⟨#[97, 110, 100]⟩ : ByteArray), (⟨#[111, 114]⟩ : ByteArray), (⟨#[110, 111, 116]⟩ : ByteArray), (⟨#[108, 101, 110]⟩ : ByteArray), (⟨#[105, 110, 116]⟩ : ByteArray), (⟨#[116, 101, 120, 116]⟩ : ByteArray)] : List ByteArray))) = some r := h; clear h; obtain ⟨y119, hy119⟩ : ∃ y_ : List ByteArray, y_ = (([(⟨#[99, 114, 101, 97, 116, 101]⟩ : ByteArray), (⟨#[116, 97, 98, 108, 101]⟩ : ByteArray), (⟨#[105, 110, 115, 101, 114, 116]⟩ : ByteArray), (⟨#[105, 110, 116, 111]⟩ : ByteArray), (⟨#[118, 97, 108, 117, 101, 115]⟩ : ByteArray), (⟨#[117, 112, 100, 97, 116, 101]⟩ : ByteArray), (⟨#[115, 101, 116]⟩ : ByteArray), (⟨#[100, 101, 108, 101, 116, 101]⟩ : ByteArray), (⟨#[102, 114, 111, 109]⟩ : ByteArray), (⟨#[119, 104, 101, 114, 101]⟩ : ByteArray), (⟨#[115, 101, 108, 101, 99, 116]⟩ : ByteArray), (⟨#[97, 110, 100]⟩ : ByteArray), (⟨#[111, 114]⟩ : ByteArray), (⟨#[110, 111, 116]⟩ : ByteArray), (⟨#[108, 101, 110]⟩ : ByteArray), (⟨#[105, 110, 116]⟩ : ByteArray), (⟨#[116, 101, 120, 116]⟩ : ByteArray)] : List ByteArray)) := ⟨_, rfl⟩; (replace H : (some y119) = some r := by first | (rw [hy119]; with_reducible exact H) | (have H2_ := (Option.bind_some _ _).symm.trans H; rw [hy119]; with_reducible exact H2_) | (have H2_ := (Option.bind_some _ _).symm.trans H; with_reducible exact H2_) | with_reducible exact H | (rw [hy119]; exact H) | exact H); have Ny119 := Aside0.mk hy119; clear hy119; obtain rfl := Option.some.inj H; go_enter Tryd.func75, Tryd.ntmps75; go_wp2_with (first | ((with_reducible refine gds (N := 1) rfl ?_); refine Kd.R_lit Kd.string _ 9 ?hg (N := 1) ?hd (xs := ([(⟨#[99, 114, 101, 97, 116, 101]⟩ : ByteArray), (⟨#[116, 97, 98, 108, 101]⟩ : ByteArray), (⟨#[105, 110, 115, 101, 114, 116]⟩ : ByteArray), (⟨#[105, 110, 116, 111]⟩ : ByteArray), (⟨#[118, 97, 108, 117, 101, 115]⟩ : ByteArray), (⟨#[117, 112, 100, 97, 116, 101]⟩ : ByteArray), (⟨#[115, 101, 116]⟩ : ByteArray), (⟨#[100, 101, 108, 101, 116, 101]⟩ : ByteArray), (⟨#[102, 114, 111, 109]⟩ : ByteArray), (⟨#[119, 104, 101, 114, 101]⟩ : ByteArray), (⟨#[115, 101, 108, 101, 99, 116]⟩ : ByteArray), (⟨#[97, 110, 100]⟩ : ByteArray), (⟨#[111, 114]⟩ : ByteArray), (⟨#[110, 111, 116]⟩ : ByteArray), (⟨#[108, 101, 110]⟩ : ByteArray), (⟨#[105, 110, 116]⟩ : ByteArray), (⟨#[116, 101, 120, 116]⟩ : ByteArray)] : List ByteArray)) (inner := [.string (⟨#[99, 114, 101, 97, 116, 101]⟩ : ByteArray), .string (⟨#[116, 97, 98, 108, 101]⟩ : ByteArray), .string (⟨#[105, 110, 115, 101, 114, 116]⟩ : ByteArray), .string (⟨#[105, 110, 116, 111]⟩ : ByteArray), .string (⟨#[118, 97, 108, 117, 101, 115]⟩ : ByteArray), .string (⟨#[117, 112, 100, 97, 116, 101]⟩ : ByteArray), .string (⟨#[115, 101, 116]⟩ : ByteArray), .string (⟨#[100, 101, 108, 101, 116, 101]⟩ : ByteArray), .string (⟨#[102, 114, 111, 109]⟩ : ByteArray), .string (⟨#[119, 104, 101, 114, 101]⟩ : ByteArray), .string (⟨#[115, 101, 108, 101, 99, 116]⟩ : ByteArray), .string (⟨#[97, 110, 100]⟩ : ByteArray), .string (⟨#[111, 114]⟩ : ByteArray), .string (⟨#[110, 111, 116]⟩ : ByteArray), .string (⟨#[108, 101, 110]⟩ : ByteArray), .string (⟨#[105, 110, 116]⟩ : ByteArray), .string (⟨#[116, 101, 120, 116]⟩ : ByteArray)]) (ok := fun _ => True) (okp := fun _ => True) ?hr ?hp (fun _ hk => hk) trivial (Below.refl _ _) (Nat.le_refl _) (by simp) ?_; (case hd => rfl); (case hg => rfl); (case hr => first | (go_simp; done) | (go_simp; rfl)); (case hp => exact (Reps.one (show Kd.M Kd.string _ _ _ (⟨#[99, 114, 101, 97, 116, 101]⟩ : ByteArray) [.string (⟨#[99, 114, 101, 97, 116, 101]⟩ : ByteArray)] from rfl) (Reps.one (show Kd.M Kd.string _ _ _ (⟨#[116, 97, 98, 108, 101]⟩ : ByteArray) [.string (⟨#[116, 97, 98, 108, 101]⟩ : ByteArray)] from rfl) (Reps.one (show Kd.M Kd.string _ _ _ (⟨#[105, 110, 115, 101, 114, 116]⟩ : ByteArray) [.string (⟨#[105, 110, 115, 101, 114, 116]⟩ : ByteArray)] from rfl) (Reps.one (show Kd.M Kd.string _ _ _ (⟨#[105, 110, 116, 111]⟩ : ByteArray) [.string (⟨#[105, 110, 116, 111]⟩ : ByteArray)] from rfl) (Reps.one (show Kd.M Kd.string _ _ _ (⟨#[118, 97, 108, 117, 101, 115]⟩ : ByteArray) [.string (⟨#[118, 97, 108, 117, 101, 115]⟩ : ByteArray)] from rfl) (Reps.one (show Kd.M Kd.string _ _ _ (⟨#[117, 112, 100, 97, 116, 101]⟩ : ByteArray) [.string (⟨#[117, 112, 100, 97, 116, 101]⟩ : ByteArray)] from rfl) (Reps.one (show Kd.M Kd.string _ _ _ (⟨#[115, 101, 116]⟩ : ByteArray) [.string (⟨#[115, 101, 116]⟩ : ByteArray)] from rfl) (Reps.one (show Kd.M Kd.string _ _ _ (⟨#[100, 101, 108, 101, 116, 101]⟩ : ByteArray) [.string (⟨#[100, 101, 108, 101, 116, 101]⟩ : ByteArray)] from rfl) (Reps.one (show Kd.M Kd.string _ _ _ (⟨#[102, 114, 111, 109]⟩ : ByteArray) [.string (⟨#[102, 114, 111, 109]⟩ : ByteArray)] from rfl) (Reps.one (show Kd.M Kd.string _ _ _ (⟨#[119, 104, 101, 114, 101]⟩ : ByteArray) [.string (⟨#[119, 104, 101, 114, 101]⟩ : ByteArray)] from rfl) (Reps.one (show Kd.M Kd.string _ _ _ (⟨#[115, 101, 108, 101, 99, 116]⟩ : ByteArray) [.string (⟨#[115, 101, 108, 101, 99, 116]⟩ : ByteArray)] from rfl) (Reps.one (show Kd.M Kd.string _ _ _ (⟨#[97, 110, 100]⟩ : ByteArray) [.string (⟨#[97, 110, 100]⟩ : ByteArray)] from rfl) (Reps.one (show Kd.M Kd.string _ _ _ (⟨#[111, 114]⟩ : ByteArray) [.string (⟨#[111, 114]⟩ : ByteArray)] from rfl) (Reps.one (show Kd.M Kd.string _ _ _ (⟨#[110, 111, 116]⟩ : ByteArray) [.string (⟨#[110, 111, 116]⟩ : ByteArray)] from rfl) (Reps.one (show Kd.M Kd.string _ _ _ (⟨#[108, 101, 110]⟩ : ByteArray) [.string (⟨#[108, 101, 110]⟩ : ByteArray)] from rfl) (Reps.one (show Kd.M Kd.string _ _ _ (⟨#[105, 110, 116]⟩ : ByteArray) [.string (⟨#[105, 110, 116]⟩ : ByteArray)] from rfl) (Reps.one (show Kd.M Kd.string _ _ _ (⟨#[116, 101, 120, 116]⟩ : ByteArray) [.string (⟨#[116, 101, 120, 116]⟩ : ByteArray)] from rfl) (Reps.none _ _))))))))))))))))))); intro v120 w1 ho2 hb hg_ hnew_; clear hg_ hnew_; (first | rw [← Ny119.out] at ho2 | (simp only [Int.reduceToNat] at ho2; rw [← Ny119.out] at ho2)); have n0_ := Aside0.mk (Kd.Rlo ho2 (bsz (by repeat (first | (with_reducible first | exact HB.out | apply bal | apply pbd | apply bd1) | exact HB.out)))); have n1_ := Aside0.mk (bst (by repeat (first | (with_reducible first | exact HB.out | apply bal | apply pbd | apply bd1) | exact HB.out)) hb); have HO121 := n0_; replace HB := n1_; clear n0_ n1_; clear hb ho2)); go_ret; exact ⟨_, by first | rfl | (simp [eWn, eWs] <;> rfl) | (simp [*, eWn, eWs] <;> rfl), by (with_reducible repeat (first | apply Kd.Ral | apply Kd.RdN | apply Kd.Rdr)); exact HO121.out, by repeat (first | (with_reducible first | exact HB.out | apply bal | apply pbd | apply bd1) | exact HB.out)⟩
def spec_l4Inner.f (a0 : Int) : Option (Bool) := (spec_l4Letter.f a0).bind fun t122 => (if t122 = true then (some true) else (if a0 ≥ 48 then (if a0 ≤ 57 then (some true) else (some (a0 == 95))) else (some (a0 == 95))))
set_option maxHeartbeats 8000000 in
set_option maxRecDepth 100000 in
theorem spec_l4Inner.calls (a0 : Int) (r : Bool) (w : World) (h : spec_l4Inner.f a0 = some r) :
    Calls Tryd.prog 76 #[.int .u8 a0] w fun e w' => e = .returned (.bool r) ∧ Drawn0 w w' := by
  have H : ((spec_l4Letter.f a0).bind fun t122 => (if t122 = true then (some true) else (if a0 ≥ 48 then (if a0 ≤ 57 then (some true) else (some (a0 == 95))) else (some (a0 == 95))))) = some r := h; clear h; replace H := Option.bind_eq_some_iff.mp H; obtain ⟨t122, A20, H⟩ := H; replace H : (if t122 = true then (some true) else (if a0 ≥ 48 then (if a0 ≤ 57 then (some true) else (some (a0 == 95))) else (some (a0 == 95)))) = some r := H; have A2 := Aside0.mk A20; clear A20; by_cases c3 : t122 = true
  · subst c3; (have H1 : (some true) = some r := by rw [if_pos rfl] at H; exact H); clear H; have H := H1; clear H1; obtain rfl := Option.some.inj H; go_enter Tryd.func76, Tryd.ntmps76; go_wp2_with (first | ((with_reducible refine gcl (f := 73) rfl ?_); refine goesL_ (some 4) rfl rfl Tryd.func73 (by kernel_rfl) rfl #[.int .u8 a0] rfl (by (try simp only [List.map_toArray, List.map_cons, List.map_nil]); first | done | rfl | (simp only [List.length_drop, List.length_take]; rfl)) ?_; (with_reducible refine (spec_l4Letter.calls a0 true _ A2.out).mono ?_); rintro e w' ⟨rfl, ⟨nd, rfl⟩⟩; refine ⟨_, rfl, ?_⟩)); go_ret; exact ⟨by first | rfl | (simp; done) | (simp [*]; done), by repeat (first | exact Drawn0.refl _ | apply Drawn0.step)⟩
  · replace c3 := Bool.eq_false_iff.mpr c3; subst c3; (have H1 : (if a0 ≥ 48 then (if a0 ≤ 57 then (some true) else (some (a0 == 95))) else (some (a0 == 95))) = some r := by rw [if_neg (show ¬ (false = true) by decide)] at H; exact H); clear H; have H := H1; clear H1; by_cases c4 : a0 ≥ 48
    · rw [if_pos c4] at H; have c4b0 : decide (48 ≤ a0) = true := decide_eq_true c4; clear c4; by_cases c5 : a0 ≤ 57
      · rw [if_pos c5] at H; have c5b0 : decide (a0 ≤ 57) = true := decide_eq_true c5; clear c5; obtain rfl := Option.some.inj H; go_enter Tryd.func76, Tryd.ntmps76; go_wp2_with (first | ((with_reducible refine gcl (f := 73) rfl ?_); refine goesL_ (some 4) rfl rfl Tryd.func73 (by kernel_rfl) rfl #[.int .u8 a0] rfl (by (try simp only [List.map_toArray, List.map_cons, List.map_nil]); first | done | rfl | (simp only [List.length_drop, List.length_take]; rfl)) ?_; (with_reducible refine (spec_l4Letter.calls a0 false _ A2.out).mono ?_); rintro e w' ⟨rfl, ⟨nd, rfl⟩⟩; refine ⟨_, rfl, ?_⟩)); go_ret; exact ⟨by first | rfl | (simp; done) | (simp [*]; done), by repeat (first | exact Drawn0.refl _ | apply Drawn0.step)⟩
      · rw [if_neg c5] at H; have c5b0 : decide (a0 ≤ 57) = false := decide_eq_false c5; clear c5; obtain rfl := Option.some.inj H; go_enter Tryd.func76, Tryd.ntmps76; go_wp2_with (first | ((with_reducible refine gcl (f := 73) rfl ?_); refine goesL_ (some 4) rfl rfl Tryd.func73 (by kernel_rfl) rfl #[.int .u8 a0] rfl (by (try simp only [List.map_toArray, List.map_cons, List.map_nil]); first | done | rfl | (simp only [List.length_drop, List.length_take]; rfl)) ?_; (with_reducible refine (spec_l4Letter.calls a0 false _ A2.out).mono ?_); rintro e w' ⟨rfl, ⟨nd, rfl⟩⟩; refine ⟨_, rfl, ?_⟩)); go_ret; exact ⟨by first | rfl | (simp; done) | (simp [*]; done), by repeat (first | exact Drawn0.refl _ | apply Drawn0.step)⟩
    · rw [if_neg c4] at H; have c4b0 : decide (48 ≤ a0) = false := decide_eq_false c4; clear c4; obtain rfl := Option.some.inj H; go_enter Tryd.func76, Tryd.ntmps76; go_wp2_with (first | ((with_reducible refine gcl (f := 73) rfl ?_); refine goesL_ (some 4) rfl rfl Tryd.func73 (by kernel_rfl) rfl #[.int .u8 a0] rfl (by (try simp only [List.map_toArray, List.map_cons, List.map_nil]); first | done | rfl | (simp only [List.length_drop, List.length_take]; rfl)) ?_; (with_reducible refine (spec_l4Letter.calls a0 false _ A2.out).mono ?_); rintro e w' ⟨rfl, ⟨nd, rfl⟩⟩; refine ⟨_, rfl, ?_⟩)); go_ret; exact ⟨by first | rfl | (simp; done) | (simp [*]; done), by repeat (first | exact Drawn0.refl _ | apply Drawn0.step)⟩
mutual
def spec_l4Name.j0 : Nat → ByteArray → Bool → Option (Bool)
  | 0, _, _ => none
  | k + 1, x0, x18 => if x18 = true then (some false) else (spec_l4Name.l0 k x0 0)
def spec_l4Name.l0 : Nat → ByteArray → Int → Option (Bool)
  | 0, _, _ => none
  | k + 1, x0, x3 => if x3 < (x0.size : Int) then (if 0 ≤ x3 then ((spec_l4Inner.f (bt x0 x3)).bind fun t129 => (if t129 = true then (spec_l4Name.l0 k x0 (wrap64 (x3 + 1))) else (some false))) else (none)) else (some true)
end
def spec_l4Name.f (k : Nat) (a0 : ByteArray) : Option (Bool) := (spec_l1Between.f (a0.size : Int) 1 30).bind fun t123 => (if t123 = true then (if 0 < (a0.size : Int) then ((spec_l4Letter.f (bt a0 0)).bind fun t124 => (if t124 = true then ((spec_l4Keywords.f).bind fun t125 => ((spec_l4Has.f k t125 a0).bind fun t128 => (spec_l4Name.j0 k a0 t128))) else (spec_l4Name.j0 k a0 true))) else (none)) else (spec_l4Name.j0 k a0 true))
theorem spec_l4Name.mono_l : ∀ k, (∀ y0 y1, LeO (spec_l4Name.j0 k y0 y1) (spec_l4Name.j0 (k + 1) y0 y1)) ∧ (∀ y0 y1, LeO (spec_l4Name.l0 k y0 y1) (spec_l4Name.l0 (k + 1) y0 y1))
  | 0 => ⟨fun _ _ r h => by simp [spec_l4Name.j0] at h, fun _ _ r h => by simp [spec_l4Name.l0] at h⟩
  | k + 1 => by
    obtain ⟨ih0, ih1⟩ := spec_l4Name.mono_l k
    refine ⟨?_, ?_⟩
    · intro y0 y1
      unfold spec_l4Name.j0
      repeat' first
      | (with_reducible exact ih0 _ _)
      | (with_reducible exact ih1 _ _)
      | (with_reducible exact spec_l4Has.mono _ _ _)
      | (with_reducible exact LeO.refl _)
      | (with_reducible exact LeO.none _)
      | (with_reducible refine LeO.ite ?_ ?_)
      | (with_reducible refine LeO.bind ?_ (fun _ => ?_))
      | exact ih0 _ _
      | exact ih1 _ _
      | exact spec_l4Has.mono _ _ _
      | exact LeO.none _
      | refine LeO.ite ?_ ?_
      | refine LeO.bind ?_ (fun _ => ?_)
    · intro y0 y1
      unfold spec_l4Name.l0
      repeat' first
      | (with_reducible exact ih0 _ _)
      | (with_reducible exact ih1 _ _)
      | (with_reducible exact spec_l4Has.mono _ _ _)
      | (with_reducible exact LeO.refl _)
      | (with_reducible exact LeO.none _)
      | (with_reducible refine LeO.ite ?_ ?_)
      | (with_reducible refine LeO.bind ?_ (fun _ => ?_))
      | exact ih0 _ _
      | exact ih1 _ _
      | exact spec_l4Has.mono _ _ _
      | exact LeO.none _
      | refine LeO.ite ?_ ?_
      | refine LeO.bind ?_ (fun _ => ?_)
theorem spec_l4Name.mono : ∀ a0 k, LeO (spec_l4Name.f k a0) (spec_l4Name.f (k + 1) a0) := by
  intro a0 k
  obtain ⟨ih0, ih1⟩ := spec_l4Name.mono_l k
  unfold spec_l4Name.f
  repeat' first
      | (with_reducible exact ih0 _ _)
      | (with_reducible exact ih1 _ _)
      | (with_reducible exact spec_l4Has.mono _ _ _)
      | (with_reducible exact LeO.refl _)
      | (with_reducible exact LeO.none _)
      | (with_reducible refine LeO.ite ?_ ?_)
      | (with_reducible refine LeO.bind ?_ (fun _ => ?_))
      | exact ih0 _ _
      | exact ih1 _ _
      | exact spec_l4Has.mono _ _ _
      | exact LeO.none _
      | refine LeO.ite ?_ ?_
      | refine LeO.bind ?_ (fun _ => ?_)
set_option maxHeartbeats 8000000 in
set_option maxRecDepth 100000 in
theorem spec_l4Name.calls (k : Nat) (a0 : ByteArray) (r : Bool) (w : World) (h : spec_l4Name.f k a0 = some r) :
    Calls Tryd.prog 54 #[.string a0] w fun e w' => e = .returned (.bool r) ∧ Below w.heap.size w w' := by
  have HB := Aside0.mk (Below.refl w.heap.size w); have H : ((spec_l1Between.f (a0.size : Int) 1 30).bind fun t123 => (if t123 = true then (if 0 < (a0.size : Int) then ((spec_l4Letter.f (bt a0 0)).bind fun t124 => (if t124 = true then ((spec_l4Keywords.f).bind fun t125 => ((spec_l4Has.f k t125 a0).bind fun t128 => (spec_l4Name.j0 k a0 t128))) else (spec_l4Name.j0 k a0 true))) else (none)) else (spec_l4Name.j0 k a0 true))) = some r := h; clear h; have HC2 := Aside0.mk H; clear H; go_enter Tryd.func54, Tryd.ntmps54; go_upto_region 1 with (fail); go_cut [18] (fun v18 wc => ∃ (kq : Nat) (x18_1 : Bool), v18 = .bool x18_1 ∧ Aside0 (spec_l4Name.j0 kq a0 x18_1 = some r) ∧ Aside0 (kq ≤ k) ∧ Aside0 (Below w.heap.size w wc))
  case first =>
    have H := HC2.out; clear HC2; replace H := Option.bind_eq_some_iff.mp H; obtain ⟨t123, A30, H⟩ := H; replace H : (if t123 = true then (if 0 < (a0.size : Int) then ((spec_l4Letter.f (bt a0 0)).bind fun t124 => (if t124 = true then ((spec_l4Keywords.f).bind fun t125 => ((spec_l4Has.f k t125 a0).bind fun t128 => (spec_l4Name.j0 k a0 t128))) else (spec_l4Name.j0 k a0 true))) else (none)) else (spec_l4Name.j0 k a0 true)) = some r := H; have A3 := Aside0.mk A30; clear A30; by_cases c4 : t123 = true
    · subst c4; (have H1 : (if 0 < (a0.size : Int) then ((spec_l4Letter.f (bt a0 0)).bind fun t124 => (if t124 = true then ((spec_l4Keywords.f).bind fun t125 => ((spec_l4Has.f k t125 a0).bind fun t128 => (spec_l4Name.j0 k a0 t128))) else (spec_l4Name.j0 k a0 true))) else (none)) = some r := by rw [if_pos rfl] at H; exact H); clear H; have H := H1; clear H1; by_cases c5 : 0 < (a0.size : Int)
      · rw [if_pos c5] at H; have c5b0 : decide (0 < (a0.size : Int)) = true := decide_eq_true c5; have c5b1 : decide (0 < a0.size) = true := decide_eq_true (by omega); clear c5; (first | rw [c5b0] | (simp only [i64_w, i32_w]; rw [c5b0]) | skip); replace H := Option.bind_eq_some_iff.mp H; obtain ⟨t124, A70, H⟩ := H; replace H : (if t124 = true then ((spec_l4Keywords.f).bind fun t125 => ((spec_l4Has.f k t125 a0).bind fun t128 => (spec_l4Name.j0 k a0 t128))) else (spec_l4Name.j0 k a0 true)) = some r := H; have A7 := Aside0.mk A70; clear A70; by_cases c8 : t124 = true
        · subst c8; (have H1 : ((spec_l4Keywords.f).bind fun t125 => ((spec_l4Has.f k t125 a0).bind fun t128 => (spec_l4Name.j0 k a0 t128))) = some r := by rw [if_pos rfl] at H; exact H); clear H; have H := H1; clear H1; replace H := Option.bind_eq_some_iff.mp H; obtain ⟨t125, A90, H⟩ := H; replace H : ((spec_l4Has.f k t125 a0).bind fun t128 => (spec_l4Name.j0 k a0 t128)) = some r := H; have A9 := Aside0.mk A90; clear A90; replace H := Option.bind_eq_some_iff.mp H; obtain ⟨t128, A100, H⟩ := H; replace H : (spec_l4Name.j0 k a0 t128) = some r := H; have A10 := Aside0.mk A100; clear A100; have H' := Aside0.mk H; clear H; go_wp2_with (first | ((with_reducible refine gcl (f := 72) rfl ?_); refine goesL_ (some 6) rfl rfl Tryd.func72 (by kernel_rfl) rfl #[.int .i64 (a0.size : Int), .int .i64 1, .int .i64 30] rfl (by (try simp only [List.map_toArray, List.map_cons, List.map_nil]); first | done | rfl | (simp only [List.length_drop, List.length_take]; rfl)) ?_; (with_reducible refine (spec_l1Between.calls (a0.size : Int) 1 30 true _ A3.out).mono ?_); rintro e w' ⟨rfl, ⟨nd, rfl⟩⟩; refine ⟨_, rfl, ?_⟩; have p6 : 0 ≤ (0 : Int) := (by omega); have q6 : 0 < a0.size := (by have : (0 : Int) < (a0.size : Int) := of_decide_eq_true (by first | (with_reducible assumption) | assumption); omega); have hx6 : ∀ h : 0 < a0.size, ((a0[0]'h).toNat : Int) = bt a0 0 := bt_at a0 0; clear p6; have qi6 : (0 < (a0.size : Int)) = True := eq_true (of_decide_eq_true (by first | (with_reducible assumption) | assumption)); replace q6 := eq_true q6) | (go_at_call 73; (with_reducible refine (spec_l4Letter.calls (bt a0 0) true _ A7.out).mono ?_); rintro e w' ⟨rfl, ⟨nd, rfl⟩⟩) | (go_at_call 75; (with_reducible refine (spec_l4Keywords.calls  t125 _ A9.out).mono ?_); rintro e w11 ⟨v126, rfl, ho0, hb⟩; have n0_ := Aside0.mk (Kd.Rlo ho0 (bsz (by repeat (first | (with_reducible first | exact HB.out | apply bal | apply pbd | apply bd1) | exact HB.out)))); have n1_ := Aside0.mk (bst (by repeat (first | (with_reducible first | exact HB.out | apply bal | apply pbd | apply bd1) | exact HB.out)) hb); have HO127 := n0_; replace HB := n1_; clear n0_ n1_; (try clear hb); (try clear hb2); (try clear hk); (try clear hi); (try clear ho0); obtain ⟨Ao12, co12, eo12⟩ := Kd.R_slice HO127.out; subst eo12) | (go_at_call 74; (with_reducible refine (spec_l4Has.calls k _ _ t125 a0 t128 _ ?side1 ?side2 A10.out).mono ?_); (case side1 => repeat (first | exact (Kd.R_reads' HO127.out).2.2 | (with_reducible refine Kd.Cal ?_ _) | (with_reducible refine Kd.CdN ?_ _) | (with_reducible refine Kd.Cdr ?_))); (case side2 => exact (Kd.R_reads' HO127.out).2.1); rintro e w' ⟨rfl, ⟨nd, rfl⟩⟩)); go_meet
          case rel => exact ⟨_, (t128), (by first | rfl | (simp; done) | (simp [*]; done)), H', ⟨by first | omega | exact Nat.le_refl _⟩, ⟨by repeat (first | (with_reducible first | exact HB.out | apply bal | apply pbd | apply bd1) | exact HB.out)⟩⟩
        · replace c8 := Bool.eq_false_iff.mpr c8; subst c8; (have H1 : (spec_l4Name.j0 k a0 true) = some r := by rw [if_neg (show ¬ (false = true) by decide)] at H; exact H); clear H; have H := H1; clear H1; have H' := Aside0.mk H; clear H; go_wp2_with (first | ((with_reducible refine gcl (f := 72) rfl ?_); refine goesL_ (some 6) rfl rfl Tryd.func72 (by kernel_rfl) rfl #[.int .i64 (a0.size : Int), .int .i64 1, .int .i64 30] rfl (by (try simp only [List.map_toArray, List.map_cons, List.map_nil]); first | done | rfl | (simp only [List.length_drop, List.length_take]; rfl)) ?_; (with_reducible refine (spec_l1Between.calls (a0.size : Int) 1 30 true _ A3.out).mono ?_); rintro e w' ⟨rfl, ⟨nd, rfl⟩⟩; refine ⟨_, rfl, ?_⟩; have p6 : 0 ≤ (0 : Int) := (by omega); have q6 : 0 < a0.size := (by have : (0 : Int) < (a0.size : Int) := of_decide_eq_true (by first | (with_reducible assumption) | assumption); omega); have hx6 : ∀ h : 0 < a0.size, ((a0[0]'h).toNat : Int) = bt a0 0 := bt_at a0 0; clear p6; have qi6 : (0 < (a0.size : Int)) = True := eq_true (of_decide_eq_true (by first | (with_reducible assumption) | assumption)); replace q6 := eq_true q6) | (go_at_call 73; (with_reducible refine (spec_l4Letter.calls (bt a0 0) false _ A7.out).mono ?_); rintro e w' ⟨rfl, ⟨nd, rfl⟩⟩)); go_meet
          case rel => exact ⟨_, (true), (by first | rfl | (simp; done) | (simp [*]; done)), H', ⟨by first | omega | exact Nat.le_refl _⟩, ⟨by repeat (first | (with_reducible first | exact HB.out | apply bal | apply pbd | apply bd1) | exact HB.out)⟩⟩
      · rw [if_neg c5] at H; exact absurd H (by simp)
    · replace c4 := Bool.eq_false_iff.mpr c4; subst c4; (have H1 : (spec_l4Name.j0 k a0 true) = some r := by rw [if_neg (show ¬ (false = true) by decide)] at H; exact H); clear H; have H := H1; clear H1; have H' := Aside0.mk H; clear H; go_wp2_with (first | ((with_reducible refine gcl (f := 72) rfl ?_); refine goesL_ (some 6) rfl rfl Tryd.func72 (by kernel_rfl) rfl #[.int .i64 (a0.size : Int), .int .i64 1, .int .i64 30] rfl (by (try simp only [List.map_toArray, List.map_cons, List.map_nil]); first | done | rfl | (simp only [List.length_drop, List.length_take]; rfl)) ?_; (with_reducible refine (spec_l1Between.calls (a0.size : Int) 1 30 false _ A3.out).mono ?_); rintro e w' ⟨rfl, ⟨nd, rfl⟩⟩; refine ⟨_, rfl, ?_⟩)); go_meet
      case rel => exact ⟨_, (true), (by first | rfl | (simp; done) | (simp [*]; done)), H', ⟨by first | omega | exact Nat.le_refl _⟩, ⟨by repeat (first | (with_reducible first | exact HB.out | apply bal | apply pbd | apply bd1) | exact HB.out)⟩⟩
  case rest =>
    clear HC2; (try clear p2); (try clear c4); (try clear c5); (try clear c5b0); (try clear c5b1); (try clear p6); (try clear q6); (try clear hx6); (try clear qi6); (try clear c7); (try clear c8); (try clear p6); (try clear q6); obtain ⟨kq, x18_1, rfl, HA, HJ1, HB⟩ := hcut
    cases kq with
    | zero => exact absurd HA.out (by simp [spec_l4Name.j0])
    | succ kj1 =>
      have H := HA.out; clear HA; simp only [spec_l4Name.j0] at H; by_cases c13 : x18_1 = true
      · subst c13; (have H1 : (some false) = some r := by rw [if_pos rfl] at H; exact H); clear H; have H := H1; clear H1; obtain rfl := Option.some.inj H; go_wp2; go_ret; exact ⟨by first | rfl | (simp [eWn, eWs] <;> rfl) | (simp [*, eWn, eWs] <;> rfl), by repeat (first | (with_reducible first | exact HB.out | apply bal | apply pbd | apply bd1) | exact HB.out)⟩
      · replace c13 := Bool.eq_false_iff.mpr c13; subst c13; (have H1 : (spec_l4Name.l0 kj1 a0 0) = some r := by rw [if_neg (show ¬ (false = true) by decide)] at H; exact H); clear H; have H := H1; clear H1; have H' := Aside0.mk H; clear H; go_wp2; go_loopg [3] kj1 (fun kq v3 w' => ∃ (x3_2 : Int), v3 = .int .i64 x3_2 ∧ Aside0 (spec_l4Name.l0 kq a0 x3_2 = some r) ∧ Aside0 (kq ≤ kj1) ∧ Aside0 (Below w.heap.size w w'))
        case atStart => exact ⟨(0), (by first | rfl | (simp; done) | (simp [*]; done)), H', ⟨Nat.le_refl _⟩, ⟨by repeat (first | (with_reducible first | exact HB.out | apply bal | apply pbd | apply bd1) | exact HB.out)⟩⟩
        case round =>
          clear H'; (try clear c1); (try clear p2); (try clear c4); (try clear c5); (try clear c5b0); (try clear c5b1); (try clear p6); (try clear q6); (try clear hx6); (try clear qi6); (try clear c7); (try clear c8); (try clear c13); (try clear p2); (try clear p6); (try clear q6); obtain ⟨x3_2, rfl, HA, HK2, HB⟩ := hrel
          cases gk with
          | zero => exact absurd HA.out (by simp [spec_l4Name.l0])
          | succ k2 =>
            have H := HA.out; clear HA; simp only [spec_l4Name.l0] at H; by_cases c14 : x3_2 < (a0.size : Int)
            · rw [if_pos c14] at H; have c14b0 : decide (x3_2 < (a0.size : Int)) = true := decide_eq_true c14; clear c14; by_cases c15 : 0 ≤ x3_2
              · rw [if_pos c15] at H; have c15b0 : decide (0 ≤ x3_2) = true := decide_eq_true c15; clear c15; replace H := Option.bind_eq_some_iff.mp H; obtain ⟨t129, A170, H⟩ := H; replace H : (if t129 = true then (spec_l4Name.l0 k2 a0 (wrap64 (x3_2 + 1))) else (some false)) = some r := H; have A17 := Aside0.mk A170; clear A170; by_cases c18 : t129 = true
                · subst c18; (have H1 : (spec_l4Name.l0 k2 a0 (wrap64 (x3_2 + 1))) = some r := by rw [if_pos rfl] at H; exact H); clear H; have H := H1; clear H1; have H' := Aside0.mk H; clear H; have p16 : 0 ≤ (x3_2 : Int) := of_decide_eq_true (by first | (with_reducible assumption) | assumption); have q16 : x3_2 < (a0.size : Int) := of_decide_eq_true (by first | (with_reducible assumption) | assumption); have hx16 := bt_at a0 x3_2; replace p16 := eq_true p16; replace q16 := eq_true q16; go_wp2_with (first | ((with_reducible refine gcl (f := 76) rfl ?_); refine goesL_ (some 28) rfl rfl Tryd.func76 (by kernel_rfl) rfl #[.int .u8 (bt a0 x3_2)] rfl (by (try simp only [List.map_toArray, List.map_cons, List.map_nil]); first | done | rfl | (simp only [List.length_drop, List.length_take]; rfl)) ?_; (with_reducible refine (spec_l4Inner.calls (bt a0 x3_2) true _ A17.out).mono ?_); rintro e w' ⟨rfl, ⟨nd, rfl⟩⟩; refine ⟨_, rfl, ?_⟩)); go_roundg k2
                  case measure => have := HJ1.out; have := HK2.out; omega
                  case rel => exact ⟨(wrap64 (x3_2 + 1)), (by first | rfl | (simp; done) | (simp [*]; done)), H', ⟨by have := HJ1.out; have := HK2.out; omega⟩, ⟨by repeat (first | (with_reducible first | exact HB.out | apply bal | apply pbd | apply bd1) | exact HB.out)⟩⟩
                · replace c18 := Bool.eq_false_iff.mpr c18; subst c18; (have H1 : (some false) = some r := by rw [if_neg (show ¬ (false = true) by decide)] at H; exact H); clear H; have H := H1; clear H1; obtain rfl := Option.some.inj H; have p16 : 0 ≤ (x3_2 : Int) := of_decide_eq_true (by first | (with_reducible assumption) | assumption); have q16 : x3_2 < (a0.size : Int) := of_decide_eq_true (by first | (with_reducible assumption) | assumption); have hx16 := bt_at a0 x3_2; replace p16 := eq_true p16; replace q16 := eq_true q16; go_wp2_with (first | ((with_reducible refine gcl (f := 76) rfl ?_); refine goesL_ (some 28) rfl rfl Tryd.func76 (by kernel_rfl) rfl #[.int .u8 (bt a0 x3_2)] rfl (by (try simp only [List.map_toArray, List.map_cons, List.map_nil]); first | done | rfl | (simp only [List.length_drop, List.length_take]; rfl)) ?_; (with_reducible refine (spec_l4Inner.calls (bt a0 x3_2) false _ A17.out).mono ?_); rintro e w' ⟨rfl, ⟨nd, rfl⟩⟩; refine ⟨_, rfl, ?_⟩)); go_ret; exact ⟨by first | rfl | (simp [eWn, eWs] <;> rfl) | (simp [*, eWn, eWs] <;> rfl), by repeat (first | (with_reducible first | exact HB.out | apply bal | apply pbd | apply bd1) | exact HB.out)⟩
              · rw [if_neg c15] at H; exact absurd H (by simp)
            · rw [if_neg c14] at H; have c14b0 : decide (x3_2 < (a0.size : Int)) = false := decide_eq_false c14; clear c14; obtain rfl := Option.some.inj H; go_wp2; go_ret; exact ⟨by first | rfl | (simp [eWn, eWs] <;> rfl) | (simp [*, eWn, eWs] <;> rfl), by repeat (first | (with_reducible first | exact HB.out | apply bal | apply pbd | apply bd1) | exact HB.out)⟩
def spec_l4Type.f (a0 : Int) : Option (Bool) := if a0 = 1 then (some true) else (some (a0 == 2))
set_option maxHeartbeats 8000000 in
set_option maxRecDepth 100000 in
theorem spec_l4Type.calls (a0 : Int) (r : Bool) (w : World) (h : spec_l4Type.f a0 = some r) :
    Calls Tryd.prog 55 #[.int .i64 a0] w fun e w' => e = .returned (.bool r) ∧ Drawn0 w w' := by
  have H : (if a0 = 1 then (some true) else (some (a0 == 2))) = some r := h; clear h; by_cases c2 : a0 = 1
  · rw [if_pos c2] at H; have c2b0 : (a0 == 1) = true := beq_iff_eq.mpr c2; have c2b1 : (a0 != 1) = false := bne_eq_false_iff_eq.mpr c2; clear c2; obtain rfl := Option.some.inj H; go_enter Tryd.func55, Tryd.ntmps55; go_wp2; go_ret; exact ⟨by first | rfl | (simp; done) | (simp [*]; done), by repeat (first | exact Drawn0.refl _ | apply Drawn0.step)⟩
  · rw [if_neg c2] at H; have c2b0 : (a0 == 1) = false := beq_eq_false_iff_ne.mpr c2; have c2b1 : (a0 != 1) = true := bne_iff_ne.mpr c2; obtain rfl := Option.some.inj H; go_enter Tryd.func55, Tryd.ntmps55; go_wp2; go_ret; exact ⟨by first | rfl | (simp; done) | (simp [*]; done), by repeat (first | exact Drawn0.refl _ | apply Drawn0.step)⟩
def spec_l4Number.f (a0 : Int) : Option (Bool) := some (a0 != (-9223372036854775808))
set_option maxHeartbeats 8000000 in
set_option maxRecDepth 100000 in
theorem spec_l4Number.calls (a0 : Int) (r : Bool) (w : World) (h : spec_l4Number.f a0 = some r) :
    Calls Tryd.prog 77 #[.int .i64 a0] w fun e w' => e = .returned (.bool r) ∧ Drawn0 w w' := by
  have H : (some (a0 != (-9223372036854775808))) = some r := h; clear h; obtain rfl := Option.some.inj H; go_enter Tryd.func77, Tryd.ntmps77; go_wp2; go_ret; exact ⟨by first | rfl | (simp; done) | (simp [*]; done), by repeat (first | exact Drawn0.refl _ | apply Drawn0.step)⟩
def spec_l4Text.l0 : Nat → ByteArray → Int → Option (Bool)
  | 0, _, _ => none
  | k + 1, x0, x3 => if x3 < (x0.size : Int) then (if 0 ≤ x3 then ((spec_l1Between.f (wrap64 (bt x0 x3)) 32 126).bind fun t130 => (if t130 = true then (spec_l4Text.l0 k x0 (wrap64 (x3 + 1))) else (some false))) else (none)) else (some true)
def spec_l4Text.f (k : Nat) (a0 : ByteArray) : Option (Bool) := if (a0.size : Int) > 200 then (some false) else (spec_l4Text.l0 k a0 0)
theorem spec_l4Text.mono_l : ∀ k, (∀ y0 y1, LeO (spec_l4Text.l0 k y0 y1) (spec_l4Text.l0 (k + 1) y0 y1))
  | 0 => fun _ _ r h => by simp [spec_l4Text.l0] at h
  | k + 1 => by
    have ih0 := spec_l4Text.mono_l k
    · intro y0 y1
      unfold spec_l4Text.l0
      repeat' first
      | (with_reducible exact ih0 _ _)
      | (with_reducible exact LeO.refl _)
      | (with_reducible exact LeO.none _)
      | (with_reducible refine LeO.ite ?_ ?_)
      | (with_reducible refine LeO.bind ?_ (fun _ => ?_))
      | exact ih0 _ _
      | exact LeO.none _
      | refine LeO.ite ?_ ?_
      | refine LeO.bind ?_ (fun _ => ?_)
theorem spec_l4Text.mono : ∀ a0 k, LeO (spec_l4Text.f k a0) (spec_l4Text.f (k + 1) a0) := by
  intro a0 k
  have ih0 := spec_l4Text.mono_l k
  unfold spec_l4Text.f
  repeat' first
      | (with_reducible exact ih0 _ _)
      | (with_reducible exact LeO.refl _)
      | (with_reducible exact LeO.none _)
      | (with_reducible refine LeO.ite ?_ ?_)
      | (with_reducible refine LeO.bind ?_ (fun _ => ?_))
      | exact ih0 _ _
      | exact LeO.none _
      | refine LeO.ite ?_ ?_
      | refine LeO.bind ?_ (fun _ => ?_)
set_option maxHeartbeats 8000000 in
set_option maxRecDepth 100000 in
theorem spec_l4Text.calls (k : Nat) (a0 : ByteArray) (r : Bool) (w : World) (h : spec_l4Text.f k a0 = some r) :
    Calls Tryd.prog 78 #[.string a0] w fun e w' => e = .returned (.bool r) ∧ Drawn0 w w' := by
  have H : (if (a0.size : Int) > 200 then (some false) else (spec_l4Text.l0 k a0 0)) = some r := h; clear h; by_cases c2 : (a0.size : Int) > 200
  · rw [if_pos c2] at H; have c2b0 : decide (200 < (a0.size : Int)) = true := decide_eq_true c2; have c2b1 : decide (200 < a0.size) = true := decide_eq_true (by omega); clear c2; obtain rfl := Option.some.inj H; go_enter Tryd.func78, Tryd.ntmps78; go_wp2; go_ret; exact ⟨by first | rfl | (simp; done) | (simp [*]; done), by repeat (first | exact Drawn0.refl _ | apply Drawn0.step)⟩
  · rw [if_neg c2] at H; have c2b0 : decide (200 < (a0.size : Int)) = false := decide_eq_false c2; have c2b1 : decide (200 < a0.size) = false := decide_eq_false (by omega); clear c2; have H' := Aside0.mk H; clear H; go_enter Tryd.func78, Tryd.ntmps78; go_wp2; go_loopg [3] k (fun kq v3 w' => ∃ (x3_1 : Int), v3 = .int .i64 x3_1 ∧ Aside0 (spec_l4Text.l0 kq a0 x3_1 = some r) ∧ Aside0 (kq ≤ k) ∧ Drawn0 w w')
    case atStart => exact ⟨(0), (by first | rfl | (simp; done) | (simp [*]; done)), H', ⟨Nat.le_refl _⟩, by repeat (first | exact Drawn0.refl _ | apply Drawn0.step)⟩
    case round =>
      clear H'; (try clear c2); (try clear c2b0); (try clear c2b1); (try clear p2); obtain ⟨x3_1, rfl, HA, HK1, ⟨m1, rfl⟩⟩ := hrel
      cases gk with
      | zero => exact absurd HA.out (by simp [spec_l4Text.l0])
      | succ k1 =>
        have H := HA.out; clear HA; simp only [spec_l4Text.l0] at H; by_cases c3 : x3_1 < (a0.size : Int)
        · rw [if_pos c3] at H; have c3b0 : decide (x3_1 < (a0.size : Int)) = true := decide_eq_true c3; clear c3; by_cases c4 : 0 ≤ x3_1
          · rw [if_pos c4] at H; have c4b0 : decide (0 ≤ x3_1) = true := decide_eq_true c4; clear c4; replace H := Option.bind_eq_some_iff.mp H; obtain ⟨t130, A60, H⟩ := H; replace H : (if t130 = true then (spec_l4Text.l0 k1 a0 (wrap64 (x3_1 + 1))) else (some false)) = some r := H; have A6 := Aside0.mk A60; clear A60; by_cases c7 : t130 = true
            · subst c7; (have H1 : (spec_l4Text.l0 k1 a0 (wrap64 (x3_1 + 1))) = some r := by rw [if_pos rfl] at H; exact H); clear H; have H := H1; clear H1; have H' := Aside0.mk H; clear H; have p5 : 0 ≤ (x3_1 : Int) := of_decide_eq_true (by first | (with_reducible assumption) | assumption); have q5 : x3_1 < (a0.size : Int) := of_decide_eq_true (by first | (with_reducible assumption) | assumption); have hx5 := bt_at a0 x3_1; replace p5 := eq_true p5; replace q5 := eq_true q5; go_wp2_with (first | ((with_reducible refine gcl (f := 72) rfl ?_); refine goesL_ (some 17) rfl rfl Tryd.func72 (by kernel_rfl) rfl #[.int .i64 (wrap64 (bt a0 x3_1)), .int .i64 32, .int .i64 126] rfl (by (try simp only [List.map_toArray, List.map_cons, List.map_nil]); first | done | rfl | (simp only [List.length_drop, List.length_take]; rfl)) ?_; (with_reducible refine (spec_l1Between.calls (wrap64 (bt a0 x3_1)) 32 126 true _ A6.out).mono ?_); rintro e w' ⟨rfl, ⟨nd, rfl⟩⟩; refine ⟨_, rfl, ?_⟩)); go_roundg k1
              case measure => have := HK1.out; omega
              case rel => exact ⟨(wrap64 (x3_1 + 1)), (by first | rfl | (simp; done) | (simp [*]; done)), H', ⟨by have := HK1.out; omega⟩, by repeat (first | exact Drawn0.refl _ | apply Drawn0.step)⟩
            · replace c7 := Bool.eq_false_iff.mpr c7; subst c7; (have H1 : (some false) = some r := by rw [if_neg (show ¬ (false = true) by decide)] at H; exact H); clear H; have H := H1; clear H1; obtain rfl := Option.some.inj H; have p5 : 0 ≤ (x3_1 : Int) := of_decide_eq_true (by first | (with_reducible assumption) | assumption); have q5 : x3_1 < (a0.size : Int) := of_decide_eq_true (by first | (with_reducible assumption) | assumption); have hx5 := bt_at a0 x3_1; replace p5 := eq_true p5; replace q5 := eq_true q5; go_wp2_with (first | ((with_reducible refine gcl (f := 72) rfl ?_); refine goesL_ (some 17) rfl rfl Tryd.func72 (by kernel_rfl) rfl #[.int .i64 (wrap64 (bt a0 x3_1)), .int .i64 32, .int .i64 126] rfl (by (try simp only [List.map_toArray, List.map_cons, List.map_nil]); first | done | rfl | (simp only [List.length_drop, List.length_take]; rfl)) ?_; (with_reducible refine (spec_l1Between.calls (wrap64 (bt a0 x3_1)) 32 126 false _ A6.out).mono ?_); rintro e w' ⟨rfl, ⟨nd, rfl⟩⟩; refine ⟨_, rfl, ?_⟩)); go_ret; exact ⟨by first | rfl | (simp; done) | (simp [*]; done), by repeat (first | exact Drawn0.refl _ | apply Drawn0.step)⟩
          · rw [if_neg c4] at H; exact absurd H (by simp)
        · rw [if_neg c3] at H; have c3b0 : decide (x3_1 < (a0.size : Int)) = false := decide_eq_false c3; clear c3; obtain rfl := Option.some.inj H; go_wp2; go_ret; exact ⟨by first | rfl | (simp; done) | (simp [*]; done), by repeat (first | exact Drawn0.refl _ | apply Drawn0.step)⟩
def spec_l4Value.f (k : Nat) (a0_0 : Int) (a0_1 : Int) (a0_2 : ByteArray) : Option (Bool) := if a0_0 = 1 then ((spec_l4Number.f a0_1).bind fun t132 => (if t132 = true then (some (a0_2.toList == ([] : List UInt8))) else (some false))) else (if a0_0 = 2 then (if a0_1 = 0 then ((spec_l4Text.f k a0_2).bind fun t133 => (some t133)) else (some false)) else (some false))
theorem spec_l4Value.mono : ∀ a0 a1 a2 k, LeO (spec_l4Value.f k a0 a1 a2) (spec_l4Value.f (k + 1) a0 a1 a2) := by
  intro a0 a1 a2 k
  unfold spec_l4Value.f
  repeat' first
      | (with_reducible exact spec_l4Text.mono _ _)
      | (with_reducible exact LeO.refl _)
      | (with_reducible exact LeO.none _)
      | (with_reducible refine LeO.ite ?_ ?_)
      | (with_reducible refine LeO.bind ?_ (fun _ => ?_))
      | exact spec_l4Text.mono _ _
      | exact LeO.none _
      | refine LeO.ite ?_ ?_
      | refine LeO.bind ?_ (fun _ => ?_)
set_option maxHeartbeats 8000000 in
set_option maxRecDepth 100000 in
theorem spec_l4Value.calls (k : Nat) (a0_0 : Int) (a0_1 : Int) (a0_2 : ByteArray) (r : Bool) (w : World) (h : spec_l4Value.f k a0_0 a0_1 a0_2 = some r) :
    Calls Tryd.prog 56 #[.agg #[.int .i64 a0_0, .int .i64 a0_1, .string a0_2]] w fun e w' => e = .returned (.bool r) ∧ Below w.heap.size w w' := by
  have hu53 := Tryd.underlying53; have HB := Aside0.mk (Below.refl w.heap.size w); have H : (if a0_0 = 1 then ((spec_l4Number.f a0_1).bind fun t132 => (if t132 = true then (some (a0_2.toList == ([] : List UInt8))) else (some false))) else (if a0_0 = 2 then (if a0_1 = 0 then ((spec_l4Text.f k a0_2).bind fun t133 => (some t133)) else (some false)) else (some false))) = some r := h; clear h; by_cases c2 : a0_0 = 1
  · rw [if_pos c2] at H; have c2b0 : (a0_0 == 1) = true := beq_iff_eq.mpr c2; have c2b1 : (a0_0 != 1) = false := bne_eq_false_iff_eq.mpr c2; clear c2; replace H := Option.bind_eq_some_iff.mp H; obtain ⟨t132, A30, H⟩ := H; replace H : (if t132 = true then (some (a0_2.toList == ([] : List UInt8))) else (some false)) = some r := H; have A3 := Aside0.mk A30; clear A30; by_cases c4 : t132 = true
    · subst c4; (have H1 : (some (a0_2.toList == ([] : List UInt8))) = some r := by rw [if_pos rfl] at H; exact H); clear H; have H := H1; clear H1; obtain rfl := Option.some.inj H; go_enter Tryd.func56, Tryd.ntmps56; go_wp2_with (first | ((with_reducible refine gds (N := 1) rfl ?_); refine bxe ?hg (N := 1) ?hd (cs := #[.int .i64 a0_0, .int .i64 a0_1, .string a0_2]) (t := 53) ?hr ?_; (case hd => rfl); (case hg => rfl); (case hr => first | (go_simp; done) | (go_simp; rfl)); intro gb131 hg w5 hbox hb; have n0_ := Aside0.mk (bst (by repeat (first | (with_reducible first | exact HB.out | apply bal | apply pbd | apply bd1) | exact HB.out)) hb); have n1_ := Aside0.mk (hbox); have n2_ := Aside0.mk ((by rw [hg]; exact (bsz (by repeat (first | (with_reducible first | exact HB.out | apply bal | apply pbd | apply bd1) | exact HB.out))) : w.heap.size ≤ gb131)); have n3_ := Aside0.mk ((by rw [hg]; exact (bsz (by repeat (first | (with_reducible first | exact HB.out | apply bal | apply pbd | apply bd1) | exact HB.out))) : w.heap.size ≤ gb131)); replace HB := n0_; have BK131 := n1_; have GW131 := n2_; have GE131 := n3_; clear n0_ n1_ n2_ n3_; clear hb hbox hg; obtain ⟨hcz6_0, hcz6_1, hcz6_2⟩ := zC3 BK131.out; obtain ⟨hfz6_0, hfz6_1⟩ := zF2 BK131.out; have hfz6_2 := bfz BK131.out 2) | ((with_reducible refine gcl (f := 77) rfl ?_); refine goesL_ (some 8) rfl rfl Tryd.func77 (by kernel_rfl) rfl #[.int .i64 a0_1] rfl (by (try simp only [List.map_toArray, List.map_cons, List.map_nil]); first | done | rfl | (simp only [List.length_drop, List.length_take]; rfl)) ?_; (with_reducible refine (spec_l4Number.calls a0_1 true _ A3.out).mono ?_); rintro e w' ⟨rfl, ⟨nd, rfl⟩⟩; refine ⟨_, rfl, ?_⟩)); go_ret; exact ⟨by first | rfl | (simp [eWn, eWs] <;> rfl) | (simp [*, eWn, eWs] <;> rfl), by repeat (first | (with_reducible first | exact HB.out | apply bal | apply pbd | apply bd1 | refine bse ?_ GE131.out) | exact HB.out)⟩
    · replace c4 := Bool.eq_false_iff.mpr c4; subst c4; (have H1 : (some false) = some r := by rw [if_neg (show ¬ (false = true) by decide)] at H; exact H); clear H; have H := H1; clear H1; obtain rfl := Option.some.inj H; go_enter Tryd.func56, Tryd.ntmps56; go_wp2_with (first | ((with_reducible refine gds (N := 1) rfl ?_); refine bxe ?hg (N := 1) ?hd (cs := #[.int .i64 a0_0, .int .i64 a0_1, .string a0_2]) (t := 53) ?hr ?_; (case hd => rfl); (case hg => rfl); (case hr => first | (go_simp; done) | (go_simp; rfl)); intro gb131 hg w7 hbox hb; have n0_ := Aside0.mk (bst (by repeat (first | (with_reducible first | exact HB.out | apply bal | apply pbd | apply bd1) | exact HB.out)) hb); have n1_ := Aside0.mk (hbox); have n2_ := Aside0.mk ((by rw [hg]; exact (bsz (by repeat (first | (with_reducible first | exact HB.out | apply bal | apply pbd | apply bd1) | exact HB.out))) : w.heap.size ≤ gb131)); have n3_ := Aside0.mk ((by rw [hg]; exact (bsz (by repeat (first | (with_reducible first | exact HB.out | apply bal | apply pbd | apply bd1) | exact HB.out))) : w.heap.size ≤ gb131)); replace HB := n0_; have BK131 := n1_; have GW131 := n2_; have GE131 := n3_; clear n0_ n1_ n2_ n3_; clear hb hbox hg; obtain ⟨hcz8_0, hcz8_1, hcz8_2⟩ := zC3 BK131.out; obtain ⟨hfz8_0, hfz8_1⟩ := zF2 BK131.out; have hfz8_2 := bfz BK131.out 2) | ((with_reducible refine gcl (f := 77) rfl ?_); refine goesL_ (some 8) rfl rfl Tryd.func77 (by kernel_rfl) rfl #[.int .i64 a0_1] rfl (by (try simp only [List.map_toArray, List.map_cons, List.map_nil]); first | done | rfl | (simp only [List.length_drop, List.length_take]; rfl)) ?_; (with_reducible refine (spec_l4Number.calls a0_1 false _ A3.out).mono ?_); rintro e w' ⟨rfl, ⟨nd, rfl⟩⟩; refine ⟨_, rfl, ?_⟩)); go_ret; exact ⟨by first | rfl | (simp [eWn, eWs] <;> rfl) | (simp [*, eWn, eWs] <;> rfl), by repeat (first | (with_reducible first | exact HB.out | apply bal | apply pbd | apply bd1 | refine bse ?_ GE131.out) | exact HB.out)⟩
  · rw [if_neg c2] at H; have c2b0 : (a0_0 == 1) = false := beq_eq_false_iff_ne.mpr c2; have c2b1 : (a0_0 != 1) = true := bne_iff_ne.mpr c2; by_cases c9 : a0_0 = 2
    · rw [if_pos c9] at H; have c9b0 : (a0_0 == 2) = true := beq_iff_eq.mpr c9; have c9b1 : (a0_0 != 2) = false := bne_eq_false_iff_eq.mpr c9; clear c9; by_cases c10 : a0_1 = 0
      · rw [if_pos c10] at H; have c10b0 : (a0_1 == 0) = true := beq_iff_eq.mpr c10; have c10b1 : (a0_1 != 0) = false := bne_eq_false_iff_eq.mpr c10; clear c10; replace H := Option.bind_eq_some_iff.mp H; obtain ⟨t133, A110, H⟩ := H; replace H : (some t133) = some r := H; have A11 := Aside0.mk A110; clear A110; obtain rfl := Option.some.inj H; go_enter Tryd.func56, Tryd.ntmps56; go_wp2_with (first | ((with_reducible refine gds (N := 1) rfl ?_); refine bxe ?hg (N := 1) ?hd (cs := #[.int .i64 a0_0, .int .i64 a0_1, .string a0_2]) (t := 53) ?hr ?_; (case hd => rfl); (case hg => rfl); (case hr => first | (go_simp; done) | (go_simp; rfl)); intro gb131 hg w12 hbox hb; have n0_ := Aside0.mk (bst (by repeat (first | (with_reducible first | exact HB.out | apply bal | apply pbd | apply bd1) | exact HB.out)) hb); have n1_ := Aside0.mk (hbox); have n2_ := Aside0.mk ((by rw [hg]; exact (bsz (by repeat (first | (with_reducible first | exact HB.out | apply bal | apply pbd | apply bd1) | exact HB.out))) : w.heap.size ≤ gb131)); have n3_ := Aside0.mk ((by rw [hg]; exact (bsz (by repeat (first | (with_reducible first | exact HB.out | apply bal | apply pbd | apply bd1) | exact HB.out))) : w.heap.size ≤ gb131)); replace HB := n0_; have BK131 := n1_; have GW131 := n2_; have GE131 := n3_; clear n0_ n1_ n2_ n3_; clear hb hbox hg; obtain ⟨hcz13_0, hcz13_1, hcz13_2⟩ := zC3 BK131.out; obtain ⟨hfz13_0, hfz13_1⟩ := zF2 BK131.out; have hfz13_2 := bfz BK131.out 2) | (go_at_call 78; (with_reducible refine (spec_l4Text.calls k a0_2 t133 _ A11.out).mono ?_); rintro e w' ⟨rfl, ⟨nd, rfl⟩⟩)); go_ret; exact ⟨by first | rfl | (simp [eWn, eWs] <;> rfl) | (simp [*, eWn, eWs] <;> rfl), by repeat (first | (with_reducible first | exact HB.out | apply bal | apply pbd | apply bd1 | refine bse ?_ GE131.out) | exact HB.out)⟩
      · rw [if_neg c10] at H; have c10b0 : (a0_1 == 0) = false := beq_eq_false_iff_ne.mpr c10; have c10b1 : (a0_1 != 0) = true := bne_iff_ne.mpr c10; obtain rfl := Option.some.inj H; go_enter Tryd.func56, Tryd.ntmps56; go_wp2_with (first | ((with_reducible refine gds (N := 1) rfl ?_); refine bxe ?hg (N := 1) ?hd (cs := #[.int .i64 a0_0, .int .i64 a0_1, .string a0_2]) (t := 53) ?hr ?_; (case hd => rfl); (case hg => rfl); (case hr => first | (go_simp; done) | (go_simp; rfl)); intro gb131 hg w14 hbox hb; have n0_ := Aside0.mk (bst (by repeat (first | (with_reducible first | exact HB.out | apply bal | apply pbd | apply bd1) | exact HB.out)) hb); have n1_ := Aside0.mk (hbox); have n2_ := Aside0.mk ((by rw [hg]; exact (bsz (by repeat (first | (with_reducible first | exact HB.out | apply bal | apply pbd | apply bd1) | exact HB.out))) : w.heap.size ≤ gb131)); have n3_ := Aside0.mk ((by rw [hg]; exact (bsz (by repeat (first | (with_reducible first | exact HB.out | apply bal | apply pbd | apply bd1) | exact HB.out))) : w.heap.size ≤ gb131)); replace HB := n0_; have BK131 := n1_; have GW131 := n2_; have GE131 := n3_; clear n0_ n1_ n2_ n3_; clear hb hbox hg; obtain ⟨hcz15_0, hcz15_1, hcz15_2⟩ := zC3 BK131.out; obtain ⟨hfz15_0, hfz15_1⟩ := zF2 BK131.out; have hfz15_2 := bfz BK131.out 2)); go_ret; exact ⟨by first | rfl | (simp [eWn, eWs] <;> rfl) | (simp [*, eWn, eWs] <;> rfl), by repeat (first | (with_reducible first | exact HB.out | apply bal | apply pbd | apply bd1 | refine bse ?_ GE131.out) | exact HB.out)⟩
    · rw [if_neg c9] at H; have c9b0 : (a0_0 == 2) = false := beq_eq_false_iff_ne.mpr c9; have c9b1 : (a0_0 != 2) = true := bne_iff_ne.mpr c9; obtain rfl := Option.some.inj H; go_enter Tryd.func56, Tryd.ntmps56; go_wp2_with (first | ((with_reducible refine gds (N := 1) rfl ?_); refine bxe ?hg (N := 1) ?hd (cs := #[.int .i64 a0_0, .int .i64 a0_1, .string a0_2]) (t := 53) ?hr ?_; (case hd => rfl); (case hg => rfl); (case hr => first | (go_simp; done) | (go_simp; rfl)); intro gb131 hg w16 hbox hb; have n0_ := Aside0.mk (bst (by repeat (first | (with_reducible first | exact HB.out | apply bal | apply pbd | apply bd1) | exact HB.out)) hb); have n1_ := Aside0.mk (hbox); have n2_ := Aside0.mk ((by rw [hg]; exact (bsz (by repeat (first | (with_reducible first | exact HB.out | apply bal | apply pbd | apply bd1) | exact HB.out))) : w.heap.size ≤ gb131)); have n3_ := Aside0.mk ((by rw [hg]; exact (bsz (by repeat (first | (with_reducible first | exact HB.out | apply bal | apply pbd | apply bd1) | exact HB.out))) : w.heap.size ≤ gb131)); replace HB := n0_; have BK131 := n1_; have GW131 := n2_; have GE131 := n3_; clear n0_ n1_ n2_ n3_; clear hb hbox hg; obtain ⟨hcz17_0, hcz17_1, hcz17_2⟩ := zC3 BK131.out; obtain ⟨hfz17_0, hfz17_1⟩ := zF2 BK131.out; have hfz17_2 := bfz BK131.out 2)); go_ret; exact ⟨by first | rfl | (simp [eWn, eWs] <;> rfl) | (simp [*, eWn, eWs] <;> rfl), by repeat (first | (with_reducible first | exact HB.out | apply bal | apply pbd | apply bd1 | refine bse ?_ GE131.out) | exact HB.out)⟩
def spec_l4Item.f (k : Nat) (a0_0 : Int) (a0_1 : Int) (a0_2 : ByteArray) : Option (Bool) := if a0_0 = 1 then ((spec_l4Number.f a0_1).bind fun t135 => (if t135 = true then (some (a0_2.toList == ([] : List UInt8))) else (some false))) else (if a0_0 = 2 then (if a0_1 = 0 then ((spec_l4Text.f k a0_2).bind fun t136 => (some t136)) else (some false)) else (if a0_0 = 3 then (if a0_1 = 0 then ((spec_l4Name.f k a0_2).bind fun t137 => (some t137)) else (some false)) else ((spec_l1Between.f a0_0 4 13).bind fun t138 => (if t138 = true then (if a0_1 = 0 then (some (a0_2.toList == ([] : List UInt8))) else (some false)) else (some false)))))
theorem spec_l4Item.mono : ∀ a0 a1 a2 k, LeO (spec_l4Item.f k a0 a1 a2) (spec_l4Item.f (k + 1) a0 a1 a2) := by
  intro a0 a1 a2 k
  unfold spec_l4Item.f
  repeat' first
      | (with_reducible exact spec_l4Name.mono _ _)
      | (with_reducible exact spec_l4Text.mono _ _)
      | (with_reducible exact LeO.refl _)
      | (with_reducible exact LeO.none _)
      | (with_reducible refine LeO.ite ?_ ?_)
      | (with_reducible refine LeO.bind ?_ (fun _ => ?_))
      | exact spec_l4Name.mono _ _
      | exact spec_l4Text.mono _ _
      | exact LeO.none _
      | refine LeO.ite ?_ ?_
      | refine LeO.bind ?_ (fun _ => ?_)
set_option maxHeartbeats 8000000 in
set_option maxRecDepth 100000 in
theorem spec_l4Item.calls (k : Nat) (a0_0 : Int) (a0_1 : Int) (a0_2 : ByteArray) (r : Bool) (w : World) (h : spec_l4Item.f k a0_0 a0_1 a0_2 = some r) :
    Calls Tryd.prog 79 #[.agg #[.int .i64 a0_0, .int .i64 a0_1, .string a0_2]] w fun e w' => e = .returned (.bool r) ∧ Below w.heap.size w w' := by
  have hu88 := Tryd.underlying88; have HB := Aside0.mk (Below.refl w.heap.size w); have H : (if a0_0 = 1 then ((spec_l4Number.f a0_1).bind fun t135 => (if t135 = true then (some (a0_2.toList == ([] : List UInt8))) else (some false))) else (if a0_0 = 2 then (if a0_1 = 0 then ((spec_l4Text.f k a0_2).bind fun t136 => (some t136)) else (some false)) else (if a0_0 = 3 then (if a0_1 = 0 then ((spec_l4Name.f k a0_2).bind fun t137 => (some t137)) else (some false)) else ((spec_l1Between.f a0_0 4 13).bind fun t138 => (if t138 = true then (if a0_1 = 0 then (some (a0_2.toList == ([] : List UInt8))) else (some false)) else (some false)))))) = some r := h; clear h; by_cases c2 : a0_0 = 1
  · rw [if_pos c2] at H; have c2b0 : (a0_0 == 1) = true := beq_iff_eq.mpr c2; have c2b1 : (a0_0 != 1) = false := bne_eq_false_iff_eq.mpr c2; clear c2; replace H := Option.bind_eq_some_iff.mp H; obtain ⟨t135, A30, H⟩ := H; replace H : (if t135 = true then (some (a0_2.toList == ([] : List UInt8))) else (some false)) = some r := H; have A3 := Aside0.mk A30; clear A30; by_cases c4 : t135 = true
    · subst c4; (have H1 : (some (a0_2.toList == ([] : List UInt8))) = some r := by rw [if_pos rfl] at H; exact H); clear H; have H := H1; clear H1; obtain rfl := Option.some.inj H; go_enter Tryd.func79, Tryd.ntmps79; go_wp2_with (first | ((with_reducible refine gds (N := 1) rfl ?_); refine bxe ?hg (N := 1) ?hd (cs := #[.int .i64 a0_0, .int .i64 a0_1, .string a0_2]) (t := 88) ?hr ?_; (case hd => rfl); (case hg => rfl); (case hr => first | (go_simp; done) | (go_simp; rfl)); intro gb134 hg w5 hbox hb; have n0_ := Aside0.mk (bst (by repeat (first | (with_reducible first | exact HB.out | apply bal | apply pbd | apply bd1) | exact HB.out)) hb); have n1_ := Aside0.mk (hbox); have n2_ := Aside0.mk ((by rw [hg]; exact (bsz (by repeat (first | (with_reducible first | exact HB.out | apply bal | apply pbd | apply bd1) | exact HB.out))) : w.heap.size ≤ gb134)); have n3_ := Aside0.mk ((by rw [hg]; exact (bsz (by repeat (first | (with_reducible first | exact HB.out | apply bal | apply pbd | apply bd1) | exact HB.out))) : w.heap.size ≤ gb134)); replace HB := n0_; have BK134 := n1_; have GW134 := n2_; have GE134 := n3_; clear n0_ n1_ n2_ n3_; clear hb hbox hg; obtain ⟨hcz6_0, hcz6_1, hcz6_2⟩ := zC3 BK134.out; obtain ⟨hfz6_0, hfz6_1⟩ := zF2 BK134.out; have hfz6_2 := bfz BK134.out 2) | ((with_reducible refine gcl (f := 77) rfl ?_); refine goesL_ (some 9) rfl rfl Tryd.func77 (by kernel_rfl) rfl #[.int .i64 a0_1] rfl (by (try simp only [List.map_toArray, List.map_cons, List.map_nil]); first | done | rfl | (simp only [List.length_drop, List.length_take]; rfl)) ?_; (with_reducible refine (spec_l4Number.calls a0_1 true _ A3.out).mono ?_); rintro e w' ⟨rfl, ⟨nd, rfl⟩⟩; refine ⟨_, rfl, ?_⟩)); go_ret; exact ⟨by first | rfl | (simp [eWn, eWs] <;> rfl) | (simp [*, eWn, eWs] <;> rfl), by repeat (first | (with_reducible first | exact HB.out | apply bal | apply pbd | apply bd1 | refine bse ?_ GE134.out) | exact HB.out)⟩
    · replace c4 := Bool.eq_false_iff.mpr c4; subst c4; (have H1 : (some false) = some r := by rw [if_neg (show ¬ (false = true) by decide)] at H; exact H); clear H; have H := H1; clear H1; obtain rfl := Option.some.inj H; go_enter Tryd.func79, Tryd.ntmps79; go_wp2_with (first | ((with_reducible refine gds (N := 1) rfl ?_); refine bxe ?hg (N := 1) ?hd (cs := #[.int .i64 a0_0, .int .i64 a0_1, .string a0_2]) (t := 88) ?hr ?_; (case hd => rfl); (case hg => rfl); (case hr => first | (go_simp; done) | (go_simp; rfl)); intro gb134 hg w7 hbox hb; have n0_ := Aside0.mk (bst (by repeat (first | (with_reducible first | exact HB.out | apply bal | apply pbd | apply bd1) | exact HB.out)) hb); have n1_ := Aside0.mk (hbox); have n2_ := Aside0.mk ((by rw [hg]; exact (bsz (by repeat (first | (with_reducible first | exact HB.out | apply bal | apply pbd | apply bd1) | exact HB.out))) : w.heap.size ≤ gb134)); have n3_ := Aside0.mk ((by rw [hg]; exact (bsz (by repeat (first | (with_reducible first | exact HB.out | apply bal | apply pbd | apply bd1) | exact HB.out))) : w.heap.size ≤ gb134)); replace HB := n0_; have BK134 := n1_; have GW134 := n2_; have GE134 := n3_; clear n0_ n1_ n2_ n3_; clear hb hbox hg; obtain ⟨hcz8_0, hcz8_1, hcz8_2⟩ := zC3 BK134.out; obtain ⟨hfz8_0, hfz8_1⟩ := zF2 BK134.out; have hfz8_2 := bfz BK134.out 2) | ((with_reducible refine gcl (f := 77) rfl ?_); refine goesL_ (some 9) rfl rfl Tryd.func77 (by kernel_rfl) rfl #[.int .i64 a0_1] rfl (by (try simp only [List.map_toArray, List.map_cons, List.map_nil]); first | done | rfl | (simp only [List.length_drop, List.length_take]; rfl)) ?_; (with_reducible refine (spec_l4Number.calls a0_1 false _ A3.out).mono ?_); rintro e w' ⟨rfl, ⟨nd, rfl⟩⟩; refine ⟨_, rfl, ?_⟩)); go_ret; exact ⟨by first | rfl | (simp [eWn, eWs] <;> rfl) | (simp [*, eWn, eWs] <;> rfl), by repeat (first | (with_reducible first | exact HB.out | apply bal | apply pbd | apply bd1 | refine bse ?_ GE134.out) | exact HB.out)⟩
  · rw [if_neg c2] at H; have c2b0 : (a0_0 == 1) = false := beq_eq_false_iff_ne.mpr c2; have c2b1 : (a0_0 != 1) = true := bne_iff_ne.mpr c2; by_cases c9 : a0_0 = 2
    · rw [if_pos c9] at H; have c9b0 : (a0_0 == 2) = true := beq_iff_eq.mpr c9; have c9b1 : (a0_0 != 2) = false := bne_eq_false_iff_eq.mpr c9; clear c9; by_cases c10 : a0_1 = 0
      · rw [if_pos c10] at H; have c10b0 : (a0_1 == 0) = true := beq_iff_eq.mpr c10; have c10b1 : (a0_1 != 0) = false := bne_eq_false_iff_eq.mpr c10; clear c10; replace H := Option.bind_eq_some_iff.mp H; obtain ⟨t136, A110, H⟩ := H; replace H : (some t136) = some r := H; have A11 := Aside0.mk A110; clear A110; obtain rfl := Option.some.inj H; go_enter Tryd.func79, Tryd.ntmps79; go_wp2_with (first | ((with_reducible refine gds (N := 1) rfl ?_); refine bxe ?hg (N := 1) ?hd (cs := #[.int .i64 a0_0, .int .i64 a0_1, .string a0_2]) (t := 88) ?hr ?_; (case hd => rfl); (case hg => rfl); (case hr => first | (go_simp; done) | (go_simp; rfl)); intro gb134 hg w12 hbox hb; have n0_ := Aside0.mk (bst (by repeat (first | (with_reducible first | exact HB.out | apply bal | apply pbd | apply bd1) | exact HB.out)) hb); have n1_ := Aside0.mk (hbox); have n2_ := Aside0.mk ((by rw [hg]; exact (bsz (by repeat (first | (with_reducible first | exact HB.out | apply bal | apply pbd | apply bd1) | exact HB.out))) : w.heap.size ≤ gb134)); have n3_ := Aside0.mk ((by rw [hg]; exact (bsz (by repeat (first | (with_reducible first | exact HB.out | apply bal | apply pbd | apply bd1) | exact HB.out))) : w.heap.size ≤ gb134)); replace HB := n0_; have BK134 := n1_; have GW134 := n2_; have GE134 := n3_; clear n0_ n1_ n2_ n3_; clear hb hbox hg; obtain ⟨hcz13_0, hcz13_1, hcz13_2⟩ := zC3 BK134.out; obtain ⟨hfz13_0, hfz13_1⟩ := zF2 BK134.out; have hfz13_2 := bfz BK134.out 2) | (go_at_call 78; (with_reducible refine (spec_l4Text.calls k a0_2 t136 _ A11.out).mono ?_); rintro e w' ⟨rfl, ⟨nd, rfl⟩⟩)); go_ret; exact ⟨by first | rfl | (simp [eWn, eWs] <;> rfl) | (simp [*, eWn, eWs] <;> rfl), by repeat (first | (with_reducible first | exact HB.out | apply bal | apply pbd | apply bd1 | refine bse ?_ GE134.out) | exact HB.out)⟩
      · rw [if_neg c10] at H; have c10b0 : (a0_1 == 0) = false := beq_eq_false_iff_ne.mpr c10; have c10b1 : (a0_1 != 0) = true := bne_iff_ne.mpr c10; obtain rfl := Option.some.inj H; go_enter Tryd.func79, Tryd.ntmps79; go_wp2_with (first | ((with_reducible refine gds (N := 1) rfl ?_); refine bxe ?hg (N := 1) ?hd (cs := #[.int .i64 a0_0, .int .i64 a0_1, .string a0_2]) (t := 88) ?hr ?_; (case hd => rfl); (case hg => rfl); (case hr => first | (go_simp; done) | (go_simp; rfl)); intro gb134 hg w14 hbox hb; have n0_ := Aside0.mk (bst (by repeat (first | (with_reducible first | exact HB.out | apply bal | apply pbd | apply bd1) | exact HB.out)) hb); have n1_ := Aside0.mk (hbox); have n2_ := Aside0.mk ((by rw [hg]; exact (bsz (by repeat (first | (with_reducible first | exact HB.out | apply bal | apply pbd | apply bd1) | exact HB.out))) : w.heap.size ≤ gb134)); have n3_ := Aside0.mk ((by rw [hg]; exact (bsz (by repeat (first | (with_reducible first | exact HB.out | apply bal | apply pbd | apply bd1) | exact HB.out))) : w.heap.size ≤ gb134)); replace HB := n0_; have BK134 := n1_; have GW134 := n2_; have GE134 := n3_; clear n0_ n1_ n2_ n3_; clear hb hbox hg; obtain ⟨hcz15_0, hcz15_1, hcz15_2⟩ := zC3 BK134.out; obtain ⟨hfz15_0, hfz15_1⟩ := zF2 BK134.out; have hfz15_2 := bfz BK134.out 2)); go_ret; exact ⟨by first | rfl | (simp [eWn, eWs] <;> rfl) | (simp [*, eWn, eWs] <;> rfl), by repeat (first | (with_reducible first | exact HB.out | apply bal | apply pbd | apply bd1 | refine bse ?_ GE134.out) | exact HB.out)⟩
    · rw [if_neg c9] at H; have c9b0 : (a0_0 == 2) = false := beq_eq_false_iff_ne.mpr c9; have c9b1 : (a0_0 != 2) = true := bne_iff_ne.mpr c9; by_cases c16 : a0_0 = 3
      · rw [if_pos c16] at H; have c16b0 : (a0_0 == 3) = true := beq_iff_eq.mpr c16; have c16b1 : (a0_0 != 3) = false := bne_eq_false_iff_eq.mpr c16; clear c16; by_cases c17 : a0_1 = 0
        · rw [if_pos c17] at H; have c17b0 : (a0_1 == 0) = true := beq_iff_eq.mpr c17; have c17b1 : (a0_1 != 0) = false := bne_eq_false_iff_eq.mpr c17; clear c17; replace H := Option.bind_eq_some_iff.mp H; obtain ⟨t137, A180, H⟩ := H; replace H : (some t137) = some r := H; have A18 := Aside0.mk A180; clear A180; obtain rfl := Option.some.inj H; go_enter Tryd.func79, Tryd.ntmps79; go_wp2_with (first | ((with_reducible refine gds (N := 1) rfl ?_); refine bxe ?hg (N := 1) ?hd (cs := #[.int .i64 a0_0, .int .i64 a0_1, .string a0_2]) (t := 88) ?hr ?_; (case hd => rfl); (case hg => rfl); (case hr => first | (go_simp; done) | (go_simp; rfl)); intro gb134 hg w19 hbox hb; have n0_ := Aside0.mk (bst (by repeat (first | (with_reducible first | exact HB.out | apply bal | apply pbd | apply bd1) | exact HB.out)) hb); have n1_ := Aside0.mk (hbox); have n2_ := Aside0.mk ((by rw [hg]; exact (bsz (by repeat (first | (with_reducible first | exact HB.out | apply bal | apply pbd | apply bd1) | exact HB.out))) : w.heap.size ≤ gb134)); have n3_ := Aside0.mk ((by rw [hg]; exact (bsz (by repeat (first | (with_reducible first | exact HB.out | apply bal | apply pbd | apply bd1) | exact HB.out))) : w.heap.size ≤ gb134)); replace HB := n0_; have BK134 := n1_; have GW134 := n2_; have GE134 := n3_; clear n0_ n1_ n2_ n3_; clear hb hbox hg; obtain ⟨hcz20_0, hcz20_1, hcz20_2⟩ := zC3 BK134.out; obtain ⟨hfz20_0, hfz20_1⟩ := zF2 BK134.out; have hfz20_2 := bfz BK134.out 2) | (go_at_call 54; (with_reducible refine (spec_l4Name.calls k a0_2 t137 _ A18.out).mono ?_); rintro e w21 ⟨rfl, hb⟩; have n0_ := Aside0.mk (bbe (g := gb134) (o := .cells #[.int .i64 a0_0, .int .i64 a0_1, .string a0_2] 88 (0, 0)) (by (with_reducible repeat (first | refine bdN ?_ _ | refine bkD ?_ | refine bkA ?_ _)); exact BK134.out) hb); have n1_ := Aside0.mk (bst (by repeat (first | (with_reducible first | exact HB.out | apply bal | apply pbd | apply bd1 | refine bse ?_ GE134.out) | exact HB.out)) hb); replace BK134 := n0_; replace HB := n1_; clear n0_ n1_; (try clear hb); (try clear hb2); (try clear hk); (try clear hi))); go_ret; exact ⟨by first | rfl | (simp [eWn, eWs] <;> rfl) | (simp [*, eWn, eWs] <;> rfl), by repeat (first | (with_reducible first | exact HB.out | apply bal | apply pbd | apply bd1 | refine bse ?_ GE134.out) | exact HB.out)⟩
        · rw [if_neg c17] at H; have c17b0 : (a0_1 == 0) = false := beq_eq_false_iff_ne.mpr c17; have c17b1 : (a0_1 != 0) = true := bne_iff_ne.mpr c17; obtain rfl := Option.some.inj H; go_enter Tryd.func79, Tryd.ntmps79; go_wp2_with (first | ((with_reducible refine gds (N := 1) rfl ?_); refine bxe ?hg (N := 1) ?hd (cs := #[.int .i64 a0_0, .int .i64 a0_1, .string a0_2]) (t := 88) ?hr ?_; (case hd => rfl); (case hg => rfl); (case hr => first | (go_simp; done) | (go_simp; rfl)); intro gb134 hg w22 hbox hb; have n0_ := Aside0.mk (bst (by repeat (first | (with_reducible first | exact HB.out | apply bal | apply pbd | apply bd1) | exact HB.out)) hb); have n1_ := Aside0.mk (hbox); have n2_ := Aside0.mk ((by rw [hg]; exact (bsz (by repeat (first | (with_reducible first | exact HB.out | apply bal | apply pbd | apply bd1) | exact HB.out))) : w.heap.size ≤ gb134)); have n3_ := Aside0.mk ((by rw [hg]; exact (bsz (by repeat (first | (with_reducible first | exact HB.out | apply bal | apply pbd | apply bd1) | exact HB.out))) : w.heap.size ≤ gb134)); replace HB := n0_; have BK134 := n1_; have GW134 := n2_; have GE134 := n3_; clear n0_ n1_ n2_ n3_; clear hb hbox hg; obtain ⟨hcz23_0, hcz23_1, hcz23_2⟩ := zC3 BK134.out; obtain ⟨hfz23_0, hfz23_1⟩ := zF2 BK134.out; have hfz23_2 := bfz BK134.out 2)); go_ret; exact ⟨by first | rfl | (simp [eWn, eWs] <;> rfl) | (simp [*, eWn, eWs] <;> rfl), by repeat (first | (with_reducible first | exact HB.out | apply bal | apply pbd | apply bd1 | refine bse ?_ GE134.out) | exact HB.out)⟩
      · rw [if_neg c16] at H; have c16b0 : (a0_0 == 3) = false := beq_eq_false_iff_ne.mpr c16; have c16b1 : (a0_0 != 3) = true := bne_iff_ne.mpr c16; replace H := Option.bind_eq_some_iff.mp H; obtain ⟨t138, A240, H⟩ := H; replace H : (if t138 = true then (if a0_1 = 0 then (some (a0_2.toList == ([] : List UInt8))) else (some false)) else (some false)) = some r := H; have A24 := Aside0.mk A240; clear A240; by_cases c25 : t138 = true
        · subst c25; (have H1 : (if a0_1 = 0 then (some (a0_2.toList == ([] : List UInt8))) else (some false)) = some r := by rw [if_pos rfl] at H; exact H); clear H; have H := H1; clear H1; by_cases c26 : a0_1 = 0
          · rw [if_pos c26] at H; have c26b0 : (a0_1 == 0) = true := beq_iff_eq.mpr c26; have c26b1 : (a0_1 != 0) = false := bne_eq_false_iff_eq.mpr c26; clear c26; obtain rfl := Option.some.inj H; go_enter Tryd.func79, Tryd.ntmps79; go_wp2_with (first | ((with_reducible refine gds (N := 1) rfl ?_); refine bxe ?hg (N := 1) ?hd (cs := #[.int .i64 a0_0, .int .i64 a0_1, .string a0_2]) (t := 88) ?hr ?_; (case hd => rfl); (case hg => rfl); (case hr => first | (go_simp; done) | (go_simp; rfl)); intro gb134 hg w27 hbox hb; have n0_ := Aside0.mk (bst (by repeat (first | (with_reducible first | exact HB.out | apply bal | apply pbd | apply bd1) | exact HB.out)) hb); have n1_ := Aside0.mk (hbox); have n2_ := Aside0.mk ((by rw [hg]; exact (bsz (by repeat (first | (with_reducible first | exact HB.out | apply bal | apply pbd | apply bd1) | exact HB.out))) : w.heap.size ≤ gb134)); have n3_ := Aside0.mk ((by rw [hg]; exact (bsz (by repeat (first | (with_reducible first | exact HB.out | apply bal | apply pbd | apply bd1) | exact HB.out))) : w.heap.size ≤ gb134)); replace HB := n0_; have BK134 := n1_; have GW134 := n2_; have GE134 := n3_; clear n0_ n1_ n2_ n3_; clear hb hbox hg; obtain ⟨hcz28_0, hcz28_1, hcz28_2⟩ := zC3 BK134.out; obtain ⟨hfz28_0, hfz28_1⟩ := zF2 BK134.out; have hfz28_2 := bfz BK134.out 2) | ((with_reducible refine gcl (f := 72) rfl ?_); refine goesL_ (some 37) rfl rfl Tryd.func72 (by kernel_rfl) rfl #[.int .i64 a0_0, .int .i64 4, .int .i64 13] rfl (by (try simp only [List.map_toArray, List.map_cons, List.map_nil]); first | done | rfl | (simp only [List.length_drop, List.length_take]; rfl)) ?_; (with_reducible refine (spec_l1Between.calls a0_0 4 13 true _ A24.out).mono ?_); rintro e w' ⟨rfl, ⟨nd, rfl⟩⟩; refine ⟨_, rfl, ?_⟩)); go_ret; exact ⟨by first | rfl | (simp [eWn, eWs] <;> rfl) | (simp [*, eWn, eWs] <;> rfl), by repeat (first | (with_reducible first | exact HB.out | apply bal | apply pbd | apply bd1 | refine bse ?_ GE134.out) | exact HB.out)⟩
          · rw [if_neg c26] at H; have c26b0 : (a0_1 == 0) = false := beq_eq_false_iff_ne.mpr c26; have c26b1 : (a0_1 != 0) = true := bne_iff_ne.mpr c26; obtain rfl := Option.some.inj H; go_enter Tryd.func79, Tryd.ntmps79; go_wp2_with (first | ((with_reducible refine gds (N := 1) rfl ?_); refine bxe ?hg (N := 1) ?hd (cs := #[.int .i64 a0_0, .int .i64 a0_1, .string a0_2]) (t := 88) ?hr ?_; (case hd => rfl); (case hg => rfl); (case hr => first | (go_simp; done) | (go_simp; rfl)); intro gb134 hg w29 hbox hb; have n0_ := Aside0.mk (bst (by repeat (first | (with_reducible first | exact HB.out | apply bal | apply pbd | apply bd1) | exact HB.out)) hb); have n1_ := Aside0.mk (hbox); have n2_ := Aside0.mk ((by rw [hg]; exact (bsz (by repeat (first | (with_reducible first | exact HB.out | apply bal | apply pbd | apply bd1) | exact HB.out))) : w.heap.size ≤ gb134)); have n3_ := Aside0.mk ((by rw [hg]; exact (bsz (by repeat (first | (with_reducible first | exact HB.out | apply bal | apply pbd | apply bd1) | exact HB.out))) : w.heap.size ≤ gb134)); replace HB := n0_; have BK134 := n1_; have GW134 := n2_; have GE134 := n3_; clear n0_ n1_ n2_ n3_; clear hb hbox hg; obtain ⟨hcz30_0, hcz30_1, hcz30_2⟩ := zC3 BK134.out; obtain ⟨hfz30_0, hfz30_1⟩ := zF2 BK134.out; have hfz30_2 := bfz BK134.out 2) | ((with_reducible refine gcl (f := 72) rfl ?_); refine goesL_ (some 37) rfl rfl Tryd.func72 (by kernel_rfl) rfl #[.int .i64 a0_0, .int .i64 4, .int .i64 13] rfl (by (try simp only [List.map_toArray, List.map_cons, List.map_nil]); first | done | rfl | (simp only [List.length_drop, List.length_take]; rfl)) ?_; (with_reducible refine (spec_l1Between.calls a0_0 4 13 true _ A24.out).mono ?_); rintro e w' ⟨rfl, ⟨nd, rfl⟩⟩; refine ⟨_, rfl, ?_⟩)); go_ret; exact ⟨by first | rfl | (simp [eWn, eWs] <;> rfl) | (simp [*, eWn, eWs] <;> rfl), by repeat (first | (with_reducible first | exact HB.out | apply bal | apply pbd | apply bd1 | refine bse ?_ GE134.out) | exact HB.out)⟩
        · replace c25 := Bool.eq_false_iff.mpr c25; subst c25; (have H1 : (some false) = some r := by rw [if_neg (show ¬ (false = true) by decide)] at H; exact H); clear H; have H := H1; clear H1; obtain rfl := Option.some.inj H; go_enter Tryd.func79, Tryd.ntmps79; go_wp2_with (first | ((with_reducible refine gds (N := 1) rfl ?_); refine bxe ?hg (N := 1) ?hd (cs := #[.int .i64 a0_0, .int .i64 a0_1, .string a0_2]) (t := 88) ?hr ?_; (case hd => rfl); (case hg => rfl); (case hr => first | (go_simp; done) | (go_simp; rfl)); intro gb134 hg w31 hbox hb; have n0_ := Aside0.mk (bst (by repeat (first | (with_reducible first | exact HB.out | apply bal | apply pbd | apply bd1) | exact HB.out)) hb); have n1_ := Aside0.mk (hbox); have n2_ := Aside0.mk ((by rw [hg]; exact (bsz (by repeat (first | (with_reducible first | exact HB.out | apply bal | apply pbd | apply bd1) | exact HB.out))) : w.heap.size ≤ gb134)); have n3_ := Aside0.mk ((by rw [hg]; exact (bsz (by repeat (first | (with_reducible first | exact HB.out | apply bal | apply pbd | apply bd1) | exact HB.out))) : w.heap.size ≤ gb134)); replace HB := n0_; have BK134 := n1_; have GW134 := n2_; have GE134 := n3_; clear n0_ n1_ n2_ n3_; clear hb hbox hg; obtain ⟨hcz32_0, hcz32_1, hcz32_2⟩ := zC3 BK134.out; obtain ⟨hfz32_0, hfz32_1⟩ := zF2 BK134.out; have hfz32_2 := bfz BK134.out 2) | ((with_reducible refine gcl (f := 72) rfl ?_); refine goesL_ (some 37) rfl rfl Tryd.func72 (by kernel_rfl) rfl #[.int .i64 a0_0, .int .i64 4, .int .i64 13] rfl (by (try simp only [List.map_toArray, List.map_cons, List.map_nil]); first | done | rfl | (simp only [List.length_drop, List.length_take]; rfl)) ?_; (with_reducible refine (spec_l1Between.calls a0_0 4 13 false _ A24.out).mono ?_); rintro e w' ⟨rfl, ⟨nd, rfl⟩⟩; refine ⟨_, rfl, ?_⟩)); go_ret; exact ⟨by first | rfl | (simp [eWn, eWs] <;> rfl) | (simp [*, eWn, eWs] <;> rfl), by repeat (first | (with_reducible first | exact HB.out | apply bal | apply pbd | apply bd1 | refine bse ?_ GE134.out) | exact HB.out)⟩
end Go.Proofs.YtjihphegmdfpfaaDoor.L
end
section
namespace Go.Proofs.YtjihphegmdfpfaaDoor.L
open Go.RowKit Go.Proofs.YtjihphegmdfpfaaDoorW.PrintWords Go.Proofs.YtjihphegmdfpfaaDoorW.PrintLast Go.Proofs.YtjihphegmdfpfaaDoorW.PrintMore
attribute [local go_sem] max2_int min2_int max_two min_two max_three min_three max_four min_four
set_option linter.unusedVariables false
set_option linter.unusedSimpArgs false
def spec_l4Arity.f (a0 : Int) : Option (Int) := if a0 ≤ 3 then (some 0) else (if a0 = 11 then (some 1) else (if a0 = 13 then (some 1) else (some 2)))
set_option maxHeartbeats 8000000 in
set_option maxRecDepth 100000 in
theorem spec_l4Arity.calls (a0 : Int) (r : Int) (w : World) (h : spec_l4Arity.f a0 = some r) :
    Calls Tryd.prog 80 #[.int .i64 a0] w fun e w' => e = .returned (.int .i64 r) ∧ Drawn0 w w' := by
  have H : (if a0 ≤ 3 then (some 0) else (if a0 = 11 then (some 1) else (if a0 = 13 then (some 1) else (some 2)))) = some r := h; clear h; by_cases c2 : a0 ≤ 3
  · rw [if_pos c2] at H; have c2b0 : decide (a0 ≤ 3) = true := decide_eq_true c2; clear c2; obtain rfl := Option.some.inj H; go_enter Tryd.func80, Tryd.ntmps80; go_wp2; go_ret; exact ⟨by first | rfl | (simp; done) | (simp [*]; done), by repeat (first | exact Drawn0.refl _ | apply Drawn0.step)⟩
  · rw [if_neg c2] at H; have c2b0 : decide (a0 ≤ 3) = false := decide_eq_false c2; clear c2; by_cases c3 : a0 = 11
    · rw [if_pos c3] at H; have c3b0 : (a0 == 11) = true := beq_iff_eq.mpr c3; have c3b1 : (a0 != 11) = false := bne_eq_false_iff_eq.mpr c3; clear c3; obtain rfl := Option.some.inj H; go_enter Tryd.func80, Tryd.ntmps80; go_wp2; go_ret; exact ⟨by first | rfl | (simp; done) | (simp [*]; done), by repeat (first | exact Drawn0.refl _ | apply Drawn0.step)⟩
    · rw [if_neg c3] at H; have c3b0 : (a0 == 11) = false := beq_eq_false_iff_ne.mpr c3; have c3b1 : (a0 != 11) = true := bne_iff_ne.mpr c3; by_cases c4 : a0 = 13
      · rw [if_pos c4] at H; have c4b0 : (a0 == 13) = true := beq_iff_eq.mpr c4; have c4b1 : (a0 != 13) = false := bne_eq_false_iff_eq.mpr c4; clear c4; obtain rfl := Option.some.inj H; go_enter Tryd.func80, Tryd.ntmps80; go_wp2; go_ret; exact ⟨by first | rfl | (simp; done) | (simp [*]; done), by repeat (first | exact Drawn0.refl _ | apply Drawn0.step)⟩
      · rw [if_neg c4] at H; have c4b0 : (a0 == 13) = false := beq_eq_false_iff_ne.mpr c4; have c4b1 : (a0 != 13) = true := bne_iff_ne.mpr c4; obtain rfl := Option.some.inj H; go_enter Tryd.func80, Tryd.ntmps80; go_wp2; go_ret; exact ⟨by first | rfl | (simp; done) | (simp [*]; done), by repeat (first | exact Drawn0.refl _ | apply Drawn0.step)⟩
def spec_l4Exp.l0 : Nat → Int → List (S88) → Int → Int → Option (Bool)
  | 0, _, _, _, _ => none
  | k + 1, x3, x10, x11, x12 => if x12 < x11 then (if 0 ≤ x12 then (if x12 < (x10.length : Int) then ((spec_l4Item.f k ((rd_T88 x10 x12).f0) ((rd_T88 x10 x12).f1) ((rd_T88 x10 x12).f2)).bind fun t142 => (if t142 = true then ((spec_l4Arity.f ((rd_T88 x10 x12).f0)).bind fun t143 => (if x3 < t143 then (some false) else ((spec_l4Arity.f ((rd_T88 x10 x12).f0)).bind fun t144 => (spec_l4Exp.l0 k (wrap64 (x3 + (wrap64 (1 - t144)))) x10 x11 (wrap64 (x12 + 1)))))) else (some false))) else (none)) else (none)) else (some (x3 == 1))
def spec_l4Exp.f (k : Nat) (l0 : List (S88)) : Option (Bool) := (spec_l1Between.f (l0.length : Int) 1 100).bind fun t139 => (if t139 = true then (spec_l4Exp.l0 k 0 l0 (l0.length : Int) 0) else (some false))
theorem spec_l4Exp.mono_l : ∀ k, (∀ y0 y1 y2 y3, LeO (spec_l4Exp.l0 k y0 y1 y2 y3) (spec_l4Exp.l0 (k + 1) y0 y1 y2 y3))
  | 0 => fun _ _ _ _ r h => by simp [spec_l4Exp.l0] at h
  | k + 1 => by
    have ih0 := spec_l4Exp.mono_l k
    · intro y0 y1 y2 y3
      unfold spec_l4Exp.l0
      repeat' first
      | (with_reducible exact ih0 _ _ _ _)
      | (with_reducible exact spec_l4Item.mono _ _ _ _)
      | (with_reducible exact LeO.refl _)
      | (with_reducible exact LeO.none _)
      | (with_reducible refine LeO.ite ?_ ?_)
      | (with_reducible refine LeO.bind ?_ (fun _ => ?_))
      | exact ih0 _ _ _ _
      | exact spec_l4Item.mono _ _ _ _
      | exact LeO.none _
      | refine LeO.ite ?_ ?_
      | refine LeO.bind ?_ (fun _ => ?_)
theorem spec_l4Exp.mono : ∀ a0 k, LeO (spec_l4Exp.f k a0) (spec_l4Exp.f (k + 1) a0) := by
  intro a0 k
  have ih0 := spec_l4Exp.mono_l k
  unfold spec_l4Exp.f
  repeat' first
      | (with_reducible exact ih0 _ _ _ _)
      | (with_reducible exact spec_l4Item.mono _ _ _ _)
      | (with_reducible exact LeO.refl _)
      | (with_reducible exact LeO.none _)
      | (with_reducible refine LeO.ite ?_ ?_)
      | (with_reducible refine LeO.bind ?_ (fun _ => ?_))
      | exact ih0 _ _ _ _
      | exact spec_l4Item.mono _ _ _ _
      | exact LeO.none _
      | refine LeO.ite ?_ ?_
      | refine LeO.bind ?_ (fun _ => ?_)
set_option maxHeartbeats 8000000 in
set_option maxRecDepth 100000 in
theorem spec_l4Exp.calls (k : Nat) (A0 : Option Addr) (c0 : Nat) (l0 : List (S88)) (r : Bool) (w : World) (hr0 : Kd.C k88 w A0 l0.length l0) (hc0 : l0.length ≤ c0) (h : spec_l4Exp.f k l0 = some r) :
    Calls Tryd.prog 57 #[.slice A0 l0.length c0] w fun e w' => e = .returned (.bool r) ∧ Below w.heap.size w w' := by
  have hu88 := Tryd.underlying88; have HR0 := Aside0.mk hr0; have HC0 := Aside0.mk hc0; clear hr0 hc0; have HB := Aside0.mk (Below.refl w.heap.size w); have H : ((spec_l1Between.f (l0.length : Int) 1 100).bind fun t139 => (if t139 = true then (spec_l4Exp.l0 k 0 l0 (l0.length : Int) 0) else (some false))) = some r := h; clear h; replace H := Option.bind_eq_some_iff.mp H; obtain ⟨t139, A20, H⟩ := H; replace H : (if t139 = true then (spec_l4Exp.l0 k 0 l0 (l0.length : Int) 0) else (some false)) = some r := H; have A2 := Aside0.mk A20; clear A20; by_cases c3 : t139 = true
  · subst c3; (have H1 : (spec_l4Exp.l0 k 0 l0 (l0.length : Int) 0) = some r := by rw [if_pos rfl] at H; exact H); clear H; have H := H1; clear H1; have H' := Aside0.mk H; clear H; go_enter Tryd.func57, Tryd.ntmps57; go_wp2_with (first | ((with_reducible refine gcl (f := 72) rfl ?_); refine goesL_ (some 8) rfl rfl Tryd.func72 (by kernel_rfl) rfl #[.int .i64 (l0.length : Int), .int .i64 1, .int .i64 100] rfl (by (try simp only [List.map_toArray, List.map_cons, List.map_nil]); first | done | rfl | (simp only [List.length_drop, List.length_take]; rfl)) ?_; (with_reducible refine (spec_l1Between.calls (l0.length : Int) 1 100 true _ A2.out).mono ?_); rintro e w' ⟨rfl, ⟨nd, rfl⟩⟩; refine ⟨_, rfl, ?_⟩)); go_loopg [3, 12] k (fun kq v3 v12 w' => ∃ (x3_1 : Int) (x12_1 : Int), v3 = .int .i64 x3_1 ∧ v12 = .int .i64 x12_1 ∧ Aside0 (spec_l4Exp.l0 kq x3_1 l0 (l0.length : Int) x12_1 = some r) ∧ Aside0 (kq ≤ k) ∧ Aside0 (Below w.heap.size w w'))
    case atStart => exact ⟨(0), (0), (by first | rfl | (simp; done) | (simp [*]; done)), (by first | rfl | (simp; done) | (simp [*]; done)), H', ⟨Nat.le_refl _⟩, ⟨by repeat (first | (with_reducible first | exact HB.out | apply bal | apply pbd | apply bd1) | exact HB.out)⟩⟩
    case round =>
      clear H'; (try clear p2); (try clear c3); obtain ⟨x3_1, x12_1, rfl, rfl, HA, HK1, HB⟩ := hrel
      cases gk with
      | zero => exact absurd HA.out (by simp [spec_l4Exp.l0])
      | succ k1 =>
        have H := HA.out; clear HA; simp only [spec_l4Exp.l0] at H; by_cases c4 : x12_1 < (l0.length : Int)
        · rw [if_pos c4] at H; have c4b0 : decide (x12_1 < (l0.length : Int)) = true := decide_eq_true c4; clear c4; by_cases c5 : 0 ≤ x12_1
          · rw [if_pos c5] at H; have c5b0 : decide (0 ≤ x12_1) = true := decide_eq_true c5; clear c5; by_cases c6 : x12_1 < (l0.length : Int)
            · rw [if_pos c6] at H; have c6b0 : decide (x12_1 < (l0.length : Int)) = true := decide_eq_true c6; clear c6; replace H := Option.bind_eq_some_iff.mp H; obtain ⟨t142, A70, H⟩ := H; replace H : (if t142 = true then ((spec_l4Arity.f ((rd_T88 l0 x12_1).f0)).bind fun t143 => (if x3_1 < t143 then (some false) else ((spec_l4Arity.f ((rd_T88 l0 x12_1).f0)).bind fun t144 => (spec_l4Exp.l0 k1 (wrap64 (x3_1 + (wrap64 (1 - t144)))) l0 (l0.length : Int) (wrap64 (x12_1 + 1)))))) else (some false)) = some r := H; have A7 := Aside0.mk A70; clear A70; by_cases c8 : t142 = true
              · subst c8; (have H1 : ((spec_l4Arity.f ((rd_T88 l0 x12_1).f0)).bind fun t143 => (if x3_1 < t143 then (some false) else ((spec_l4Arity.f ((rd_T88 l0 x12_1).f0)).bind fun t144 => (spec_l4Exp.l0 k1 (wrap64 (x3_1 + (wrap64 (1 - t144)))) l0 (l0.length : Int) (wrap64 (x12_1 + 1)))))) = some r := by rw [if_pos rfl] at H; exact H); clear H; have H := H1; clear H1; replace H := Option.bind_eq_some_iff.mp H; obtain ⟨t143, A90, H⟩ := H; replace H : (if x3_1 < t143 then (some false) else ((spec_l4Arity.f ((rd_T88 l0 x12_1).f0)).bind fun t144 => (spec_l4Exp.l0 k1 (wrap64 (x3_1 + (wrap64 (1 - t144)))) l0 (l0.length : Int) (wrap64 (x12_1 + 1))))) = some r := H; have A9 := Aside0.mk A90; clear A90; by_cases c10 : x3_1 < t143
                · rw [if_pos c10] at H; have c10b0 : decide (x3_1 < t143) = true := decide_eq_true c10; clear c10; obtain rfl := Option.some.inj H; have p140 : 0 ≤ (x12_1 : Int) := of_decide_eq_true (by first | (with_reducible assumption) | assumption); have q140 : x12_1 < (l0.length : Int) := of_decide_eq_true (by first | (with_reducible assumption) | assumption); obtain ⟨ad140, e140, hx140_0, hx140_1, hx140_2⟩ := at_T88 HR0.out x12_1 p140 q140; cases e140; replace hx140_0 := (HB.out.cell (World.block_lt_of_cell? w _ hx140_0)).trans hx140_0; replace hx140_1 := (HB.out.cell (World.block_lt_of_cell? w _ hx140_1)).trans hx140_1; replace hx140_2 := (HB.out.cell (World.block_lt_of_cell? w _ hx140_2)).trans hx140_2; replace p140 := eq_true p140; replace q140 := eq_true q140; go_wp2_with (first | ((with_reducible refine gds (N := 5) rfl ?_); refine bxe ?hg (N := 5) ?hd (cs := #[.int .i64 0, .int .i64 0, .string (⟨#[]⟩ : ByteArray)]) (t := 88) ?hr ?_; (case hd => rfl); (case hg => rfl); (case hr => first | (go_simp; done) | (go_simp; rfl)); intro gb141 hg w11 hbox hb; have n0_ := Aside0.mk (bst (by repeat (first | (with_reducible first | exact HB.out | apply bal | apply pbd | apply bd1) | exact HB.out)) hb); have n1_ := Aside0.mk (hbox); have n2_ := Aside0.mk ((by rw [hg]; exact (bsz (by repeat (first | (with_reducible first | exact HB.out | apply bal | apply pbd | apply bd1) | exact HB.out))) : w.heap.size ≤ gb141)); have n3_ := Aside0.mk ((by rw [hg]; exact (bsz (by repeat (first | (with_reducible first | exact HB.out | apply bal | apply pbd | apply bd1) | exact HB.out))) : w.heap.size ≤ gb141)); replace HB := n0_; have BK141 := n1_; have GW141 := n2_; have GE141 := n3_; clear n0_ n1_ n2_ n3_; clear hb hbox hg; obtain ⟨hcz12_0, hcz12_1, hcz12_2⟩ := zC3 BK141.out; obtain ⟨hfz12_0, hfz12_1⟩ := zF2 BK141.out; have hfz12_2 := bfz BK141.out 2) | ((with_reducible refine gcl (f := 79) rfl ?_); refine goesL_ (some 17) rfl rfl Tryd.func79 (by kernel_rfl) rfl #[.agg #[.int .i64 ((rd_T88 l0 x12_1).f0), .int .i64 ((rd_T88 l0 x12_1).f1), .string ((rd_T88 l0 x12_1).f2)]] rfl (by (try simp only [List.map_toArray, List.map_cons, List.map_nil]); first | done | rfl | (simp only [List.length_drop, List.length_take]; rfl)) ?_; (with_reducible refine (spec_l4Item.calls k1 ((rd_T88 l0 x12_1).f0) ((rd_T88 l0 x12_1).f1) ((rd_T88 l0 x12_1).f2) true _ A7.out).mono ?_); rintro e w13 ⟨rfl, hb⟩; refine ⟨_, rfl, ?_⟩; have n0_ := Aside0.mk (bbe (g := gb141) (o := .cells #[.int .i64 ((rd_T88 l0 x12_1).f0), .int .i64 ((rd_T88 l0 x12_1).f1), .string ((rd_T88 l0 x12_1).f2)] 88 (0, 0)) (by (with_reducible repeat (first | refine bdN ?_ _ | refine bkD ?_ | refine bkA ?_ _)); refine bpu (cs := #[.int .i64 ((rd_T88 l0 x12_1).f0), .int .i64 ((rd_T88 l0 x12_1).f1), .string (⟨#[]⟩ : ByteArray)]) ?_ 2 _ rfl; (with_reducible repeat (first | refine bdN ?_ _ | refine bkD ?_ | refine bkA ?_ _)); refine bpu (cs := #[.int .i64 ((rd_T88 l0 x12_1).f0), .int .i64 0, .string (⟨#[]⟩ : ByteArray)]) ?_ 1 _ rfl; (with_reducible repeat (first | refine bdN ?_ _ | refine bkD ?_ | refine bkA ?_ _)); refine bpu (cs := #[.int .i64 0, .int .i64 0, .string (⟨#[]⟩ : ByteArray)]) ?_ 0 _ rfl; (with_reducible repeat (first | refine bdN ?_ _ | refine bkD ?_ | refine bkA ?_ _)); exact BK141.out) hb); have n1_ := Aside0.mk (bst (by repeat (first | (with_reducible first | exact HB.out | apply bal | apply pbd | apply bd1 | refine bse ?_ GE141.out) | exact HB.out)) hb); replace BK141 := n0_; replace HB := n1_; clear n0_ n1_; (try clear hb); (try clear hb2); (try clear hk); (try clear hi); obtain ⟨hcz14_0, hcz14_1, hcz14_2⟩ := zC3 BK141.out; obtain ⟨hfz14_0, hfz14_1⟩ := zF2 BK141.out; have hfz14_2 := bfz BK141.out 2) | (go_at_call 80; (with_reducible refine (spec_l4Arity.calls ((rd_T88 l0 x12_1).f0) t143 _ A9.out).mono ?_); rintro e w' ⟨rfl, ⟨nd, rfl⟩⟩)); go_ret; exact ⟨by first | rfl | (simp [eWn, eWs] <;> rfl) | (simp [*, eWn, eWs] <;> rfl), by repeat (first | (with_reducible first | exact HB.out | apply bal | apply pbd | apply bd1 | refine bse ?_ GE141.out) | exact HB.out)⟩
                · rw [if_neg c10] at H; have c10b0 : decide (x3_1 < t143) = false := decide_eq_false c10; clear c10; replace H := Option.bind_eq_some_iff.mp H; obtain ⟨t144, A150, H⟩ := H; replace H : (spec_l4Exp.l0 k1 (wrap64 (x3_1 + (wrap64 (1 - t144)))) l0 (l0.length : Int) (wrap64 (x12_1 + 1))) = some r := H; have A15 := Aside0.mk A150; clear A150; have H' := Aside0.mk H; clear H; have p140 : 0 ≤ (x12_1 : Int) := of_decide_eq_true (by first | (with_reducible assumption) | assumption); have q140 : x12_1 < (l0.length : Int) := of_decide_eq_true (by first | (with_reducible assumption) | assumption); obtain ⟨ad140, e140, hx140_0, hx140_1, hx140_2⟩ := at_T88 HR0.out x12_1 p140 q140; cases e140; replace hx140_0 := (HB.out.cell (World.block_lt_of_cell? w _ hx140_0)).trans hx140_0; replace hx140_1 := (HB.out.cell (World.block_lt_of_cell? w _ hx140_1)).trans hx140_1; replace hx140_2 := (HB.out.cell (World.block_lt_of_cell? w _ hx140_2)).trans hx140_2; replace p140 := eq_true p140; replace q140 := eq_true q140; go_wp2_with (first | ((with_reducible refine gds (N := 5) rfl ?_); refine bxe ?hg (N := 5) ?hd (cs := #[.int .i64 0, .int .i64 0, .string (⟨#[]⟩ : ByteArray)]) (t := 88) ?hr ?_; (case hd => rfl); (case hg => rfl); (case hr => first | (go_simp; done) | (go_simp; rfl)); intro gb141 hg w16 hbox hb; have n0_ := Aside0.mk (bst (by repeat (first | (with_reducible first | exact HB.out | apply bal | apply pbd | apply bd1) | exact HB.out)) hb); have n1_ := Aside0.mk (hbox); have n2_ := Aside0.mk ((by rw [hg]; exact (bsz (by repeat (first | (with_reducible first | exact HB.out | apply bal | apply pbd | apply bd1) | exact HB.out))) : w.heap.size ≤ gb141)); have n3_ := Aside0.mk ((by rw [hg]; exact (bsz (by repeat (first | (with_reducible first | exact HB.out | apply bal | apply pbd | apply bd1) | exact HB.out))) : w.heap.size ≤ gb141)); replace HB := n0_; have BK141 := n1_; have GW141 := n2_; have GE141 := n3_; clear n0_ n1_ n2_ n3_; clear hb hbox hg; obtain ⟨hcz17_0, hcz17_1, hcz17_2⟩ := zC3 BK141.out; obtain ⟨hfz17_0, hfz17_1⟩ := zF2 BK141.out; have hfz17_2 := bfz BK141.out 2) | ((with_reducible refine gcl (f := 79) rfl ?_); refine goesL_ (some 17) rfl rfl Tryd.func79 (by kernel_rfl) rfl #[.agg #[.int .i64 ((rd_T88 l0 x12_1).f0), .int .i64 ((rd_T88 l0 x12_1).f1), .string ((rd_T88 l0 x12_1).f2)]] rfl (by (try simp only [List.map_toArray, List.map_cons, List.map_nil]); first | done | rfl | (simp only [List.length_drop, List.length_take]; rfl)) ?_; (with_reducible refine (spec_l4Item.calls k1 ((rd_T88 l0 x12_1).f0) ((rd_T88 l0 x12_1).f1) ((rd_T88 l0 x12_1).f2) true _ A7.out).mono ?_); rintro e w18 ⟨rfl, hb⟩; refine ⟨_, rfl, ?_⟩; have n0_ := Aside0.mk (bbe (g := gb141) (o := .cells #[.int .i64 ((rd_T88 l0 x12_1).f0), .int .i64 ((rd_T88 l0 x12_1).f1), .string ((rd_T88 l0 x12_1).f2)] 88 (0, 0)) (by (with_reducible repeat (first | refine bdN ?_ _ | refine bkD ?_ | refine bkA ?_ _)); refine bpu (cs := #[.int .i64 ((rd_T88 l0 x12_1).f0), .int .i64 ((rd_T88 l0 x12_1).f1), .string (⟨#[]⟩ : ByteArray)]) ?_ 2 _ rfl; (with_reducible repeat (first | refine bdN ?_ _ | refine bkD ?_ | refine bkA ?_ _)); refine bpu (cs := #[.int .i64 ((rd_T88 l0 x12_1).f0), .int .i64 0, .string (⟨#[]⟩ : ByteArray)]) ?_ 1 _ rfl; (with_reducible repeat (first | refine bdN ?_ _ | refine bkD ?_ | refine bkA ?_ _)); refine bpu (cs := #[.int .i64 0, .int .i64 0, .string (⟨#[]⟩ : ByteArray)]) ?_ 0 _ rfl; (with_reducible repeat (first | refine bdN ?_ _ | refine bkD ?_ | refine bkA ?_ _)); exact BK141.out) hb); have n1_ := Aside0.mk (bst (by repeat (first | (with_reducible first | exact HB.out | apply bal | apply pbd | apply bd1 | refine bse ?_ GE141.out) | exact HB.out)) hb); replace BK141 := n0_; replace HB := n1_; clear n0_ n1_; (try clear hb); (try clear hb2); (try clear hk); (try clear hi); obtain ⟨hcz19_0, hcz19_1, hcz19_2⟩ := zC3 BK141.out; obtain ⟨hfz19_0, hfz19_1⟩ := zF2 BK141.out; have hfz19_2 := bfz BK141.out 2) | (go_at_call 80; (with_reducible refine (spec_l4Arity.calls ((rd_T88 l0 x12_1).f0) t143 _ A9.out).mono ?_); rintro e w' ⟨rfl, ⟨nd, rfl⟩⟩) | ((with_reducible refine gcl (f := 80) rfl ?_); refine goesL_ (some 29) rfl rfl Tryd.func80 (by kernel_rfl) rfl #[.int .i64 ((rd_T88 l0 x12_1).f0)] rfl (by (try simp only [List.map_toArray, List.map_cons, List.map_nil]); first | done | rfl | (simp only [List.length_drop, List.length_take]; rfl)) ?_; (with_reducible refine (spec_l4Arity.calls ((rd_T88 l0 x12_1).f0) t144 _ A15.out).mono ?_); rintro e w' ⟨rfl, ⟨nd, rfl⟩⟩; refine ⟨_, rfl, ?_⟩)); go_roundg k1
                  case measure => have := HK1.out; omega
                  case rel => exact ⟨(wrap64 (x3_1 + (wrap64 (1 - t144)))), (wrap64 (x12_1 + 1)), (by first | rfl | (simp; done) | (simp [*]; done)), (by first | rfl | (simp; done) | (simp [*]; done)), H', ⟨by have := HK1.out; omega⟩, ⟨by repeat (first | (with_reducible first | exact HB.out | apply bal | apply pbd | apply bd1 | refine bse ?_ GE141.out) | exact HB.out)⟩⟩
              · replace c8 := Bool.eq_false_iff.mpr c8; subst c8; (have H1 : (some false) = some r := by rw [if_neg (show ¬ (false = true) by decide)] at H; exact H); clear H; have H := H1; clear H1; obtain rfl := Option.some.inj H; have p140 : 0 ≤ (x12_1 : Int) := of_decide_eq_true (by first | (with_reducible assumption) | assumption); have q140 : x12_1 < (l0.length : Int) := of_decide_eq_true (by first | (with_reducible assumption) | assumption); obtain ⟨ad140, e140, hx140_0, hx140_1, hx140_2⟩ := at_T88 HR0.out x12_1 p140 q140; cases e140; replace hx140_0 := (HB.out.cell (World.block_lt_of_cell? w _ hx140_0)).trans hx140_0; replace hx140_1 := (HB.out.cell (World.block_lt_of_cell? w _ hx140_1)).trans hx140_1; replace hx140_2 := (HB.out.cell (World.block_lt_of_cell? w _ hx140_2)).trans hx140_2; replace p140 := eq_true p140; replace q140 := eq_true q140; go_wp2_with (first | ((with_reducible refine gds (N := 5) rfl ?_); refine bxe ?hg (N := 5) ?hd (cs := #[.int .i64 0, .int .i64 0, .string (⟨#[]⟩ : ByteArray)]) (t := 88) ?hr ?_; (case hd => rfl); (case hg => rfl); (case hr => first | (go_simp; done) | (go_simp; rfl)); intro gb141 hg w20 hbox hb; have n0_ := Aside0.mk (bst (by repeat (first | (with_reducible first | exact HB.out | apply bal | apply pbd | apply bd1) | exact HB.out)) hb); have n1_ := Aside0.mk (hbox); have n2_ := Aside0.mk ((by rw [hg]; exact (bsz (by repeat (first | (with_reducible first | exact HB.out | apply bal | apply pbd | apply bd1) | exact HB.out))) : w.heap.size ≤ gb141)); have n3_ := Aside0.mk ((by rw [hg]; exact (bsz (by repeat (first | (with_reducible first | exact HB.out | apply bal | apply pbd | apply bd1) | exact HB.out))) : w.heap.size ≤ gb141)); replace HB := n0_; have BK141 := n1_; have GW141 := n2_; have GE141 := n3_; clear n0_ n1_ n2_ n3_; clear hb hbox hg; obtain ⟨hcz21_0, hcz21_1, hcz21_2⟩ := zC3 BK141.out; obtain ⟨hfz21_0, hfz21_1⟩ := zF2 BK141.out; have hfz21_2 := bfz BK141.out 2) | ((with_reducible refine gcl (f := 79) rfl ?_); refine goesL_ (some 17) rfl rfl Tryd.func79 (by kernel_rfl) rfl #[.agg #[.int .i64 ((rd_T88 l0 x12_1).f0), .int .i64 ((rd_T88 l0 x12_1).f1), .string ((rd_T88 l0 x12_1).f2)]] rfl (by (try simp only [List.map_toArray, List.map_cons, List.map_nil]); first | done | rfl | (simp only [List.length_drop, List.length_take]; rfl)) ?_; (with_reducible refine (spec_l4Item.calls k1 ((rd_T88 l0 x12_1).f0) ((rd_T88 l0 x12_1).f1) ((rd_T88 l0 x12_1).f2) false _ A7.out).mono ?_); rintro e w22 ⟨rfl, hb⟩; refine ⟨_, rfl, ?_⟩; have n0_ := Aside0.mk (bbe (g := gb141) (o := .cells #[.int .i64 ((rd_T88 l0 x12_1).f0), .int .i64 ((rd_T88 l0 x12_1).f1), .string ((rd_T88 l0 x12_1).f2)] 88 (0, 0)) (by (with_reducible repeat (first | refine bdN ?_ _ | refine bkD ?_ | refine bkA ?_ _)); refine bpu (cs := #[.int .i64 ((rd_T88 l0 x12_1).f0), .int .i64 ((rd_T88 l0 x12_1).f1), .string (⟨#[]⟩ : ByteArray)]) ?_ 2 _ rfl; (with_reducible repeat (first | refine bdN ?_ _ | refine bkD ?_ | refine bkA ?_ _)); refine bpu (cs := #[.int .i64 ((rd_T88 l0 x12_1).f0), .int .i64 0, .string (⟨#[]⟩ : ByteArray)]) ?_ 1 _ rfl; (with_reducible repeat (first | refine bdN ?_ _ | refine bkD ?_ | refine bkA ?_ _)); refine bpu (cs := #[.int .i64 0, .int .i64 0, .string (⟨#[]⟩ : ByteArray)]) ?_ 0 _ rfl; (with_reducible repeat (first | refine bdN ?_ _ | refine bkD ?_ | refine bkA ?_ _)); exact BK141.out) hb); have n1_ := Aside0.mk (bst (by repeat (first | (with_reducible first | exact HB.out | apply bal | apply pbd | apply bd1 | refine bse ?_ GE141.out) | exact HB.out)) hb); replace BK141 := n0_; replace HB := n1_; clear n0_ n1_; (try clear hb); (try clear hb2); (try clear hk); (try clear hi))); go_ret; exact ⟨by first | rfl | (simp [eWn, eWs] <;> rfl) | (simp [*, eWn, eWs] <;> rfl), by repeat (first | (with_reducible first | exact HB.out | apply bal | apply pbd | apply bd1 | refine bse ?_ GE141.out) | exact HB.out)⟩
            · rw [if_neg c6] at H; exact absurd H (by simp)
          · rw [if_neg c5] at H; exact absurd H (by simp)
        · rw [if_neg c4] at H; have c4b0 : decide (x12_1 < (l0.length : Int)) = false := decide_eq_false c4; clear c4; obtain rfl := Option.some.inj H; go_wp2; go_ret; exact ⟨by first | rfl | (simp [eWn, eWs] <;> rfl) | (simp [*, eWn, eWs] <;> rfl), by repeat (first | (with_reducible first | exact HB.out | apply bal | apply pbd | apply bd1) | exact HB.out)⟩
  · replace c3 := Bool.eq_false_iff.mpr c3; subst c3; (have H1 : (some false) = some r := by rw [if_neg (show ¬ (false = true) by decide)] at H; exact H); clear H; have H := H1; clear H1; obtain rfl := Option.some.inj H; go_enter Tryd.func57, Tryd.ntmps57; go_wp2_with (first | ((with_reducible refine gcl (f := 72) rfl ?_); refine goesL_ (some 8) rfl rfl Tryd.func72 (by kernel_rfl) rfl #[.int .i64 (l0.length : Int), .int .i64 1, .int .i64 100] rfl (by (try simp only [List.map_toArray, List.map_cons, List.map_nil]); first | done | rfl | (simp only [List.length_drop, List.length_take]; rfl)) ?_; (with_reducible refine (spec_l1Between.calls (l0.length : Int) 1 100 false _ A2.out).mono ?_); rintro e w' ⟨rfl, ⟨nd, rfl⟩⟩; refine ⟨_, rfl, ?_⟩)); go_ret; exact ⟨by first | rfl | (simp [eWn, eWs] <;> rfl) | (simp [*, eWn, eWs] <;> rfl), by repeat (first | (with_reducible first | exact HB.out | apply bal | apply pbd | apply bd1) | exact HB.out)⟩
def spec_l4Where.f (k : Nat) (l0 : List (S88)) : Option (Bool) := if (l0.length : Int) = 0 then (some true) else ((spec_l4Exp.f k l0).bind fun t145 => (some t145))
theorem spec_l4Where.mono : ∀ a0 k, LeO (spec_l4Where.f k a0) (spec_l4Where.f (k + 1) a0) := by
  intro a0 k
  unfold spec_l4Where.f
  repeat' first
      | (with_reducible exact spec_l4Exp.mono _ _)
      | (with_reducible exact LeO.refl _)
      | (with_reducible exact LeO.none _)
      | (with_reducible refine LeO.ite ?_ ?_)
      | (with_reducible refine LeO.bind ?_ (fun _ => ?_))
      | exact spec_l4Exp.mono _ _
      | exact LeO.none _
      | refine LeO.ite ?_ ?_
      | refine LeO.bind ?_ (fun _ => ?_)
set_option maxHeartbeats 8000000 in
set_option maxRecDepth 100000 in
theorem spec_l4Where.calls (k : Nat) (A0 : Option Addr) (c0 : Nat) (l0 : List (S88)) (r : Bool) (w : World) (hr0 : Kd.C k88 w A0 l0.length l0) (hc0 : l0.length ≤ c0) (h : spec_l4Where.f k l0 = some r) :
    Calls Tryd.prog 58 #[.slice A0 l0.length c0] w fun e w' => e = .returned (.bool r) ∧ Below w.heap.size w w' := by
  have HR0 := Aside0.mk hr0; have HC0 := Aside0.mk hc0; clear hr0 hc0; have HB := Aside0.mk (Below.refl w.heap.size w); have H : (if (l0.length : Int) = 0 then (some true) else ((spec_l4Exp.f k l0).bind fun t145 => (some t145))) = some r := h; clear h; by_cases c2 : (l0.length : Int) = 0
  · rw [if_pos c2] at H; have c2b0 : ((l0.length : Int) == 0) = true := beq_iff_eq.mpr c2; have c2b1 : ((l0.length : Int) != 0) = false := bne_eq_false_iff_eq.mpr c2; clear c2; obtain rfl := Option.some.inj H; go_enter Tryd.func58, Tryd.ntmps58; go_wp2; go_ret; exact ⟨by first | rfl | (simp [eWn, eWs] <;> rfl) | (simp [*, eWn, eWs] <;> rfl), by repeat (first | (with_reducible first | exact HB.out | apply bal | apply pbd | apply bd1) | exact HB.out)⟩
  · rw [if_neg c2] at H; have c2b0 : ((l0.length : Int) == 0) = false := beq_eq_false_iff_ne.mpr c2; have c2b1 : ((l0.length : Int) != 0) = true := bne_iff_ne.mpr c2; have c2b2 : ¬ (l0 = []) := fun h_ => c2 (by rw [h_]; rfl); replace H := Option.bind_eq_some_iff.mp H; obtain ⟨t145, A30, H⟩ := H; replace H : (some t145) = some r := H; have A3 := Aside0.mk A30; clear A30; obtain rfl := Option.some.inj H; go_enter Tryd.func58, Tryd.ntmps58; go_wp2_with (first | (go_at_call 57; (with_reducible refine (spec_l4Exp.calls k _ _ l0 t145 _ ?side1 ?side2 A3.out).mono ?_); (case side1 => repeat (first | exact HR0.out | (with_reducible refine Kd.Cal ?_ _) | (with_reducible refine Kd.CdN ?_ _) | (with_reducible refine Kd.Cdr ?_))); (case side2 => exact HC0.out); rintro e w4 ⟨rfl, hb⟩; have n0_ := Aside0.mk (bst (by repeat (first | (with_reducible first | exact HB.out | apply bal | apply pbd | apply bd1) | exact HB.out)) hb); replace HB := n0_; clear n0_; (try clear hb); (try clear hb2); (try clear hk); (try clear hi))); go_ret; exact ⟨by first | rfl | (simp [eWn, eWs] <;> rfl) | (simp [*, eWn, eWs] <;> rfl), by repeat (first | (with_reducible first | exact HB.out | apply bal | apply pbd | apply bd1) | exact HB.out)⟩
open Go.Proofs.YtjihphegmdfpfaaDoorW.PrintWords renaming bal → zA
open Go.Proofs.YtjihphegmdfpfaaDoorW.PrintWords renaming pbd → zD
open Go.Proofs.YtjihphegmdfpfaaDoorW.PrintWords renaming bd1 → z1
open Go.Proofs.YtjihphegmdfpfaaDoorW.PrintWords renaming bse → zS
open Go.Proofs.YtjihphegmdfpfaaDoorW.PrintWords renaming bdN → zbN
open Go.Proofs.YtjihphegmdfpfaaDoorW.PrintWords renaming bkD → zb1
open Go.Proofs.YtjihphegmdfpfaaDoorW.PrintWords renaming bkA → zbA
open Go.Proofs.YtjihphegmdfpfaaDoorW.PrintWords.Kd renaming Cal → zCa
open Go.Proofs.YtjihphegmdfpfaaDoorW.PrintWords.Kd renaming CdN → zCn
open Go.Proofs.YtjihphegmdfpfaaDoorW.PrintWords.Kd renaming Cdr → zCd
open Go.Proofs.YtjihphegmdfpfaaDoorW.PrintWords renaming bbe → zbb
open Go.Proofs.YtjihphegmdfpfaaDoorW.PrintWords renaming bst → zst
open Go.Proofs.YtjihphegmdfpfaaDoorW.PrintWords renaming bsz → zsz
open Go.Proofs.YtjihphegmdfpfaaDoorW.PrintLast renaming goesL_ → zg
open Go.Proofs.YtjihphegmdfpfaaDoorW.PrintWords.Aside0 renaming mk → zK
open Go.Proofs.YtjihphegmdfpfaaDoorW.PrintWords renaming gcl → zgc
open Go.Proofs.YtjihphegmdfpfaaDoorW.PrintWords renaming gds → zgd
open Go.Proofs.YtjihphegmdfpfaaDoorW.PrintWords renaming bxe → zbx
open Go.Proofs.YtjihphegmdfpfaaDoorW.PrintWords renaming blt → zbl
open Go.Proofs.YtjihphegmdfpfaaDoorW.PrintWords renaming bce → zbc
mutual
def spec_StmOK.j0 : Nat → Int → Bool → Int → ByteArray → List (S51) → List (S53) → ByteArray → List (S88) → List (S88) → List (List (S88)) → Option (Bool)
  | 0, _, _, _, _, _, _, _, _, _, _ => none
  | k + 1, x3, x58, x147000, x147001, x147002, x147003, x147004, x147005, x147006, x147007 => if x58 = true then (some false) else (if x3 < 3 then (spec_StmOK.j1 k x3 ((x147006.length : Int) != 0) x147000 x147001 x147002 x147003 x147004 x147005 x147006 x147007) else (spec_StmOK.j1 k x3 false x147000 x147001 x147002 x147003 x147004 x147005 x147006 x147007))
def spec_StmOK.j1 : Nat → Int → Bool → Int → ByteArray → List (S51) → List (S53) → ByteArray → List (S88) → List (S88) → List (List (S88)) → Option (Bool)
  | 0, _, _, _, _, _, _, _, _, _, _ => none
  | k + 1, x3, x66, x147000, x147001, x147002, x147003, x147004, x147005, x147006, x147007 => if x66 = true then (some false) else (if x3 = 1 then (spec_StmOK.l0 k x147002 (x147002.length : Int) 0 x147000 x147001 x147002 x147003 x147004 x147005 x147006 x147007) else (if x3 = 2 then (spec_StmOK.l1 k x147003 (x147003.length : Int) 0 x147000 x147001 x147002 x147003 x147004 x147005 x147006 x147007) else (if x3 = 3 then ((spec_l4Name.f k x147004).bind fun t155 => (if t155 = true then ((spec_l4Exp.f k x147005).bind fun t156 => (if t156 = true then ((spec_l4Where.f k x147006).bind fun t157 => (some t157)) else (some false))) else (some false))) else (if x3 = 4 then ((spec_l4Where.f k x147006).bind fun t158 => (some t158)) else (if x3 = 5 then (spec_StmOK.l2 k x147007 (x147007.length : Int) 0 x147000 x147001 x147002 x147003 x147004 x147005 x147006 x147007) else (some false))))))
def spec_StmOK.l0 : Nat → List (S51) → Int → Int → Int → ByteArray → List (S51) → List (S53) → ByteArray → List (S88) → List (S88) → List (List (S88)) → Option (Bool)
  | 0, _, _, _, _, _, _, _, _, _, _, _ => none
  | k + 1, x71, x72, x73, x147000, x147001, x147002, x147003, x147004, x147005, x147006, x147007 => if x73 < x72 then (if 0 ≤ x73 then (if x73 < (x71.length : Int) then (if (x147002.length : Int) > 20 then (some false) else ((spec_l4Name.f k ((rd_T51 x71 x73).f0)).bind fun t150 => (if t150 = true then ((spec_l4Type.f ((rd_T51 x71 x73).f1)).bind fun t151 => (if t151 = true then (spec_StmOK.l0 k x71 x72 (wrap64 (x73 + 1)) x147000 x147001 x147002 x147003 x147004 x147005 x147006 x147007) else (some false))) else (some false)))) else (none)) else (none)) else (some (decide ((x147002.length : Int) > 0)))
def spec_StmOK.l1 : Nat → List (S53) → Int → Int → Int → ByteArray → List (S51) → List (S53) → ByteArray → List (S88) → List (S88) → List (List (S88)) → Option (Bool)
  | 0, _, _, _, _, _, _, _, _, _, _, _ => none
  | k + 1, x101, x102, x103, x147000, x147001, x147002, x147003, x147004, x147005, x147006, x147007 => if x103 < x102 then (if 0 ≤ x103 then (if x103 < (x101.length : Int) then (if (x147003.length : Int) > 20 then (some false) else ((spec_l4Value.f k ((rd_T53 x101 x103).f0) ((rd_T53 x101 x103).f1) ((rd_T53 x101 x103).f2)).bind fun t154 => (if t154 = true then (spec_StmOK.l1 k x101 x102 (wrap64 (x103 + 1)) x147000 x147001 x147002 x147003 x147004 x147005 x147006 x147007) else (some false)))) else (none)) else (none)) else (some (decide ((x147003.length : Int) > 0)))
def spec_StmOK.l2 : Nat → List (List (S88)) → Int → Int → Int → ByteArray → List (S51) → List (S53) → ByteArray → List (S88) → List (S88) → List (List (S88)) → Option (Bool)
  | 0, _, _, _, _, _, _, _, _, _, _, _ => none
  | k + 1, x144, x145, x146, x147000, x147001, x147002, x147003, x147004, x147005, x147006, x147007 => if x146 < x145 then (if 0 ≤ x146 then (if x146 < (x144.length : Int) then (if (x147007.length : Int) > 20 then (some false) else ((spec_l4Exp.f k (rd_L9 x144 x146)).bind fun t160 => (if t160 = true then (spec_StmOK.l2 k x144 x145 (wrap64 (x146 + 1)) x147000 x147001 x147002 x147003 x147004 x147005 x147006 x147007) else (some false)))) else (none)) else (none)) else (if (x147007.length : Int) > 0 then ((spec_l4Where.f k x147006).bind fun t161 => (some t161)) else (some false))
end
def spec_StmOK.f (k : Nat) (a0_0 : Int) (a0_1 : ByteArray) (l0_2 : List (S51)) (l0_3 : List (S53)) (a0_4 : ByteArray) (l0_5 : List (S88)) (l0_6 : List (S88)) (l0_7 : List (List (S88))) : Option (Bool) := (spec_l4Name.f k a0_1).bind fun t147 => (if t147 = true then (if a0_0 = 1 then (if a0_0 = 2 then (if a0_0 = 3 then (if a0_0 = 5 then (spec_StmOK.j0 k a0_0 false a0_0 a0_1 l0_2 l0_3 a0_4 l0_5 l0_6 l0_7) else (spec_StmOK.j0 k a0_0 ((l0_7.length : Int) != 0) a0_0 a0_1 l0_2 l0_3 a0_4 l0_5 l0_6 l0_7)) else (if a0_4.toList = ([] : List UInt8) then (if (l0_5.length : Int) = 0 then (if a0_0 = 5 then (spec_StmOK.j0 k a0_0 false a0_0 a0_1 l0_2 l0_3 a0_4 l0_5 l0_6 l0_7) else (spec_StmOK.j0 k a0_0 ((l0_7.length : Int) != 0) a0_0 a0_1 l0_2 l0_3 a0_4 l0_5 l0_6 l0_7)) else (spec_StmOK.j0 k a0_0 true a0_0 a0_1 l0_2 l0_3 a0_4 l0_5 l0_6 l0_7)) else (spec_StmOK.j0 k a0_0 true a0_0 a0_1 l0_2 l0_3 a0_4 l0_5 l0_6 l0_7))) else (if (l0_3.length : Int) = 0 then (if a0_0 = 3 then (if a0_0 = 5 then (spec_StmOK.j0 k a0_0 false a0_0 a0_1 l0_2 l0_3 a0_4 l0_5 l0_6 l0_7) else (spec_StmOK.j0 k a0_0 ((l0_7.length : Int) != 0) a0_0 a0_1 l0_2 l0_3 a0_4 l0_5 l0_6 l0_7)) else (if a0_4.toList = ([] : List UInt8) then (if (l0_5.length : Int) = 0 then (if a0_0 = 5 then (spec_StmOK.j0 k a0_0 false a0_0 a0_1 l0_2 l0_3 a0_4 l0_5 l0_6 l0_7) else (spec_StmOK.j0 k a0_0 ((l0_7.length : Int) != 0) a0_0 a0_1 l0_2 l0_3 a0_4 l0_5 l0_6 l0_7)) else (spec_StmOK.j0 k a0_0 true a0_0 a0_1 l0_2 l0_3 a0_4 l0_5 l0_6 l0_7)) else (spec_StmOK.j0 k a0_0 true a0_0 a0_1 l0_2 l0_3 a0_4 l0_5 l0_6 l0_7))) else (spec_StmOK.j0 k a0_0 true a0_0 a0_1 l0_2 l0_3 a0_4 l0_5 l0_6 l0_7))) else (if (l0_2.length : Int) = 0 then (if a0_0 = 2 then (if a0_0 = 3 then (if a0_0 = 5 then (spec_StmOK.j0 k a0_0 false a0_0 a0_1 l0_2 l0_3 a0_4 l0_5 l0_6 l0_7) else (spec_StmOK.j0 k a0_0 ((l0_7.length : Int) != 0) a0_0 a0_1 l0_2 l0_3 a0_4 l0_5 l0_6 l0_7)) else (if a0_4.toList = ([] : List UInt8) then (if (l0_5.length : Int) = 0 then (if a0_0 = 5 then (spec_StmOK.j0 k a0_0 false a0_0 a0_1 l0_2 l0_3 a0_4 l0_5 l0_6 l0_7) else (spec_StmOK.j0 k a0_0 ((l0_7.length : Int) != 0) a0_0 a0_1 l0_2 l0_3 a0_4 l0_5 l0_6 l0_7)) else (spec_StmOK.j0 k a0_0 true a0_0 a0_1 l0_2 l0_3 a0_4 l0_5 l0_6 l0_7)) else (spec_StmOK.j0 k a0_0 true a0_0 a0_1 l0_2 l0_3 a0_4 l0_5 l0_6 l0_7))) else (if (l0_3.length : Int) = 0 then (if a0_0 = 3 then (if a0_0 = 5 then (spec_StmOK.j0 k a0_0 false a0_0 a0_1 l0_2 l0_3 a0_4 l0_5 l0_6 l0_7) else (spec_StmOK.j0 k a0_0 ((l0_7.length : Int) != 0) a0_0 a0_1 l0_2 l0_3 a0_4 l0_5 l0_6 l0_7)) else (if a0_4.toList = ([] : List UInt8) then (if (l0_5.length : Int) = 0 then (if a0_0 = 5 then (spec_StmOK.j0 k a0_0 false a0_0 a0_1 l0_2 l0_3 a0_4 l0_5 l0_6 l0_7) else (spec_StmOK.j0 k a0_0 ((l0_7.length : Int) != 0) a0_0 a0_1 l0_2 l0_3 a0_4 l0_5 l0_6 l0_7)) else (spec_StmOK.j0 k a0_0 true a0_0 a0_1 l0_2 l0_3 a0_4 l0_5 l0_6 l0_7)) else (spec_StmOK.j0 k a0_0 true a0_0 a0_1 l0_2 l0_3 a0_4 l0_5 l0_6 l0_7))) else (spec_StmOK.j0 k a0_0 true a0_0 a0_1 l0_2 l0_3 a0_4 l0_5 l0_6 l0_7))) else (spec_StmOK.j0 k a0_0 true a0_0 a0_1 l0_2 l0_3 a0_4 l0_5 l0_6 l0_7))) else (some false))
theorem spec_StmOK.mono_l : ∀ k, (∀ y0 y1 y2 y3 y4 y5 y6 y7 y8 y9, LeO (spec_StmOK.j0 k y0 y1 y2 y3 y4 y5 y6 y7 y8 y9) (spec_StmOK.j0 (k + 1) y0 y1 y2 y3 y4 y5 y6 y7 y8 y9)) ∧ (∀ y0 y1 y2 y3 y4 y5 y6 y7 y8 y9, LeO (spec_StmOK.j1 k y0 y1 y2 y3 y4 y5 y6 y7 y8 y9) (spec_StmOK.j1 (k + 1) y0 y1 y2 y3 y4 y5 y6 y7 y8 y9)) ∧ (∀ y0 y1 y2 y3 y4 y5 y6 y7 y8 y9 y10, LeO (spec_StmOK.l0 k y0 y1 y2 y3 y4 y5 y6 y7 y8 y9 y10) (spec_StmOK.l0 (k + 1) y0 y1 y2 y3 y4 y5 y6 y7 y8 y9 y10)) ∧ (∀ y0 y1 y2 y3 y4 y5 y6 y7 y8 y9 y10, LeO (spec_StmOK.l1 k y0 y1 y2 y3 y4 y5 y6 y7 y8 y9 y10) (spec_StmOK.l1 (k + 1) y0 y1 y2 y3 y4 y5 y6 y7 y8 y9 y10)) ∧ (∀ y0 y1 y2 y3 y4 y5 y6 y7 y8 y9 y10, LeO (spec_StmOK.l2 k y0 y1 y2 y3 y4 y5 y6 y7 y8 y9 y10) (spec_StmOK.l2 (k + 1) y0 y1 y2 y3 y4 y5 y6 y7 y8 y9 y10))
  | 0 => ⟨fun _ _ _ _ _ _ _ _ _ _ r h => by simp [spec_StmOK.j0] at h, fun _ _ _ _ _ _ _ _ _ _ r h => by simp [spec_StmOK.j1] at h, fun _ _ _ _ _ _ _ _ _ _ _ r h => by simp [spec_StmOK.l0] at h, fun _ _ _ _ _ _ _ _ _ _ _ r h => by simp [spec_StmOK.l1] at h, fun _ _ _ _ _ _ _ _ _ _ _ r h => by simp [spec_StmOK.l2] at h⟩
  | k + 1 => by
    obtain ⟨ih0, ih1, ih2, ih3, ih4⟩ := spec_StmOK.mono_l k
    refine ⟨?_, ?_, ?_, ?_, ?_⟩
    · intro y0 y1 y2 y3 y4 y5 y6 y7 y8 y9
      unfold spec_StmOK.j0
      repeat' first
      | (with_reducible exact ih0 _ _ _ _ _ _ _ _ _ _)
      | (with_reducible exact ih1 _ _ _ _ _ _ _ _ _ _)
      | (with_reducible exact ih2 _ _ _ _ _ _ _ _ _ _ _)
      | (with_reducible exact ih3 _ _ _ _ _ _ _ _ _ _ _)
      | (with_reducible exact ih4 _ _ _ _ _ _ _ _ _ _ _)
      | (with_reducible exact spec_l4Exp.mono _ _)
      | (with_reducible exact spec_l4Name.mono _ _)
      | (with_reducible exact spec_l4Value.mono _ _ _ _)
      | (with_reducible exact spec_l4Where.mono _ _)
      | (with_reducible exact LeO.refl _)
      | (with_reducible exact LeO.none _)
      | (with_reducible refine LeO.ite ?_ ?_)
      | (with_reducible refine LeO.bind ?_ (fun _ => ?_))
      | exact ih0 _ _ _ _ _ _ _ _ _ _
      | exact ih1 _ _ _ _ _ _ _ _ _ _
      | exact ih2 _ _ _ _ _ _ _ _ _ _ _
      | exact ih3 _ _ _ _ _ _ _ _ _ _ _
      | exact ih4 _ _ _ _ _ _ _ _ _ _ _
      | exact spec_l4Exp.mono _ _
      | exact spec_l4Name.mono _ _
      | exact spec_l4Value.mono _ _ _ _
      | exact spec_l4Where.mono _ _
      | exact LeO.none _
      | refine LeO.ite ?_ ?_
      | refine LeO.bind ?_ (fun _ => ?_)
    · intro y0 y1 y2 y3 y4 y5 y6 y7 y8 y9
      unfold spec_StmOK.j1
      repeat' first
      | (with_reducible exact ih0 _ _ _ _ _ _ _ _ _ _)
      | (with_reducible exact ih1 _ _ _ _ _ _ _ _ _ _)
      | (with_reducible exact ih2 _ _ _ _ _ _ _ _ _ _ _)
      | (with_reducible exact ih3 _ _ _ _ _ _ _ _ _ _ _)
      | (with_reducible exact ih4 _ _ _ _ _ _ _ _ _ _ _)
      | (with_reducible exact spec_l4Exp.mono _ _)
      | (with_reducible exact spec_l4Name.mono _ _)
      | (with_reducible exact spec_l4Value.mono _ _ _ _)
      | (with_reducible exact spec_l4Where.mono _ _)
      | (with_reducible exact LeO.refl _)
      | (with_reducible exact LeO.none _)
      | (with_reducible refine LeO.ite ?_ ?_)
      | (with_reducible refine LeO.bind ?_ (fun _ => ?_))
      | exact ih0 _ _ _ _ _ _ _ _ _ _
      | exact ih1 _ _ _ _ _ _ _ _ _ _
      | exact ih2 _ _ _ _ _ _ _ _ _ _ _
      | exact ih3 _ _ _ _ _ _ _ _ _ _ _
      | exact ih4 _ _ _ _ _ _ _ _ _ _ _
      | exact spec_l4Exp.mono _ _
      | exact spec_l4Name.mono _ _
      | exact spec_l4Value.mono _ _ _ _
      | exact spec_l4Where.mono _ _
      | exact LeO.none _
      | refine LeO.ite ?_ ?_
      | refine LeO.bind ?_ (fun _ => ?_)
    · intro y0 y1 y2 y3 y4 y5 y6 y7 y8 y9 y10
      unfold spec_StmOK.l0
      repeat' first
      | (with_reducible exact ih0 _ _ _ _ _ _ _ _ _ _)
      | (with_reducible exact ih1 _ _ _ _ _ _ _ _ _ _)
      | (with_reducible exact ih2 _ _ _ _ _ _ _ _ _ _ _)
      | (with_reducible exact ih3 _ _ _ _ _ _ _ _ _ _ _)
      | (with_reducible exact ih4 _ _ _ _ _ _ _ _ _ _ _)
      | (with_reducible exact spec_l4Exp.mono _ _)
      | (with_reducible exact spec_l4Name.mono _ _)
      | (with_reducible exact spec_l4Value.mono _ _ _ _)
      | (with_reducible exact spec_l4Where.mono _ _)
      | (with_reducible exact LeO.refl _)
      | (with_reducible exact LeO.none _)
      | (with_reducible refine LeO.ite ?_ ?_)
      | (with_reducible refine LeO.bind ?_ (fun _ => ?_))
      | exact ih0 _ _ _ _ _ _ _ _ _ _
      | exact ih1 _ _ _ _ _ _ _ _ _ _
      | exact ih2 _ _ _ _ _ _ _ _ _ _ _
      | exact ih3 _ _ _ _ _ _ _ _ _ _ _
      | exact ih4 _ _ _ _ _ _ _ _ _ _ _
      | exact spec_l4Exp.mono _ _
      | exact spec_l4Name.mono _ _
      | exact spec_l4Value.mono _ _ _ _
      | exact spec_l4Where.mono _ _
      | exact LeO.none _
      | refine LeO.ite ?_ ?_
      | refine LeO.bind ?_ (fun _ => ?_)
    · intro y0 y1 y2 y3 y4 y5 y6 y7 y8 y9 y10
      unfold spec_StmOK.l1
      repeat' first
      | (with_reducible exact ih0 _ _ _ _ _ _ _ _ _ _)
      | (with_reducible exact ih1 _ _ _ _ _ _ _ _ _ _)
      | (with_reducible exact ih2 _ _ _ _ _ _ _ _ _ _ _)
      | (with_reducible exact ih3 _ _ _ _ _ _ _ _ _ _ _)
      | (with_reducible exact ih4 _ _ _ _ _ _ _ _ _ _ _)
      | (with_reducible exact spec_l4Exp.mono _ _)
      | (with_reducible exact spec_l4Name.mono _ _)
      | (with_reducible exact spec_l4Value.mono _ _ _ _)
      | (with_reducible exact spec_l4Where.mono _ _)
      | (with_reducible exact LeO.refl _)
      | (with_reducible exact LeO.none _)
      | (with_reducible refine LeO.ite ?_ ?_)
      | (with_reducible refine LeO.bind ?_ (fun _ => ?_))
      | exact ih0 _ _ _ _ _ _ _ _ _ _
      | exact ih1 _ _ _ _ _ _ _ _ _ _
      | exact ih2 _ _ _ _ _ _ _ _ _ _ _
      | exact ih3 _ _ _ _ _ _ _ _ _ _ _
      | exact ih4 _ _ _ _ _ _ _ _ _ _ _
      | exact spec_l4Exp.mono _ _
      | exact spec_l4Name.mono _ _
      | exact spec_l4Value.mono _ _ _ _
      | exact spec_l4Where.mono _ _
      | exact LeO.none _
      | refine LeO.ite ?_ ?_
      | refine LeO.bind ?_ (fun _ => ?_)
    · intro y0 y1 y2 y3 y4 y5 y6 y7 y8 y9 y10
      unfold spec_StmOK.l2
      repeat' first
      | (with_reducible exact ih0 _ _ _ _ _ _ _ _ _ _)
      | (with_reducible exact ih1 _ _ _ _ _ _ _ _ _ _)
      | (with_reducible exact ih2 _ _ _ _ _ _ _ _ _ _ _)
      | (with_reducible exact ih3 _ _ _ _ _ _ _ _ _ _ _)
      | (with_reducible exact ih4 _ _ _ _ _ _ _ _ _ _ _)
      | (with_reducible exact spec_l4Exp.mono _ _)
      | (with_reducible exact spec_l4Name.mono _ _)
      | (with_reducible exact spec_l4Value.mono _ _ _ _)
      | (with_reducible exact spec_l4Where.mono _ _)
      | (with_reducible exact LeO.refl _)
      | (with_reducible exact LeO.none _)
      | (with_reducible refine LeO.ite ?_ ?_)
      | (with_reducible refine LeO.bind ?_ (fun _ => ?_))
      | exact ih0 _ _ _ _ _ _ _ _ _ _
      | exact ih1 _ _ _ _ _ _ _ _ _ _
      | exact ih2 _ _ _ _ _ _ _ _ _ _ _
      | exact ih3 _ _ _ _ _ _ _ _ _ _ _
      | exact ih4 _ _ _ _ _ _ _ _ _ _ _
      | exact spec_l4Exp.mono _ _
      | exact spec_l4Name.mono _ _
      | exact spec_l4Value.mono _ _ _ _
      | exact spec_l4Where.mono _ _
      | exact LeO.none _
      | refine LeO.ite ?_ ?_
      | refine LeO.bind ?_ (fun _ => ?_)
theorem spec_StmOK.mono : ∀ a0 a1 a2 a3 a4 a5 a6 a7 k, LeO (spec_StmOK.f k a0 a1 a2 a3 a4 a5 a6 a7) (spec_StmOK.f (k + 1) a0 a1 a2 a3 a4 a5 a6 a7) := by
  intro a0 a1 a2 a3 a4 a5 a6 a7 k
  obtain ⟨ih0, ih1, ih2, ih3, ih4⟩ := spec_StmOK.mono_l k
  unfold spec_StmOK.f
  repeat' first
      | (with_reducible exact ih0 _ _ _ _ _ _ _ _ _ _)
      | (with_reducible exact ih1 _ _ _ _ _ _ _ _ _ _)
      | (with_reducible exact ih2 _ _ _ _ _ _ _ _ _ _ _)
      | (with_reducible exact ih3 _ _ _ _ _ _ _ _ _ _ _)
      | (with_reducible exact ih4 _ _ _ _ _ _ _ _ _ _ _)
      | (with_reducible exact spec_l4Exp.mono _ _)
      | (with_reducible exact spec_l4Name.mono _ _)
      | (with_reducible exact spec_l4Value.mono _ _ _ _)
      | (with_reducible exact spec_l4Where.mono _ _)
      | (with_reducible exact LeO.refl _)
      | (with_reducible exact LeO.none _)
      | (with_reducible refine LeO.ite ?_ ?_)
      | (with_reducible refine LeO.bind ?_ (fun _ => ?_))
      | exact ih0 _ _ _ _ _ _ _ _ _ _
      | exact ih1 _ _ _ _ _ _ _ _ _ _
      | exact ih2 _ _ _ _ _ _ _ _ _ _ _
      | exact ih3 _ _ _ _ _ _ _ _ _ _ _
      | exact ih4 _ _ _ _ _ _ _ _ _ _ _
      | exact spec_l4Exp.mono _ _
      | exact spec_l4Name.mono _ _
      | exact spec_l4Value.mono _ _ _ _
      | exact spec_l4Where.mono _ _
      | exact LeO.none _
      | refine LeO.ite ?_ ?_
      | refine LeO.bind ?_ (fun _ => ?_)
end Go.Proofs.YtjihphegmdfpfaaDoor.L
end
section
set_option linter.unusedVariables false
set_option linter.unusedSimpArgs false
namespace Go.Proofs.YtjihphegmdfpfaaDoor.L
open Go Go.Lib Go.RowKit Go.Proofs.YtjihphegmdfpfaaDoor Go.Proofs.YtjihphegmdfpfaaDoorW.PrintWords Go.Proofs.YtjihphegmdfpfaaDoorW.PrintLast Go.Proofs.YtjihphegmdfpfaaDoorW.PrintMore
/-- No cell of the row bears the mark. -/
def freeF (fz : Nat × Nat) (n : Nat) : Prop := fz.2 = 0 ∨ n ≤ fz.1
theorem frozen_free {w : World} {g k : Nat} {cur : Array Value} {t : TypeId} {fz : Nat × Nat} (hg : w.heap[g]? = some (.cells cur t fz)) (hf : freeF fz cur.size) (hk : k < cur.size) : w.frozen? ⟨g, k, none⟩ = false := by
  obtain ⟨lo, hi⟩ := fz
  unfold freeF at hf
  simp only [World.frozen?, hg, Bool.and_eq_false_iff, decide_eq_false_iff_not]
  simp only at hf
  omega
theorem store_free (P : Program) (g o : Nat) (t : TypeId) (fz : Nat × Nat) (vs : List Value) : ∀ (i : Nat) (cur : Array Value) (w : World), w.heap[g]? = some (.cells cur t fz) → freeF fz cur.size → o + i + vs.length ≤ cur.size → (∀ v ∈ vs, v.oneCell' = true) →
    (storeCells ⟨g, o, none⟩ vs i).run P w = .ok () (w.setRow g (cur.toList.take (o + i) ++ vs ++ cur.toList.drop (o + i + vs.length)).toArray) := by
  induction vs with
  | nil =>
    intro i cur w hg _ _ _
    simp only [storeCells, List.append_nil, List.length_nil, Nat.add_zero, List.take_append_drop, Array.toArray_toList]
    rw [setRow_self w g cur t fz hg]
    rfl
  | cons v vs ih =>
    intro i cur w hg hf hl h1
    have hi : o + i < cur.size := by simp at hl; omega
    have hadd : (⟨g, o, none⟩ : Addr).add i = ⟨g, o + i, none⟩ := by unfold Addr.add; split <;> simp_all
    have hst : (store ((⟨g, o, none⟩ : Addr).add i) v).run P w = .ok () (w.setRow g (cur.setIfInBounds (o + i) v)) := by
      rw [hadd, run_store P w _ v _ (h1 v (by simp)), show w.cell? ⟨g, o + i, none⟩ = some cur[o + i] from by simp [World.cell?, hg, hi]]
      simp [frozen_free hg hf hi, setCell_eq_setRow w g (o + i) cur t fz v hg]
    have h2 := ih (i + 1) (cur.setIfInBounds (o + i) v) (w.setRow g (cur.setIfInBounds (o + i) v)) (setRow_heap w g cur _ t _ hg) (by simpa using hf) (by simp at hl ⊢; omega) (fun x hx => h1 x (by simp [hx]))
    simp only [storeCells, Sem.run_bind, hst, Result.andThen_ok, h2, setRow_setRow]
    congr 3
    have e := list_seg_step cur.toList (o + i) v vs (by simp at hl ⊢; omega)
    simpa [Array.toList_setIfInBounds, Nat.add_assoc] using e
/-- A row of the call's own (from block base on) whose first cells are these bytes. -/
def bytRow (w : World) (base : Nat) (e : TypeId) (v : Value) (s : ByteArray) : Prop :=
  ∃ g cap cur fz, v = .slice (some ⟨g, 0, none⟩) s.size cap ∧ base ≤ g ∧ w.heap[g]? = some (.cells cur e fz) ∧ freeF fz cur.size ∧ s.size ≤ cap ∧ cap ≤ maxLen ∧ cur.size = cap ∧ cur.toList.take s.size = strCells s
theorem bytRow_below {w w' : World} {base : Nat} {e : TypeId} {v : Value} {s : ByteArray} (h : bytRow w base e v s) (hb : Below w.heap.size w w') : bytRow w' base e v s := by
  obtain ⟨g, cap, cur, fz, h1, h2, h3, h4⟩ := h
  exact ⟨g, cap, cur, fz, h1, h2, (hb.block g (Array.getElem?_eq_some_iff.1 h3).1).trans h3, h4⟩
theorem bytRow_own {w : World} {base : Nat} {e : TypeId} {v : Value} {s : ByteArray} (h : bytRow w base e v s) : ∀ k, v.ownBlock = some k → base ≤ k ∧ k < w.heap.size := by
  obtain ⟨g, cap, cur, fz, rfl, h2, h3, h4⟩ := h
  intro k hk
  obtain rfl : g = k := by simpa [Value.ownBlock] using hk
  exact ⟨h2, (Array.getElem?_eq_some_iff.1 h3).1⟩
theorem bytRow_set {w : World} {base : Nat} {e : TypeId} {v : Value} {s : ByteArray} (h : bytRow w base e v s) (a : Addr) (u : Value) (hne : some a.block ≠ v.ownBlock) : bytRow (w.setCell a u) base e v s := by
  obtain ⟨g, cap, cur, fz, rfl, h2, h3, h4⟩ := h
  exact ⟨g, cap, cur, fz, rfl, h2, (Below.heap_setCell w a u g (fun e => hne (by rw [← e]; rfl))).trans h3, h4⟩
theorem strCells_append (s t : ByteArray) : strCells (s ++ t) = strCells s ++ strCells t := by
  unfold strCells
  rw [ByteArray.data_append, Array.toList_append, List.map_append]
theorem bytRow_made (w : World) (base : Nat) (e : TypeId) (s : ByteArray) (hb : base ≤ w.heap.size) (hs : s.size ≤ maxLen) : bytRow (bytesWorld w e s) base e (.slice (some ⟨w.heap.size, 0, none⟩) s.size (grownCap w s.size 0 e)) s := by
  have hge := grownCap_ge w s.size 0 e
  have hsz : (bytesCells w e s).size = grownCap w s.size 0 e := by
    unfold bytesCells
    simp only [Array.size_append, Array.size_map, Array.size_replicate]
    have : s.data.size = s.size := rfl
    omega
  refine ⟨w.heap.size, _, _, _, rfl, hb, bytesWorld_at_new w e s, Or.inr (Nat.le_refl _), hge, grownCap_le_maxLen w _ _ e hs, hsz, ?_⟩
  unfold bytesCells
  have hl : (strCells s).length = s.size := strCells_length s
  rw [Array.toList_append, Array.toList_map, show s.data.toList.map (fun b => Value.int .u8 b.toNat) = strCells s from rfl, ← hl]
  exact List.take_left
theorem bytesWorld_below (w0 w : World) (e : TypeId) (s : ByteArray) {B : Nat} (h : Below B w0 w) (hb : B ≤ w.heap.size) : Below B w0 (bytesWorld w e s) := by
  refine h.trans ⟨rfl, rfl, rfl, by rw [bytesWorld_size]; omega, fun k hk => bytesWorld_at_old w e s k (by omega)⟩
theorem bytRow_append {P : Program} {w : World} {base : Nat} {e : TypeId} {v : Value} {s : ByteArray} (t u ty : TypeId) (i : TypeInfo) (ht : P.underlying t = some (.slice e)) (hu : P.underlying u = some .string) (hi : P.info? e = some i) (hz : i.zero = some (.int .u8 0)) (hsize : i.size = 1) (hby : i.bytes = 1)
    (h : bytRow w base e v s) (x : ByteArray) (hsm : s.size + x.size ≤ 1000000000) (hb : base ≤ w.heap.size) :
    ∃ v' w', (Builtin.append_ #[t, u] ty #[v, .string x]).run P w = .ok v' w' ∧ bytRow w' base e v' (s ++ x) ∧ w.grownBy w' v.ownBlock := by
  obtain ⟨g, cap, cur, fz, rfl, hbg, hg, hf, hsc, hcm, hcs, htk⟩ := h
  have hml : maxLen = 9223372036854775807 := rfl
  have hsl : (strCells s).length = s.size := strCells_length s
  have hxl : (strCells x).length = x.size := strCells_length x
  have hone := strCells_oneCell x
  have hsz : (s ++ x).size = s.size + x.size := ByteArray.size_append
  by_cases hroom : s.size + x.size ≤ cap
  · have hfc := run_firstCells_string (P := P) w 1 x
    have hst := store_free P g s.size e fz (strCells x) 0 cur w hg hf (by omega) hone
    simp only [Nat.add_zero, hxl] at hst
    refine ⟨.slice (some ⟨g, 0, none⟩) (s.size + x.size) cap, w.setRow g (cur.toList.take s.size ++ strCells x ++ cur.toList.drop (s.size + x.size)).toArray, ?_, ?_, ?_⟩
    · simp [Builtin.append_, run_underlying ht, run_underlying hu, sizeOf, typeInfo, hi, hsize, Builtin.lenOf, hroom, hfc, Addr.add_lit, hst]
    · refine ⟨g, cap, _, fz, by rw [hsz], hbg, setRow_heap w g cur _ e _ hg, ?_, by omega, hcm, ?_, ?_⟩
      · simp only [List.size_toArray, List.length_append, List.length_take, List.length_drop, Array.length_toList, hxl]
        have : min s.size cur.size + x.size + (cur.size - (s.size + x.size)) = cur.size := by omega
        rw [this]
        exact hf
      · simp only [List.size_toArray, List.length_append, List.length_take, List.length_drop, Array.length_toList, hxl]
        omega
      · rw [htk, strCells_append, hsz]
        have hl : (strCells s ++ strCells x).length = s.size + x.size := by rw [List.length_append, hsl, hxl]
        rw [← hl]
        exact List.take_left
    · exact ⟨rfl, rfl, rfl, by simp, fun k _ hk => setRow_other w g k _ (fun e => hk (by simp [Value.ownBlock, e]))⟩
  · have holds : ∀ j y, (strCells s)[j]? = some y → w.cell? ((⟨g, 0, none⟩ : Addr).add j) = some y := by
      intro j y hj
      have hjs : j < s.size := by rw [← hsl]; exact (List.getElem?_eq_some_iff.1 hj).1
      have hadd : (⟨g, 0, none⟩ : Addr).add j = ⟨g, 0 + j, none⟩ := by unfold Addr.add; split <;> simp_all
      rw [hadd, Nat.zero_add]
      have hc : cur[j]? = some y := by
        rw [← Array.getElem?_toList]
        rw [← htk, List.getElem?_take] at hj
        rw [if_pos hjs] at hj
        exact hj
      simp only [World.cell?, hg]
      exact hc
    have hr := run_append_grow_string (P := P) w t u ty e i (.int .u8 0) ht hu hi hz ⟨g, 0, none⟩ s.size cap (strCells s) (by rw [hsize]; omega) holds x (by omega) (by omega) (by rw [hby]; exact growslice_fits (by omega) (by omega))
    have hge := grownCap_ge w (s.size + x.size) cap e
    refine ⟨_, _, hr, ⟨w.heap.size, _, _, (0, 0), by rw [hsz], hb, heap_alloc_new w.drew _, Or.inl rfl, by rw [hsz]; exact hge, grownCap_le_maxLen w _ _ e (by omega), ?_, ?_⟩, ?_⟩
    · have hz1 : (Value.int IntKind.u8 0).cells.size = 1 := rfl
      simp only [Array.size_append, List.size_toArray, size_zeroCells, hz1, hsl, hxl]
      omega
    · simp only [Array.toList_append, List.append_assoc]
      rw [strCells_append, hsz, ← List.append_assoc]
      have hl : (strCells s ++ strCells x).length = s.size + x.size := by rw [List.length_append, hsl, hxl]
      rw [← hl]
      exact List.take_left
    · exact ⟨rfl, rfl, rfl, by simp, fun k hk _ => heap_alloc_old w.drew _ hk⟩
theorem wpList_bytes_append {P : Program} (w : World) {ops : Array Oper} {rest : List Oper} {o : Oper} {a : Act} {Q : Exit → Act → World → Prop} (hgd : o.guard = none) (sl x : Operand) (t u : TypeId)
    (ho : o.op = .call { callee := .builtin .append, args := #[sl, x], argTypes := #[t, u] }) (base : Nat) (e : TypeId) (hi : (P.info? e).map (fun i => (i.zero, i.size, i.bytes)) = some (some (.int .u8 0), 1, 1)) (ht : P.underlying t = some (.slice e)) (hu : P.underlying u = some .string)
    (v : Value) (s y : ByteArray) (hs : a.eval sl = v) (hx : a.eval x = .string y) (h : bytRow w base e v s) (hsm : s.size + y.size ≤ 1000000000) (hb : base ≤ w.heap.size)
    (hK : ∀ v' w', bytRow w' base e v' (s ++ y) → w.grownBy w' v.ownBlock → wpList P ops Q rest (a.put o.dst v') w') : wpList P ops Q (o :: rest) a w := by
  cases hq : P.info? e with
  | none => rw [hq] at hi; cases hi
  | some i =>
    rw [hq] at hi
    simp only [Option.map_some, Option.some.injEq, Prod.mk.injEq] at hi
    obtain ⟨v', w', hr, h1, h2⟩ := bytRow_append (P := P) t u o.type i ht hu hq hi.1 hi.2.1 hi.2.2 h y hsm hb
    refine wpList_plain hgd fun K hK' => ?_
    unfold Oper.wp execOp
    simp only [ho, resolve, invoke, builtin, Sem.run_bind, Sem.run_pure, Result.andThen_ok, List.map_toArray, List.map_cons, List.map_nil, hs, hx, hr]
    exact hK' _ _ (hK v' w' h1 h2)
theorem wpList_bytes_made {P : Program} (w : World) {ops : Array Oper} {rest : List Oper} {o : Oper} {a : Act} {Q : Exit → Act → World → Prop} (hgd : o.guard = none) (x : Operand) (src dst e : TypeId)
    (ho : o.op = .convert src dst x) (hs : P.underlying src = some .string) (hd : P.underlying dst = some (.slice e)) (he : P.underlying e = some (.int .u8)) (s : ByteArray) (hx : a.eval x = .string s)
    (hK : wpList P ops Q rest (a.put o.dst (.slice (some ⟨w.heap.size, 0, none⟩) s.size (grownCap w s.size 0 e))) (bytesWorld w e s)) : wpList P ops Q (o :: rest) a w := by
  refine wpList_plain hgd fun K hK' => ?_
  have hr := Go.Lib.run_convert_string_bytes (P := P) w src dst e s hs hd he
  unfold Oper.wp
  have hr2 : (execOp a.eval o).run P w = .ok (.value (.slice (some ⟨w.heap.size, 0, none⟩) s.size (grownCap w s.size 0 e))) (bytesWorld w e s) := by
    unfold execOp
    simp only [ho, hx, Sem.run_bind, Sem.run_map]
    rw [hr]
    rfl
  rw [hr2]
  exact hK' _ _ hK
theorem strOfNums_bytes (s : ByteArray) : strOfNums (s.data.toList.map fun b => ((b.toNat : Nat) : Int)) = s := by
  unfold strOfNums
  rw [List.map_map]
  have e1 : (s.data.toList.map ((fun n : Int => UInt8.ofNat n.toNat) ∘ fun b : UInt8 => ((b.toNat : Nat) : Int))) = s.data.toList := by
    have e2 : ((fun n : Int => UInt8.ofNat n.toNat) ∘ fun b : UInt8 => ((b.toNat : Nat) : Int)) = id := by
      funext b
      simp
    rw [e2, List.map_id]
  rw [e1]
theorem bytRow_string {P : Program} {w : World} {base : Nat} {e src dst : TypeId} {v : Value} {s : ByteArray} (hs : P.underlying src = some (.slice e)) (he : P.underlying e = some (.int .u8)) (hd : P.underlying dst = some .string) (h : bytRow w base e v s) :
    (convert src dst v).run P w = .ok (.string s) w := by
  obtain ⟨g, cap, cur, fz, rfl, hbg, hg, hf, hsc, hcm, hcs, htk⟩ := h
  have hl : (s.data.toList.map fun b => ((b.toNat : Nat) : Int)).length = s.size := by rw [List.length_map]; rfl
  have h1 := run_convert_bytes_arg (P := P) w src e hs he g 0 s.size cap _ hl (fun i hi => ?_) dst hd
  · rw [h1, strOfNums_bytes]
  · have hc : cur[i]? = some (.int .u8 ((s.data.toList.map fun b => ((b.toNat : Nat) : Int)).getD i 0)) := by
      have h2 : (cur.toList.take s.size)[i]? = (strCells s)[i]? := by rw [htk]
      rw [List.getElem?_take, if_pos hi] at h2
      rw [← Array.getElem?_toList, h2]
      unfold strCells
      have hil : i < s.data.toList.length := hi
      simp [List.getElem?_map, List.getElem?_eq_getElem hil, List.getD_eq_getElem?_getD]
    simp only [World.cell?, hg, Nat.zero_add]
    exact hc
end Go.Proofs.YtjihphegmdfpfaaDoor.L
end
section
set_option linter.unusedVariables false
set_option linter.unusedSimpArgs false
namespace Go.Proofs.YtjihphegmdfpfaaDoor.L
open Go Go.Lib Go.RowKit Go.Proofs.YtjihphegmdfpfaaDoor Go.Proofs.YtjihphegmdfpfaaDoorW.PrintWords Go.Proofs.YtjihphegmdfpfaaDoorW.PrintLast Go.Proofs.YtjihphegmdfpfaaDoorW.PrintMore
abbrev IIt := S88
def expAdd (rest : ByteArray → Option ByteArray) (s u : ByteArray) : Option ByteArray := if s.size + u.size ≤ 1000000 then rest (s ++ u) else none
/-- The bytes of the items, behind those that are there. -/
def expGo (num : Int → Int → Option ByteArray) (s16 s8 : ByteArray → Option ByteArray) : List IIt → ByteArray → Option ByteArray
  | [], s => some s
  | y :: l, s => (num 1 y.f0).bind fun t => expAdd (fun s1 => if y.f0 = 1 then (num 8 y.f1).bind fun u => expAdd (expGo num s16 s8 l) s1 u else if y.f0 = 2 then (s16 y.f2).bind fun u => expAdd (expGo num s16 s8 l) s1 u else if y.f0 = 3 then (s8 y.f2).bind fun u => expAdd (expGo num s16 s8 l) s1 u else expGo num s16 s8 l s1) s t
theorem infoByte : (Tryd.prog.info? 5).map (fun i => (i.zero, i.size, i.bytes)) = some (some (.int .u8 0), 1, 1) := by kernel_rfl
theorem strOf_row {w : World} {base : Nat} {v : Value} {s : ByteArray} (h : bytRow w base 5 v s) : (convert 86 9 v).run Tryd.prog w = .ok (.string s) w :=
  bytRow_string Tryd.underlying86 Tryd.underlying5 Tryd.underlying9 h
set_option maxHeartbeats 4000000 in
set_option maxRecDepth 100000 in
theorem expBytes_any (A : Option Addr) (c : Nat) (l : List IIt) (w : World) (num : Int → Int → Option ByteArray) (s16 s8 : ByteArray → Option ByteArray) (hr : Kd.C k88 w A l.length l) (hl : l.length ≤ 1000000)
    (hnum : ∀ n v r, num n v = some r → ∀ w', Calls Tryd.prog 19 #[.int .i64 n, .int .i64 v] w' fun e w'' => e = .returned (.string r) ∧ Below w'.heap.size w' w'')
    (hs16 : ∀ v r, s16 v = some r → ∀ w', Calls Tryd.prog 21 #[.string v] w' fun e w'' => e = .returned (.string r) ∧ Below w'.heap.size w' w'')
    (hs8 : ∀ v r, s8 v = some r → ∀ w', Calls Tryd.prog 20 #[.string v] w' fun e w'' => e = .returned (.string r) ∧ Below w'.heap.size w' w'')
    (h0 r : ByteArray) (hh : num 2 (l.length : Int) = some h0) (hz : h0.size ≤ 1000000) (h : expGo num s16 s8 l h0 = some r) :
    Calls Tryd.prog 22 #[.slice A l.length c] w fun e w' => e = .returned (.string r) ∧ Below w.heap.size w w' := by
  have hu := Tryd.underlying88
  have HR0 := Aside0.mk hr
  have HNUM := Aside0.mk hnum
  have HS16 := Aside0.mk hs16
  have HS8 := Aside0.mk hs8
  have HL := Aside0.mk hl
  have HG := Aside0.mk h
  have HH := Aside0.mk (hnum 2 _ _ hh)
  have HZ := Aside0.mk hz
  have HB := Aside0.mk (Below.refl w.heap.size w)
  clear hr hnum hs16 hs8 hl h hh hz
  go_enter Tryd.func22, Tryd.ntmps22
  go_wp2_with (first | ((with_reducible refine (HH.out _).mono ?_); rintro e w1 ⟨rfl, hb⟩; have n0_ := Aside0.mk (bst HB.out hb); clear HB hb; have HB := n0_; clear n0_) | (refine wpList_bytes_made _ rfl _ 9 86 5 rfl Tryd.underlying9 Tryd.underlying86 Tryd.underlying5 h0 rfl ?_; have HR := Aside0.mk (bytRow_made w1 w.heap.size 5 h0 (bsz HB.out) (by have := HZ.out; have e_ : maxLen = 9223372036854775807 := rfl; omega)); have n0_ := Aside0.mk (bytesWorld_below w w1 5 h0 HB.out (bsz HB.out)); clear HB; have HB := n0_; clear n0_))
  go_loopg [3, 12] l.length (fun kq v3 v12 w' => ∃ (i : Nat) (s : ByteArray), v3 = v3 ∧ v12 = .int .i64 (i : Int) ∧ Aside0 (kq + i = l.length) ∧ Aside0 (expGo num s16 s8 (l.drop i) s = some r) ∧ Aside0 (bytRow w' w.heap.size 5 v3 s) ∧ Aside0 (s.size ≤ 1000000) ∧ Aside0 (Below w.heap.size w w'))
  case atStart => exact ⟨0, h0, rfl, rfl, ⟨by omega⟩, ⟨by rw [List.drop_zero]; exact HG.out⟩, HR, HZ, HB⟩
  case round =>
    clear HB HG HZ HH
    obtain ⟨i, s, _, rfl, HI, HG, HR, HSV, HB⟩ := hrel
    cases gk with
    | zero =>
      have d1 : decide ((i : Int) < (l.length : Int)) = false := decide_eq_false (by have := HI.out; omega)
      have d2 : decide (i < l.length) = false := decide_eq_false (by have := HI.out; omega)
      have h3 := HG.out
      rw [List.drop_eq_nil_of_le (by have := HI.out; omega), expGo] at h3
      obtain rfl := Option.some.inj h3
      have hcv := strOf_row HR.out
      go_wp2
      go_ret
      exact ⟨rfl, HB.out⟩
    | succ k1 =>
      have hil : i < l.length := by have := HI.out; omega
      have d1 : decide ((i : Int) < (l.length : Int)) = true := decide_eq_true (by omega)
      have d2 : decide (i < l.length) = true := decide_eq_true hil
      have d3 : decide (0 ≤ (i : Int)) = true := decide_eq_true (by omega)
      have p128 : 0 ≤ (i : Int) := by omega
      have q128 : (i : Int) < (l.length : Int) := by omega
      obtain ⟨ad128, e128, hx128_0, hx128_1, hx128_2⟩ := at_T88 HR0.out i p128 q128
      obtain ⟨y, hy⟩ : ∃ y, rd_T88 l i = y := ⟨_, rfl⟩
      rw [hy] at hx128_0 hx128_1 hx128_2
      simp only [Int.toNat_natCast] at hx128_0 hx128_1 hx128_2
      have hyl : l.drop i = y :: l.drop (i + 1) := by
        rw [List.drop_eq_getElem_cons hil, ← hy]
        unfold rd_T88
        rw [Int.toNat_natCast, List.getD_eq_getElem?_getD, List.getElem?_eq_getElem hil]; rfl
      have h1 := HG.out
      rw [hyl, expGo] at h1
      obtain ⟨t, ht, h2⟩ := Option.bind_eq_some_iff.mp h1
      have HT := Aside0.mk (HNUM.out 1 _ t ht)
      rw [expAdd] at h2
      by_cases hsz : s.size + t.size ≤ 1000000
      case neg => rw [if_neg hsz] at h2; cases h2
      case pos =>
      rw [if_pos hsz] at h2
      have HSZ := Aside0.mk hsz
      clear HG hyl hy h1 ht hsz
      cases e128
      replace hx128_0 := (HB.out.cell (World.block_lt_of_cell? w _ hx128_0)).trans hx128_0
      replace hx128_1 := (HB.out.cell (World.block_lt_of_cell? w _ hx128_1)).trans hx128_1
      replace hx128_2 := (HB.out.cell (World.block_lt_of_cell? w _ hx128_2)).trans hx128_2
      replace p128 := eq_true p128
      replace q128 := eq_true q128
      by_cases c1 : y.f0 = 1
      case pos =>
        have h3 := h2
        rw [if_pos c1] at h3
        clear h2
        have q1a : decide (y.f0 = 1) = true := decide_eq_true c1
        have q1b : (y.f0 == 1) = true := beq_iff_eq.mpr c1
        clear c1
        obtain ⟨u, hu1, h4⟩ := Option.bind_eq_some_iff.mp h3
        have HU := Aside0.mk (HNUM.out 8 _ u hu1)
        rw [expAdd] at h4
        by_cases hsu : (s ++ t).size + u.size ≤ 1000000
        case neg => rw [if_neg hsu] at h4; cases h4
        case pos =>
        rw [if_pos hsu] at h4
        have HSU := Aside0.mk hsu
        have HG := Aside0.mk h4
        clear h4 h3 hu1 hsu
        go_wp2_with (first | ((with_reducible refine gds (N := 5) rfl ?_); refine bxe ?hg (N := 5) ?hd (cs := #[.int .i64 0, .int .i64 0, .string (⟨#[]⟩ : ByteArray)]) (t := 88) ?hr ?_; (case hd => rfl); (case hg => rfl); (case hr => first | (go_simp; done) | (go_simp; rfl)); intro gb hg w7 hbox hb; have n0_ := Aside0.mk (bst HB.out hb); have n1_ := Aside0.mk (hbox); have n2_ := Aside0.mk ((by rw [hg]; exact bsz HB.out) : w.heap.size ≤ gb); have n3_ := Aside0.mk (bytRow_below HR.out hb); have n4_ := Aside0.mk (show some gb ≠ u3.ownBlock from fun e_ => by have := (bytRow_own HR.out gb e_.symm).2; omega); clear HB HR; have HB := n0_; have BK := n1_; have GE := n2_; have HR := n3_; have NE := n4_; clear n0_ n1_ n2_ n3_ n4_; clear hb hbox hg; have hcz8_0 : w7.cell? ⟨gb, 0, none⟩ = some (.int .i64 0) := (bce BK.out 0).trans rfl; have hcz8_1 : w7.cell? ⟨gb, 1, none⟩ = some (.int .i64 0) := (bce BK.out 1).trans rfl; have hcz8_2 : w7.cell? ⟨gb, 2, none⟩ = some (.string (⟨#[]⟩ : ByteArray)) := (bce BK.out 2).trans rfl; have hfz8_0 := bfz BK.out 0; have hfz8_1 := bfz BK.out 1; have hfz8_2 := bfz BK.out 2) | ((with_reducible refine (HT.out _).mono ?_); rintro e w8 ⟨rfl, hb⟩; have n0_ := Aside0.mk (bst (bse (bse (bse HB.out GE.out) GE.out) GE.out) hb); have n1_ := Aside0.mk (bbe (g := gb) (bpu (cs := #[.int .i64 y.f0, .int .i64 y.f1, .string (⟨#[]⟩ : ByteArray)]) (bpu (cs := #[.int .i64 y.f0, .int .i64 0, .string (⟨#[]⟩ : ByteArray)]) (bpu (cs := #[.int .i64 0, .int .i64 0, .string (⟨#[]⟩ : ByteArray)]) BK.out 0 _ rfl) 1 _ rfl) 2 _ rfl) hb); have n2_ := Aside0.mk (bytRow_below (bytRow_set (bytRow_set (bytRow_set HR.out ⟨gb, 0, none⟩ (.int .i64 y.f0) NE.out) ⟨gb, 1, none⟩ (.int .i64 y.f1) NE.out) ⟨gb, 2, none⟩ (.string y.f2) NE.out) hb); clear HB BK HR hb; have HB := n0_; have BK := n1_; have HR := n2_; clear n0_ n1_ n2_) | (refine wpList_bytes_append _ rfl _ _ 86 9 rfl w.heap.size 5 infoByte Tryd.underlying86 Tryd.underlying9 u3 s t rfl rfl HR.out (by have := HSZ.out; omega) (bsz HB.out) ?_; intro v9 w9 hr9 hg9; have n0_ := Aside0.mk (Below.grown HB.out hg9 (bsz HB.out) (fun k hk => (bytRow_own HR.out k hk).1)); have n1_ := Aside0.mk (bgr BK.out hg9 NE.out); clear HB BK HR NE; have HB := n0_; have BK := n1_; have HR := Aside0.mk hr9; clear n0_ n1_ hg9 hr9; have hcy_0 : w9.cell? ⟨gb, 0, none⟩ = some (.int .i64 y.f0) := (bce BK.out 0).trans rfl; have hcy_1 : w9.cell? ⟨gb, 1, none⟩ = some (.int .i64 y.f1) := (bce BK.out 1).trans rfl; have hcy_2 : w9.cell? ⟨gb, 2, none⟩ = some (.string y.f2) := (bce BK.out 2).trans rfl) | ((with_reducible refine (HU.out _).mono ?_); rintro e w10 ⟨rfl, hb⟩; have n0_ := Aside0.mk (bst HB.out hb); have n2_ := Aside0.mk (bytRow_below HR.out hb); clear HB HR hb; have HB := n0_; have HR := n2_; clear n0_ n2_) | (refine wpList_bytes_append _ rfl _ _ 86 9 rfl w.heap.size 5 infoByte Tryd.underlying86 Tryd.underlying9 v9 (s ++ t) u rfl rfl HR.out (by have := HSZ.out; have := HSU.out; omega) (bsz HB.out) ?_; intro v11 w11 hr11 hg11; have n0_ := Aside0.mk (Below.grown HB.out hg11 (bsz HB.out) (fun k hk => (bytRow_own HR.out k hk).1)); clear HB HR; have HB := n0_; have HR := Aside0.mk hr11; clear n0_ hg11 hr11))
        go_roundg k1
        case measure => have := HI.out; omega
        case rel => exact ⟨i + 1, _, by trivial, by have e_ : wrap64 ((i : Int) + 1) = ((i + 1 : Nat) : Int) := (by have := HL.out; unfold wrap64; omega); rw [e_], ⟨by have := HI.out; omega⟩, HG, HR, ⟨by have := HSU.out; rw [ByteArray.size_append]; exact this⟩, HB⟩
      case neg =>
      have q1a : decide (y.f0 = 1) = false := decide_eq_false c1
      have q1b : (y.f0 == 1) = false := beq_eq_false_iff_ne.mpr c1
      rw [if_neg c1] at h2
      clear c1
      by_cases c2 : y.f0 = 2
      case pos =>
        have h3 := h2
        rw [if_pos c2] at h3
        clear h2
        have q2a : decide (y.f0 = 2) = true := decide_eq_true c2
        have q2b : (y.f0 == 2) = true := beq_iff_eq.mpr c2
        clear c2
        obtain ⟨u, hu1, h4⟩ := Option.bind_eq_some_iff.mp h3
        have HU := Aside0.mk (HS16.out _ u hu1)
        rw [expAdd] at h4
        by_cases hsu : (s ++ t).size + u.size ≤ 1000000
        case neg => rw [if_neg hsu] at h4; cases h4
        case pos =>
        rw [if_pos hsu] at h4
        have HSU := Aside0.mk hsu
        have HG := Aside0.mk h4
        clear h4 h3 hu1 hsu
        go_wp2_with (first | ((with_reducible refine gds (N := 5) rfl ?_); refine bxe ?hg (N := 5) ?hd (cs := #[.int .i64 0, .int .i64 0, .string (⟨#[]⟩ : ByteArray)]) (t := 88) ?hr ?_; (case hd => rfl); (case hg => rfl); (case hr => first | (go_simp; done) | (go_simp; rfl)); intro gb hg w7 hbox hb; have n0_ := Aside0.mk (bst HB.out hb); have n1_ := Aside0.mk (hbox); have n2_ := Aside0.mk ((by rw [hg]; exact bsz HB.out) : w.heap.size ≤ gb); have n3_ := Aside0.mk (bytRow_below HR.out hb); have n4_ := Aside0.mk (show some gb ≠ u3.ownBlock from fun e_ => by have := (bytRow_own HR.out gb e_.symm).2; omega); clear HB HR; have HB := n0_; have BK := n1_; have GE := n2_; have HR := n3_; have NE := n4_; clear n0_ n1_ n2_ n3_ n4_; clear hb hbox hg; have hcz8_0 : w7.cell? ⟨gb, 0, none⟩ = some (.int .i64 0) := (bce BK.out 0).trans rfl; have hcz8_1 : w7.cell? ⟨gb, 1, none⟩ = some (.int .i64 0) := (bce BK.out 1).trans rfl; have hcz8_2 : w7.cell? ⟨gb, 2, none⟩ = some (.string (⟨#[]⟩ : ByteArray)) := (bce BK.out 2).trans rfl; have hfz8_0 := bfz BK.out 0; have hfz8_1 := bfz BK.out 1; have hfz8_2 := bfz BK.out 2) | ((with_reducible refine (HT.out _).mono ?_); rintro e w8 ⟨rfl, hb⟩; have n0_ := Aside0.mk (bst (bse (bse (bse HB.out GE.out) GE.out) GE.out) hb); have n1_ := Aside0.mk (bbe (g := gb) (bpu (cs := #[.int .i64 y.f0, .int .i64 y.f1, .string (⟨#[]⟩ : ByteArray)]) (bpu (cs := #[.int .i64 y.f0, .int .i64 0, .string (⟨#[]⟩ : ByteArray)]) (bpu (cs := #[.int .i64 0, .int .i64 0, .string (⟨#[]⟩ : ByteArray)]) BK.out 0 _ rfl) 1 _ rfl) 2 _ rfl) hb); have n2_ := Aside0.mk (bytRow_below (bytRow_set (bytRow_set (bytRow_set HR.out ⟨gb, 0, none⟩ (.int .i64 y.f0) NE.out) ⟨gb, 1, none⟩ (.int .i64 y.f1) NE.out) ⟨gb, 2, none⟩ (.string y.f2) NE.out) hb); clear HB BK HR hb; have HB := n0_; have BK := n1_; have HR := n2_; clear n0_ n1_ n2_) | (refine wpList_bytes_append _ rfl _ _ 86 9 rfl w.heap.size 5 infoByte Tryd.underlying86 Tryd.underlying9 u3 s t rfl rfl HR.out (by have := HSZ.out; omega) (bsz HB.out) ?_; intro v9 w9 hr9 hg9; have n0_ := Aside0.mk (Below.grown HB.out hg9 (bsz HB.out) (fun k hk => (bytRow_own HR.out k hk).1)); have n1_ := Aside0.mk (bgr BK.out hg9 NE.out); clear HB BK HR NE; have HB := n0_; have BK := n1_; have HR := Aside0.mk hr9; clear n0_ n1_ hg9 hr9; have hcy_0 : w9.cell? ⟨gb, 0, none⟩ = some (.int .i64 y.f0) := (bce BK.out 0).trans rfl; have hcy_1 : w9.cell? ⟨gb, 1, none⟩ = some (.int .i64 y.f1) := (bce BK.out 1).trans rfl; have hcy_2 : w9.cell? ⟨gb, 2, none⟩ = some (.string y.f2) := (bce BK.out 2).trans rfl) | ((with_reducible refine (HU.out _).mono ?_); rintro e w10 ⟨rfl, hb⟩; have n0_ := Aside0.mk (bst HB.out hb); have n2_ := Aside0.mk (bytRow_below HR.out hb); clear HB HR hb; have HB := n0_; have HR := n2_; clear n0_ n2_) | (refine wpList_bytes_append _ rfl _ _ 86 9 rfl w.heap.size 5 infoByte Tryd.underlying86 Tryd.underlying9 v9 (s ++ t) u rfl rfl HR.out (by have := HSZ.out; have := HSU.out; omega) (bsz HB.out) ?_; intro v11 w11 hr11 hg11; have n0_ := Aside0.mk (Below.grown HB.out hg11 (bsz HB.out) (fun k hk => (bytRow_own HR.out k hk).1)); clear HB HR; have HB := n0_; have HR := Aside0.mk hr11; clear n0_ hg11 hr11))
        go_roundg k1
        case measure => have := HI.out; omega
        case rel => exact ⟨i + 1, _, by trivial, by have e_ : wrap64 ((i : Int) + 1) = ((i + 1 : Nat) : Int) := (by have := HL.out; unfold wrap64; omega); rw [e_], ⟨by have := HI.out; omega⟩, HG, HR, ⟨by have := HSU.out; rw [ByteArray.size_append]; exact this⟩, HB⟩
      case neg =>
      have q2a : decide (y.f0 = 2) = false := decide_eq_false c2
      have q2b : (y.f0 == 2) = false := beq_eq_false_iff_ne.mpr c2
      rw [if_neg c2] at h2
      clear c2
      by_cases c3 : y.f0 = 3
      case pos =>
        have h3 := h2
        rw [if_pos c3] at h3
        clear h2
        have q3a : decide (y.f0 = 3) = true := decide_eq_true c3
        have q3b : (y.f0 == 3) = true := beq_iff_eq.mpr c3
        clear c3
        obtain ⟨u, hu1, h4⟩ := Option.bind_eq_some_iff.mp h3
        have HU := Aside0.mk (HS8.out _ u hu1)
        rw [expAdd] at h4
        by_cases hsu : (s ++ t).size + u.size ≤ 1000000
        case neg => rw [if_neg hsu] at h4; cases h4
        case pos =>
        rw [if_pos hsu] at h4
        have HSU := Aside0.mk hsu
        have HG := Aside0.mk h4
        clear h4 h3 hu1 hsu
        go_wp2_with (first | ((with_reducible refine gds (N := 5) rfl ?_); refine bxe ?hg (N := 5) ?hd (cs := #[.int .i64 0, .int .i64 0, .string (⟨#[]⟩ : ByteArray)]) (t := 88) ?hr ?_; (case hd => rfl); (case hg => rfl); (case hr => first | (go_simp; done) | (go_simp; rfl)); intro gb hg w7 hbox hb; have n0_ := Aside0.mk (bst HB.out hb); have n1_ := Aside0.mk (hbox); have n2_ := Aside0.mk ((by rw [hg]; exact bsz HB.out) : w.heap.size ≤ gb); have n3_ := Aside0.mk (bytRow_below HR.out hb); have n4_ := Aside0.mk (show some gb ≠ u3.ownBlock from fun e_ => by have := (bytRow_own HR.out gb e_.symm).2; omega); clear HB HR; have HB := n0_; have BK := n1_; have GE := n2_; have HR := n3_; have NE := n4_; clear n0_ n1_ n2_ n3_ n4_; clear hb hbox hg; have hcz8_0 : w7.cell? ⟨gb, 0, none⟩ = some (.int .i64 0) := (bce BK.out 0).trans rfl; have hcz8_1 : w7.cell? ⟨gb, 1, none⟩ = some (.int .i64 0) := (bce BK.out 1).trans rfl; have hcz8_2 : w7.cell? ⟨gb, 2, none⟩ = some (.string (⟨#[]⟩ : ByteArray)) := (bce BK.out 2).trans rfl; have hfz8_0 := bfz BK.out 0; have hfz8_1 := bfz BK.out 1; have hfz8_2 := bfz BK.out 2) | ((with_reducible refine (HT.out _).mono ?_); rintro e w8 ⟨rfl, hb⟩; have n0_ := Aside0.mk (bst (bse (bse (bse HB.out GE.out) GE.out) GE.out) hb); have n1_ := Aside0.mk (bbe (g := gb) (bpu (cs := #[.int .i64 y.f0, .int .i64 y.f1, .string (⟨#[]⟩ : ByteArray)]) (bpu (cs := #[.int .i64 y.f0, .int .i64 0, .string (⟨#[]⟩ : ByteArray)]) (bpu (cs := #[.int .i64 0, .int .i64 0, .string (⟨#[]⟩ : ByteArray)]) BK.out 0 _ rfl) 1 _ rfl) 2 _ rfl) hb); have n2_ := Aside0.mk (bytRow_below (bytRow_set (bytRow_set (bytRow_set HR.out ⟨gb, 0, none⟩ (.int .i64 y.f0) NE.out) ⟨gb, 1, none⟩ (.int .i64 y.f1) NE.out) ⟨gb, 2, none⟩ (.string y.f2) NE.out) hb); clear HB BK HR hb; have HB := n0_; have BK := n1_; have HR := n2_; clear n0_ n1_ n2_) | (refine wpList_bytes_append _ rfl _ _ 86 9 rfl w.heap.size 5 infoByte Tryd.underlying86 Tryd.underlying9 u3 s t rfl rfl HR.out (by have := HSZ.out; omega) (bsz HB.out) ?_; intro v9 w9 hr9 hg9; have n0_ := Aside0.mk (Below.grown HB.out hg9 (bsz HB.out) (fun k hk => (bytRow_own HR.out k hk).1)); have n1_ := Aside0.mk (bgr BK.out hg9 NE.out); clear HB BK HR NE; have HB := n0_; have BK := n1_; have HR := Aside0.mk hr9; clear n0_ n1_ hg9 hr9; have hcy_0 : w9.cell? ⟨gb, 0, none⟩ = some (.int .i64 y.f0) := (bce BK.out 0).trans rfl; have hcy_1 : w9.cell? ⟨gb, 1, none⟩ = some (.int .i64 y.f1) := (bce BK.out 1).trans rfl; have hcy_2 : w9.cell? ⟨gb, 2, none⟩ = some (.string y.f2) := (bce BK.out 2).trans rfl) | ((with_reducible refine (HU.out _).mono ?_); rintro e w10 ⟨rfl, hb⟩; have n0_ := Aside0.mk (bst HB.out hb); have n2_ := Aside0.mk (bytRow_below HR.out hb); clear HB HR hb; have HB := n0_; have HR := n2_; clear n0_ n2_) | (refine wpList_bytes_append _ rfl _ _ 86 9 rfl w.heap.size 5 infoByte Tryd.underlying86 Tryd.underlying9 v9 (s ++ t) u rfl rfl HR.out (by have := HSZ.out; have := HSU.out; omega) (bsz HB.out) ?_; intro v11 w11 hr11 hg11; have n0_ := Aside0.mk (Below.grown HB.out hg11 (bsz HB.out) (fun k hk => (bytRow_own HR.out k hk).1)); clear HB HR; have HB := n0_; have HR := Aside0.mk hr11; clear n0_ hg11 hr11))
        go_roundg k1
        case measure => have := HI.out; omega
        case rel => exact ⟨i + 1, _, by trivial, by have e_ : wrap64 ((i : Int) + 1) = ((i + 1 : Nat) : Int) := (by have := HL.out; unfold wrap64; omega); rw [e_], ⟨by have := HI.out; omega⟩, HG, HR, ⟨by have := HSU.out; rw [ByteArray.size_append]; exact this⟩, HB⟩
      case neg =>
      have q3a : decide (y.f0 = 3) = false := decide_eq_false c3
      have q3b : (y.f0 == 3) = false := beq_eq_false_iff_ne.mpr c3
      rw [if_neg c3] at h2
      clear c3
      have HG := Aside0.mk h2
      clear h2
      go_wp2_with (first | ((with_reducible refine gds (N := 5) rfl ?_); refine bxe ?hg (N := 5) ?hd (cs := #[.int .i64 0, .int .i64 0, .string (⟨#[]⟩ : ByteArray)]) (t := 88) ?hr ?_; (case hd => rfl); (case hg => rfl); (case hr => first | (go_simp; done) | (go_simp; rfl)); intro gb hg w7 hbox hb; have n0_ := Aside0.mk (bst HB.out hb); have n1_ := Aside0.mk (hbox); have n2_ := Aside0.mk ((by rw [hg]; exact bsz HB.out) : w.heap.size ≤ gb); have n3_ := Aside0.mk (bytRow_below HR.out hb); have n4_ := Aside0.mk (show some gb ≠ u3.ownBlock from fun e_ => by have := (bytRow_own HR.out gb e_.symm).2; omega); clear HB HR; have HB := n0_; have BK := n1_; have GE := n2_; have HR := n3_; have NE := n4_; clear n0_ n1_ n2_ n3_ n4_; clear hb hbox hg; have hcz8_0 : w7.cell? ⟨gb, 0, none⟩ = some (.int .i64 0) := (bce BK.out 0).trans rfl; have hcz8_1 : w7.cell? ⟨gb, 1, none⟩ = some (.int .i64 0) := (bce BK.out 1).trans rfl; have hcz8_2 : w7.cell? ⟨gb, 2, none⟩ = some (.string (⟨#[]⟩ : ByteArray)) := (bce BK.out 2).trans rfl; have hfz8_0 := bfz BK.out 0; have hfz8_1 := bfz BK.out 1; have hfz8_2 := bfz BK.out 2) | ((with_reducible refine (HT.out _).mono ?_); rintro e w8 ⟨rfl, hb⟩; have n0_ := Aside0.mk (bst (bse (bse (bse HB.out GE.out) GE.out) GE.out) hb); have n1_ := Aside0.mk (bbe (g := gb) (bpu (cs := #[.int .i64 y.f0, .int .i64 y.f1, .string (⟨#[]⟩ : ByteArray)]) (bpu (cs := #[.int .i64 y.f0, .int .i64 0, .string (⟨#[]⟩ : ByteArray)]) (bpu (cs := #[.int .i64 0, .int .i64 0, .string (⟨#[]⟩ : ByteArray)]) BK.out 0 _ rfl) 1 _ rfl) 2 _ rfl) hb); have n2_ := Aside0.mk (bytRow_below (bytRow_set (bytRow_set (bytRow_set HR.out ⟨gb, 0, none⟩ (.int .i64 y.f0) NE.out) ⟨gb, 1, none⟩ (.int .i64 y.f1) NE.out) ⟨gb, 2, none⟩ (.string y.f2) NE.out) hb); clear HB BK HR hb; have HB := n0_; have BK := n1_; have HR := n2_; clear n0_ n1_ n2_) | (refine wpList_bytes_append _ rfl _ _ 86 9 rfl w.heap.size 5 infoByte Tryd.underlying86 Tryd.underlying9 u3 s t rfl rfl HR.out (by have := HSZ.out; omega) (bsz HB.out) ?_; intro v9 w9 hr9 hg9; have n0_ := Aside0.mk (Below.grown HB.out hg9 (bsz HB.out) (fun k hk => (bytRow_own HR.out k hk).1)); have n1_ := Aside0.mk (bgr BK.out hg9 NE.out); clear HB BK HR NE; have HB := n0_; have BK := n1_; have HR := Aside0.mk hr9; clear n0_ n1_ hg9 hr9; have hcy_0 : w9.cell? ⟨gb, 0, none⟩ = some (.int .i64 y.f0) := (bce BK.out 0).trans rfl; have hcy_1 : w9.cell? ⟨gb, 1, none⟩ = some (.int .i64 y.f1) := (bce BK.out 1).trans rfl; have hcy_2 : w9.cell? ⟨gb, 2, none⟩ = some (.string y.f2) := (bce BK.out 2).trans rfl))
      go_roundg k1
      case measure => have := HI.out; omega
      case rel => exact ⟨i + 1, _, by trivial, by have e_ : wrap64 ((i : Int) + 1) = ((i + 1 : Nat) : Int) := (by have := HL.out; unfold wrap64; omega); rw [e_], ⟨by have := HI.out; omega⟩, HG, HR, ⟨by have := HSZ.out; rw [ByteArray.size_append]; exact this⟩, HB⟩
end Go.Proofs.YtjihphegmdfpfaaDoor.L
end
section
namespace Go.Proofs.YtjihphegmdfpfaaDoor.L
open Go.RowKit Go.Proofs.YtjihphegmdfpfaaDoorW.PrintWords Go.Proofs.YtjihphegmdfpfaaDoorW.PrintLast Go.Proofs.YtjihphegmdfpfaaDoorW.PrintMore
attribute [local go_sem] max2_int min2_int max_two min_two max_three min_three max_four min_four
set_option linter.unusedVariables false
set_option linter.unusedSimpArgs false
mutual
def spec_l1Num.l0 : Nat → Int → List Int → Int → Option (ByteArray)
  | 0, _, _, _ => none
  | k + 1, x1, x5, x6 => if x6 ≥ 0 then (spec_l1Num.l1 k x1 x5 x6 x1 0) else (some (strOfNums x5))
def spec_l1Num.l1 : Nat → Int → List Int → Int → Int → Int → Option (ByteArray)
  | 0, _, _, _, _, _ => none
  | k + 1, x1, x5, x6, x7, x8 => if x8 < x6 then (spec_l1Num.l1 k x1 x5 x6 (x7 / 256) (wrap64 (x8 + 1))) else (if x5.length < 140737488355328 then (spec_l1Num.l0 k x1 (x5 ++ [(x7) % 256]) (wrap64 (x6 - 1))) else (none))
end
def spec_l1Num.f (k : Nat) (a0 : Int) (a1 : Int) : Option (ByteArray) := spec_l1Num.l0 k a1 (([] : List Int)) (wrap64 (a0 - 1))
theorem spec_l1Num.mono_l : ∀ k, (∀ y0 y1 y2, LeO (spec_l1Num.l0 k y0 y1 y2) (spec_l1Num.l0 (k + 1) y0 y1 y2)) ∧ (∀ y0 y1 y2 y3 y4, LeO (spec_l1Num.l1 k y0 y1 y2 y3 y4) (spec_l1Num.l1 (k + 1) y0 y1 y2 y3 y4))
  | 0 => ⟨fun _ _ _ r h => by simp [spec_l1Num.l0] at h, fun _ _ _ _ _ r h => by simp [spec_l1Num.l1] at h⟩
  | k + 1 => by
    obtain ⟨ih0, ih1⟩ := spec_l1Num.mono_l k
    refine ⟨?_, ?_⟩
    · intro y0 y1 y2
      unfold spec_l1Num.l0
      repeat' first
      | (with_reducible exact ih0 _ _ _)
      | (with_reducible exact ih1 _ _ _ _ _)
      | (with_reducible exact LeO.refl _)
      | (with_reducible exact LeO.none _)
      | (with_reducible refine LeO.ite ?_ ?_)
      | (with_reducible refine LeO.bind ?_ (fun _ => ?_))
      | exact ih0 _ _ _
      | exact ih1 _ _ _ _ _
      | exact LeO.none _
      | refine LeO.ite ?_ ?_
      | refine LeO.bind ?_ (fun _ => ?_)
    · intro y0 y1 y2 y3 y4
      unfold spec_l1Num.l1
      repeat' first
      | (with_reducible exact ih0 _ _ _)
      | (with_reducible exact ih1 _ _ _ _ _)
      | (with_reducible exact LeO.refl _)
      | (with_reducible exact LeO.none _)
      | (with_reducible refine LeO.ite ?_ ?_)
      | (with_reducible refine LeO.bind ?_ (fun _ => ?_))
      | exact ih0 _ _ _
      | exact ih1 _ _ _ _ _
      | exact LeO.none _
      | refine LeO.ite ?_ ?_
      | refine LeO.bind ?_ (fun _ => ?_)
theorem spec_l1Num.mono : ∀ a0 a1 k, LeO (spec_l1Num.f k a0 a1) (spec_l1Num.f (k + 1) a0 a1) := by
  intro a0 a1 k
  obtain ⟨ih0, ih1⟩ := spec_l1Num.mono_l k
  unfold spec_l1Num.f
  repeat' first
      | (with_reducible exact ih0 _ _ _)
      | (with_reducible exact ih1 _ _ _ _ _)
      | (with_reducible exact LeO.refl _)
      | (with_reducible exact LeO.none _)
      | (with_reducible refine LeO.ite ?_ ?_)
      | (with_reducible refine LeO.bind ?_ (fun _ => ?_))
      | exact ih0 _ _ _
      | exact ih1 _ _ _ _ _
      | exact LeO.none _
      | refine LeO.ite ?_ ?_
      | refine LeO.bind ?_ (fun _ => ?_)
set_option maxHeartbeats 8000000 in
set_option maxRecDepth 100000 in
theorem spec_l1Num.calls (k : Nat) (a0 : Int) (a1 : Int) (r : ByteArray) (w : World) (h : spec_l1Num.f k a0 a1 = some r) :
    Calls Tryd.prog 19 #[.int .i64 a0, .int .i64 a1] w fun e w' => e = .returned (.string r) ∧ Below w.heap.size w w' := by
  have HB := Aside0.mk (Below.refl w.heap.size w); have H : (spec_l1Num.l0 k a1 (([] : List Int)) (wrap64 (a0 - 1))) = some r := h; clear h; obtain ⟨y162, hy162⟩ : ∃ y_ : List Int, y_ = (([] : List Int)) := ⟨_, rfl⟩; (replace H : (spec_l1Num.l0 k a1 y162 (wrap64 (a0 - 1))) = some r := by first | (rw [hy162]; with_reducible exact H) | (have H2_ := (Option.bind_some _ _).symm.trans H; rw [hy162]; with_reducible exact H2_) | (have H2_ := (Option.bind_some _ _).symm.trans H; with_reducible exact H2_) | with_reducible exact H | (rw [hy162]; exact H) | exact H); have Ny162 := Aside0.mk hy162; clear hy162; have H' := Aside0.mk H; clear H; go_enter Tryd.func19, Tryd.ntmps19; go_wp2_with (first | ((with_reducible refine gds (N := 9) rfl ?_); refine Kd.R_lit (Kd.int .u8) _ 5 ?hg (N := 9) ?hd (xs := ([] : List Int)) (inner := []) (ok := fun _ => True) (okp := fun _ => True) ?hr ?hp (fun _ hk => hk) trivial (Below.refl _ _) (Nat.le_refl _) (by simp) ?_; (case hd => rfl); (case hg => rfl); (case hr => first | (go_simp; done) | (go_simp; rfl)); (case hp => exact (Reps.none _ _)); intro v163 w3 ho4 hb hg_ hnew_; clear hg_ hnew_; (first | rw [← Ny162.out] at ho4 | (simp only [Int.reduceToNat] at ho4; rw [← Ny162.out] at ho4)); have n0_ := Aside0.mk (Kd.Rlo ho4 (bsz (by repeat (first | (with_reducible first | exact HB.out | apply bal | apply pbd | apply bd1) | exact HB.out)))); have n1_ := Aside0.mk (bst (by repeat (first | (with_reducible first | exact HB.out | apply bal | apply pbd | apply bd1) | exact HB.out)) hb); have HO164 := n0_; replace HB := n1_; clear n0_ n1_; clear hb ho4)); go_loopg [5, 6] k (fun kq v5 v6 w' => ∃ (x5_1 : List Int) (x6_1 : Int), v6 = .int .i64 x6_1 ∧ Aside0 (spec_l1Num.l0 kq a1 x5_1 x6_1 = some r) ∧ Aside0 (kq ≤ k) ∧ Aside0 (Kd.R (Kd.int .u8) 5 w' w.heap.size (fun _ => True) v5 x5_1) ∧ Aside0 (Below w.heap.size w w'))
  case atStart => exact ⟨(y162), (wrap64 (a0 - 1)), (by first | rfl | (simp; done) | (simp [*]; done)), H', ⟨Nat.le_refl _⟩, ⟨by (with_reducible repeat (first | apply Kd.Ral | apply Kd.RdN | apply Kd.Rdr)); exact HO164.out⟩, ⟨by repeat (first | (with_reducible first | exact HB.out | apply bal | apply pbd | apply bd1) | exact HB.out)⟩⟩
  case round =>
    clear H'; (try clear c1); (try clear p2); obtain ⟨x5_1, x6_1, rfl, HA, HK1, HO_5, HB⟩ := hrel
    cases gk with
    | zero => exact absurd HA.out (by simp [spec_l1Num.l0])
    | succ k1 =>
      have H := HA.out; clear HA; simp only [spec_l1Num.l0] at H; by_cases c5 : x6_1 ≥ 0
      · rw [if_pos c5] at H; have c5b0 : decide (0 ≤ x6_1) = true := decide_eq_true c5; clear c5; have H' := Aside0.mk H; clear H; go_wp2; go_loopg [7, 8] k1 (fun kq v7 v8 w' => ∃ (x7_2 : Int) (x8_2 : Int), v7 = .int .i64 x7_2 ∧ v8 = .int .i64 x8_2 ∧ Aside0 (spec_l1Num.l1 kq a1 x5_1 x6_1 x7_2 x8_2 = some r) ∧ Aside0 (kq ≤ k1) ∧ Aside0 (Kd.R (Kd.int .u8) 5 w' w.heap.size (fun _ => True) u5 x5_1) ∧ Aside0 (Below w.heap.size w w'))
        case atStart => exact ⟨(a1), (0), (by first | rfl | (simp; done) | (simp [*]; done)), (by first | rfl | (simp; done) | (simp [*]; done)), H', ⟨Nat.le_refl _⟩, ⟨by (with_reducible repeat (first | apply Kd.Ral | apply Kd.RdN | apply Kd.Rdr)); exact HO_5.out⟩, ⟨by repeat (first | (with_reducible first | exact HB.out | apply bal | apply pbd | apply bd1) | exact HB.out)⟩⟩
        case round =>
          clear H'; (try clear c1); (try clear p2); (try clear c5); (try clear c5b0); (try clear p2); obtain ⟨x7_2, x8_2, rfl, rfl, HA, HK2, HO_5, HB⟩ := hrel
          cases gk with
          | zero => exact absurd HA.out (by simp [spec_l1Num.l1])
          | succ k2 =>
            have H := HA.out; clear HA; simp only [spec_l1Num.l1] at H; by_cases c6 : x8_2 < x6_1
            · rw [if_pos c6] at H; have c6b0 : decide (x8_2 < x6_1) = true := decide_eq_true c6; clear c6; have H' := Aside0.mk H; clear H; go_wp2; go_roundg k2
              case measure => have := HK1.out; have := HK2.out; omega
              case rel => exact ⟨(x7_2 / 256), (wrap64 (x8_2 + 1)), (by first | rfl | (simp; done) | (simp [*]; done)), (by first | rfl | (simp; done) | (simp [*]; done)), H', ⟨by have := HK1.out; have := HK2.out; omega⟩, ⟨by (with_reducible repeat (first | apply Kd.Ral | apply Kd.RdN | apply Kd.Rdr)); exact HO_5.out⟩, ⟨by repeat (first | (with_reducible first | exact HB.out | apply bal | apply pbd | apply bd1) | exact HB.out)⟩⟩
            · rw [if_neg c6] at H; have c6b0 : decide (x8_2 < x6_1) = false := decide_eq_false c6; clear c6; by_cases c7 : x5_1.length < 140737488355328
              · rw [if_pos c7] at H; have LMc7 := Aside0.mk c7; clear c7; obtain ⟨y165, hy165⟩ : ∃ y_ : List Int, y_ = (x5_1 ++ [(x7_2) % 256]) := ⟨_, rfl⟩; (replace H : (spec_l1Num.l0 k2 a1 y165 (wrap64 (x6_1 - 1))) = some r := by first | (rw [hy165]; with_reducible exact H) | (have H2_ := (Option.bind_some _ _).symm.trans H; rw [hy165]; with_reducible exact H2_) | (have H2_ := (Option.bind_some _ _).symm.trans H; with_reducible exact H2_) | with_reducible exact H | (rw [hy165]; exact H) | exact H); have Ny165 := Aside0.mk hy165; clear hy165; have H' := Aside0.mk H; clear H; go_wp2_with (first | ((with_reducible refine gbu (b := .append) (xs := #[.tmp 24, .tmp 27]) rfl ?_); at_builtin; refine Kd.R_append (Kd.int .u8) (w0 := w) w.heap.size rfl (.tmp 24) (.tmp 27) 86 5 (.int .u8 0) 1 rfl Tryd.underlying86 info5 rfl (by decide) (by omega) u5 x5_1 ((x7_2) % 256) [.int .u8 ((x7_2) % 256)] (fun _ => True) (fun _ => False) rfl rfl ?aP (fun _ hk => hk.elim) ?aF ?aO ?aB ?aS ?aL ?_; (case aP => exact rfl); (case aB => exact (by repeat (first | (with_reducible first | exact HB.out | apply bal | apply pbd | apply bd1) | exact HB.out))); (case aF => exact (fun _ _ => trivial)); (case aO => exact (by (with_reducible repeat (first | apply Kd.Ral | apply Kd.RdN | apply Kd.Rdr)); exact HO_5.out)); (case aS => exact (bsz (by repeat (first | (with_reducible first | exact HB.out | apply bal | apply pbd | apply bd1) | exact HB.out)))); (case aL => have := LMc7.out; omega); intro v166 w8 ho hb hg hat; rw [← Ny165.out] at ho; have n0_ := Aside0.mk (hb); have n1_ := Aside0.mk (ho); clear HB; clear HO_5; have HB := n0_; have HO167 := n1_; clear n0_ n1_; clear ho hb hg hat)); go_roundg k2
                case measure => have := HK1.out; have := HK2.out; omega
                case rel => exact ⟨(y165), (wrap64 (x6_1 - 1)), (by first | rfl | (simp; done) | (simp [*]; done)), H', ⟨by have := HK1.out; have := HK2.out; omega⟩, ⟨by (with_reducible repeat (first | apply Kd.Ral | apply Kd.RdN | apply Kd.Rdr)); exact HO167.out⟩, ⟨by repeat (first | (with_reducible first | exact HB.out | apply bal | apply pbd | apply bd1) | exact HB.out)⟩⟩
              · rw [if_neg c7] at H; exact absurd H (by simp)
      · rw [if_neg c5] at H; have c5b0 : decide (0 ≤ x6_1) = false := decide_eq_false c5; clear c5; obtain rfl := Option.some.inj H; have hcv9 := own_string (P := Tryd.prog) Tryd.underlying86 Tryd.underlying5 Tryd.underlying9 (Kd.own_of_R HO_5.out); go_wp2; go_ret; exact ⟨by first | rfl | (simp [eWn, eWs] <;> rfl) | (simp [*, eWn, eWs] <;> rfl), by repeat (first | (with_reducible first | exact HB.out | apply bal | apply pbd | apply bd1) | exact HB.out)⟩
def spec_l1S8.f (k : Nat) (a0 : ByteArray) : Option (ByteArray) := (spec_l1Num.f k 1 (a0.size : Int)).bind fun t168 => (if t168.size + a0.size ≤ 9223372036854775807 then (some (t168 ++ a0)) else (none))
theorem spec_l1S8.mono : ∀ a0 k, LeO (spec_l1S8.f k a0) (spec_l1S8.f (k + 1) a0) := by
  intro a0 k
  unfold spec_l1S8.f
  repeat' first
      | (with_reducible exact spec_l1Num.mono _ _ _)
      | (with_reducible exact LeO.refl _)
      | (with_reducible exact LeO.none _)
      | (with_reducible refine LeO.ite ?_ ?_)
      | (with_reducible refine LeO.bind ?_ (fun _ => ?_))
      | exact spec_l1Num.mono _ _ _
      | exact LeO.none _
      | refine LeO.ite ?_ ?_
      | refine LeO.bind ?_ (fun _ => ?_)
set_option maxHeartbeats 8000000 in
set_option maxRecDepth 100000 in
theorem spec_l1S8.calls (k : Nat) (a0 : ByteArray) (r : ByteArray) (w : World) (h : spec_l1S8.f k a0 = some r) :
    Calls Tryd.prog 20 #[.string a0] w fun e w' => e = .returned (.string r) ∧ Below w.heap.size w w' := by
  have HB := Aside0.mk (Below.refl w.heap.size w); have H : ((spec_l1Num.f k 1 (a0.size : Int)).bind fun t168 => (if t168.size + a0.size ≤ 9223372036854775807 then (some (t168 ++ a0)) else (none))) = some r := h; clear h; replace H := Option.bind_eq_some_iff.mp H; obtain ⟨t168, A20, H⟩ := H; replace H : (if t168.size + a0.size ≤ 9223372036854775807 then (some (t168 ++ a0)) else (none)) = some r := H; have A2 := Aside0.mk A20; clear A20; by_cases c3 : t168.size + a0.size ≤ 9223372036854775807
  · rw [if_pos c3] at H; have c3b0 := eq_true c3; have c3b1 : decide (t168.size + a0.size ≤ 9223372036854775807) = true := decide_eq_true c3; (try have c3b2 : (9223372036854775807 < t168.size + a0.size) = False := eq_false (Nat.not_lt.2 c3)); obtain rfl := Option.some.inj H; go_enter Tryd.func20, Tryd.ntmps20; go_wp2_with (first | ((with_reducible refine gcl (f := 19) rfl ?_); refine goesL_ (some 5) rfl rfl Tryd.func19 (by kernel_rfl) rfl #[.int .i64 1, .int .i64 (a0.size : Int)] rfl (by (try simp only [List.map_toArray, List.map_cons, List.map_nil]); first | done | rfl | (simp only [List.length_drop, List.length_take]; rfl)) ?_; (with_reducible refine (spec_l1Num.calls k 1 (a0.size : Int) t168 _ A2.out).mono ?_); rintro e w4 ⟨rfl, hb⟩; refine ⟨_, rfl, ?_⟩; have n0_ := Aside0.mk (bst (by repeat (first | (with_reducible first | exact HB.out | apply bal | apply pbd | apply bd1) | exact HB.out)) hb); replace HB := n0_; clear n0_; (try clear hb); (try clear hb2); (try clear hk); (try clear hi))); go_ret; exact ⟨by first | rfl | (simp [eWn, eWs] <;> rfl) | (simp [*, eWn, eWs] <;> rfl), by repeat (first | (with_reducible first | exact HB.out | apply bal | apply pbd | apply bd1) | exact HB.out)⟩
  · rw [if_neg c3] at H; exact absurd H (by simp)
def spec_l1S16.f (k : Nat) (a0 : ByteArray) : Option (ByteArray) := (spec_l1Num.f k 2 (a0.size : Int)).bind fun t169 => (if t169.size + a0.size ≤ 9223372036854775807 then (some (t169 ++ a0)) else (none))
theorem spec_l1S16.mono : ∀ a0 k, LeO (spec_l1S16.f k a0) (spec_l1S16.f (k + 1) a0) := by
  intro a0 k
  unfold spec_l1S16.f
  repeat' first
      | (with_reducible exact spec_l1Num.mono _ _ _)
      | (with_reducible exact LeO.refl _)
      | (with_reducible exact LeO.none _)
      | (with_reducible refine LeO.ite ?_ ?_)
      | (with_reducible refine LeO.bind ?_ (fun _ => ?_))
      | exact spec_l1Num.mono _ _ _
      | exact LeO.none _
      | refine LeO.ite ?_ ?_
      | refine LeO.bind ?_ (fun _ => ?_)
set_option maxHeartbeats 8000000 in
set_option maxRecDepth 100000 in
theorem spec_l1S16.calls (k : Nat) (a0 : ByteArray) (r : ByteArray) (w : World) (h : spec_l1S16.f k a0 = some r) :
    Calls Tryd.prog 21 #[.string a0] w fun e w' => e = .returned (.string r) ∧ Below w.heap.size w w' := by
  have HB := Aside0.mk (Below.refl w.heap.size w); have H : ((spec_l1Num.f k 2 (a0.size : Int)).bind fun t169 => (if t169.size + a0.size ≤ 9223372036854775807 then (some (t169 ++ a0)) else (none))) = some r := h; clear h; replace H := Option.bind_eq_some_iff.mp H; obtain ⟨t169, A20, H⟩ := H; replace H : (if t169.size + a0.size ≤ 9223372036854775807 then (some (t169 ++ a0)) else (none)) = some r := H; have A2 := Aside0.mk A20; clear A20; by_cases c3 : t169.size + a0.size ≤ 9223372036854775807
  · rw [if_pos c3] at H; have c3b0 := eq_true c3; have c3b1 : decide (t169.size + a0.size ≤ 9223372036854775807) = true := decide_eq_true c3; (try have c3b2 : (9223372036854775807 < t169.size + a0.size) = False := eq_false (Nat.not_lt.2 c3)); obtain rfl := Option.some.inj H; go_enter Tryd.func21, Tryd.ntmps21; go_wp2_with (first | ((with_reducible refine gcl (f := 19) rfl ?_); refine goesL_ (some 5) rfl rfl Tryd.func19 (by kernel_rfl) rfl #[.int .i64 2, .int .i64 (a0.size : Int)] rfl (by (try simp only [List.map_toArray, List.map_cons, List.map_nil]); first | done | rfl | (simp only [List.length_drop, List.length_take]; rfl)) ?_; (with_reducible refine (spec_l1Num.calls k 2 (a0.size : Int) t169 _ A2.out).mono ?_); rintro e w4 ⟨rfl, hb⟩; refine ⟨_, rfl, ?_⟩; have n0_ := Aside0.mk (bst (by repeat (first | (with_reducible first | exact HB.out | apply bal | apply pbd | apply bd1) | exact HB.out)) hb); replace HB := n0_; clear n0_; (try clear hb); (try clear hb2); (try clear hk); (try clear hi))); go_ret; exact ⟨by first | rfl | (simp [eWn, eWs] <;> rfl) | (simp [*, eWn, eWs] <;> rfl), by repeat (first | (with_reducible first | exact HB.out | apply bal | apply pbd | apply bd1) | exact HB.out)⟩
  · rw [if_neg c3] at H; exact absurd H (by simp)
def spec_l4ExpBytes.f (k : Nat) (l0 : List (S88)) : Option ByteArray :=
  (spec_l1Num.f k 2 (l0.length : Int)).bind fun t => if t.size ≤ 1000000 ∧ l0.length ≤ 1000000 then expGo (spec_l1Num.f k) (spec_l1S16.f k) (spec_l1S8.f k) l0 t else none
theorem expGo_mono (k : Nat) (l : List IIt) : ∀ s, LeO (expGo (spec_l1Num.f k) (spec_l1S16.f k) (spec_l1S8.f k) l s) (expGo (spec_l1Num.f (k + 1)) (spec_l1S16.f (k + 1)) (spec_l1S8.f (k + 1)) l s) := by
  induction l with
  | nil => intro s; exact LeO.refl _
  | cons y l ih =>
    intro s
    rw [expGo, expGo]
    refine LeO.bind (spec_l1Num.mono _ _ _) (fun t => ?_)
    unfold expAdd
    refine LeO.ite ?_ (LeO.refl _)
    refine LeO.ite (LeO.bind (spec_l1Num.mono _ _ _) (fun u => LeO.ite (ih _) (LeO.refl _))) ?_
    refine LeO.ite (LeO.bind (spec_l1S16.mono _ _) (fun u => LeO.ite (ih _) (LeO.refl _))) ?_
    exact LeO.ite (LeO.bind (spec_l1S8.mono _ _) (fun u => LeO.ite (ih _) (LeO.refl _))) (ih _)
theorem spec_l4ExpBytes.mono : ∀ a0 k, LeO (spec_l4ExpBytes.f k a0) (spec_l4ExpBytes.f (k + 1) a0) := by
  intro a0 k
  exact LeO.bind (spec_l1Num.mono _ _ _) (fun t => LeO.ite (expGo_mono k a0 t) (LeO.refl _))
theorem spec_l4ExpBytes.calls (k : Nat) (A0 : Option Addr) (c0 : Nat) (l0 : List (S88)) (r : ByteArray) (w : World) (hr0 : Kd.C k88 w A0 l0.length l0) (hc0 : l0.length ≤ c0) (h : spec_l4ExpBytes.f k l0 = some r) :
    Calls Tryd.prog 22 #[.slice A0 l0.length c0] w fun e w' => e = .returned (.string r) ∧ Below w.heap.size w w' := by
  unfold spec_l4ExpBytes.f at h
  obtain ⟨t, ht, h⟩ := Option.bind_eq_some_iff.mp h
  by_cases hc : t.size ≤ 1000000 ∧ l0.length ≤ 1000000
  · rw [if_pos hc] at h
    exact expBytes_any A0 c0 l0 w (spec_l1Num.f k) (spec_l1S16.f k) (spec_l1S8.f k) hr0 hc.2 (fun n v r h w' => spec_l1Num.calls k n v r w' h) (fun v r h w' => spec_l1S16.calls k v r w' h) (fun v r h w' => spec_l1S8.calls k v r w' h) t r ht hc.1 h
  · rw [if_neg hc] at h
    cases h
open Go.Proofs.YtjihphegmdfpfaaDoorW.PrintWords renaming bal → zA
open Go.Proofs.YtjihphegmdfpfaaDoorW.PrintWords renaming pbd → zD
open Go.Proofs.YtjihphegmdfpfaaDoorW.PrintWords renaming bd1 → z1
open Go.Proofs.YtjihphegmdfpfaaDoorW.PrintWords renaming bse → zS
open Go.Proofs.YtjihphegmdfpfaaDoorW.PrintWords renaming bdN → zbN
open Go.Proofs.YtjihphegmdfpfaaDoorW.PrintWords renaming bkD → zb1
open Go.Proofs.YtjihphegmdfpfaaDoorW.PrintWords renaming bkA → zbA
open Go.Proofs.YtjihphegmdfpfaaDoorW.PrintWords.Kd renaming Cal → zCa
open Go.Proofs.YtjihphegmdfpfaaDoorW.PrintWords.Kd renaming CdN → zCn
open Go.Proofs.YtjihphegmdfpfaaDoorW.PrintWords.Kd renaming Cdr → zCd
open Go.Proofs.YtjihphegmdfpfaaDoorW.PrintWords renaming bbe → zbb
open Go.Proofs.YtjihphegmdfpfaaDoorW.PrintWords renaming bst → zst
open Go.Proofs.YtjihphegmdfpfaaDoorW.PrintWords renaming bsz → zsz
open Go.Proofs.YtjihphegmdfpfaaDoorW.PrintLast renaming goesL_ → zg
open Go.Proofs.YtjihphegmdfpfaaDoorW.PrintWords.Aside0 renaming mk → zK
open Go.Proofs.YtjihphegmdfpfaaDoorW.PrintWords renaming gcl → zgc
open Go.Proofs.YtjihphegmdfpfaaDoorW.PrintWords renaming gds → zgd
open Go.Proofs.YtjihphegmdfpfaaDoorW.PrintWords renaming bxe → zbx
open Go.Proofs.YtjihphegmdfpfaaDoorW.PrintWords renaming blt → zbl
open Go.Proofs.YtjihphegmdfpfaaDoorW.PrintWords renaming bce → zbc
mutual
def spec_EncodeStm.l0 : Nat → ByteArray → List (S51) → Int → Int → Option (ByteArray)
  | 0, _, _, _, _ => none
  | k + 1, x3, x31, x32, x33 => if x33 < x32 then (if 0 ≤ x33 then (if x33 < (x31.length : Int) then ((spec_l1S8.f k ((rd_T51 x31 x33).f0)).bind fun t177 => ((spec_l1Num.f k 1 ((rd_T51 x31 x33).f1)).bind fun t178 => (if t177.size + t178.size ≤ 9223372036854775807 then (if x3.size + (t177 ++ t178).size ≤ 9223372036854775807 then (spec_EncodeStm.l0 k (x3 ++ (t177 ++ t178)) x31 x32 (wrap64 (x33 + 1))) else (none)) else (none)))) else (none)) else (none)) else (if (x3.size : Int) > 60000 then (some (⟨#[]⟩ : ByteArray)) else (some x3))
def spec_EncodeStm.l1 : Nat → ByteArray → List (S53) → Int → Int → Option (ByteArray)
  | 0, _, _, _, _ => none
  | k + 1, x3, x56, x57, x58 => if x58 < x57 then (if 0 ≤ x58 then (if x58 < (x56.length : Int) then ((spec_l1Num.f k 1 ((rd_T53 x56 x58).f0)).bind fun t182 => (if x3.size + t182.size ≤ 9223372036854775807 then (if ((rd_T53 x56 x58).f0) = 1 then ((spec_l1Num.f k 8 ((rd_T53 x56 x58).f1)).bind fun t183 => (if (x3 ++ t182).size + t183.size ≤ 9223372036854775807 then (spec_EncodeStm.l1 k ((x3 ++ t182) ++ t183) x56 x57 (wrap64 (x58 + 1))) else (none))) else ((spec_l1S16.f k ((rd_T53 x56 x58).f2)).bind fun t184 => (if (x3 ++ t182).size + t184.size ≤ 9223372036854775807 then (spec_EncodeStm.l1 k ((x3 ++ t182) ++ t184) x56 x57 (wrap64 (x58 + 1))) else (none)))) else (none))) else (none)) else (none)) else (if (x3.size : Int) > 60000 then (some (⟨#[]⟩ : ByteArray)) else (some x3))
def spec_EncodeStm.l2 : Nat → ByteArray → List (List (S88)) → Int → Int → Int → ByteArray → List (S51) → List (S53) → ByteArray → List (S88) → List (S88) → List (List (S88)) → Option (ByteArray)
  | 0, _, _, _, _, _, _, _, _, _, _, _, _ => none
  | k + 1, x3, x112, x113, x114, x171000, x171001, x171002, x171003, x171004, x171005, x171006, x171007 => if x114 < x113 then (if 0 ≤ x114 then (if x114 < (x112.length : Int) then ((spec_l4ExpBytes.f k (rd_L9 x112 x114)).bind fun t191 => (if x3.size + t191.size ≤ 9223372036854775807 then (spec_EncodeStm.l2 k (x3 ++ t191) x112 x113 (wrap64 (x114 + 1)) x171000 x171001 x171002 x171003 x171004 x171005 x171006 x171007) else (none))) else (none)) else (none)) else ((spec_l4ExpBytes.f k x171006).bind fun t192 => (if x3.size + t192.size ≤ 9223372036854775807 then (if ((x3 ++ t192).size : Int) > 60000 then (some (⟨#[]⟩ : ByteArray)) else (some (x3 ++ t192))) else (none)))
end
def spec_EncodeStm.f (k : Nat) (a0_0 : Int) (a0_1 : ByteArray) (l0_2 : List (S51)) (l0_3 : List (S53)) (a0_4 : ByteArray) (l0_5 : List (S88)) (l0_6 : List (S88)) (l0_7 : List (List (S88))) : Option (ByteArray) := (spec_StmOK.f k a0_0 a0_1 l0_2 l0_3 a0_4 l0_5 l0_6 l0_7).bind fun t171 => (if t171 = true then ((spec_l1Num.f k 1 a0_0).bind fun t172 => ((spec_l1S8.f k a0_1).bind fun t173 => (if t172.size + t173.size ≤ 9223372036854775807 then (if a0_0 = 1 then ((spec_l1Num.f k 1 (l0_2.length : Int)).bind fun t174 => (if (t172 ++ t173).size + t174.size ≤ 9223372036854775807 then (spec_EncodeStm.l0 k ((t172 ++ t173) ++ t174) l0_2 (l0_2.length : Int) 0) else (none))) else (if a0_0 = 2 then ((spec_l1Num.f k 1 (l0_3.length : Int)).bind fun t179 => (if (t172 ++ t173).size + t179.size ≤ 9223372036854775807 then (spec_EncodeStm.l1 k ((t172 ++ t173) ++ t179) l0_3 (l0_3.length : Int) 0) else (none))) else (if a0_0 = 3 then ((spec_l1S8.f k a0_4).bind fun t185 => ((spec_l4ExpBytes.f k l0_5).bind fun t186 => (if t185.size + t186.size ≤ 9223372036854775807 then ((spec_l4ExpBytes.f k l0_6).bind fun t187 => (if (t185 ++ t186).size + t187.size ≤ 9223372036854775807 then (if (t172 ++ t173).size + ((t185 ++ t186) ++ t187).size ≤ 9223372036854775807 then (if (((t172 ++ t173) ++ ((t185 ++ t186) ++ t187)).size : Int) > 60000 then (some (⟨#[]⟩ : ByteArray)) else (some ((t172 ++ t173) ++ ((t185 ++ t186) ++ t187)))) else (none)) else (none))) else (none)))) else (if a0_0 = 4 then ((spec_l4ExpBytes.f k l0_6).bind fun t188 => (if (t172 ++ t173).size + t188.size ≤ 9223372036854775807 then (if (((t172 ++ t173) ++ t188).size : Int) > 60000 then (some (⟨#[]⟩ : ByteArray)) else (some ((t172 ++ t173) ++ t188))) else (none))) else (if a0_0 = 5 then ((spec_l1Num.f k 1 (l0_7.length : Int)).bind fun t189 => (if (t172 ++ t173).size + t189.size ≤ 9223372036854775807 then (spec_EncodeStm.l2 k ((t172 ++ t173) ++ t189) l0_7 (l0_7.length : Int) 0 a0_0 a0_1 l0_2 l0_3 a0_4 l0_5 l0_6 l0_7) else (none))) else (if ((t172 ++ t173).size : Int) > 60000 then (some (⟨#[]⟩ : ByteArray)) else (some (t172 ++ t173)))))))) else (none)))) else (some (⟨#[]⟩ : ByteArray)))
theorem spec_EncodeStm.mono_l : ∀ k, (∀ y0 y1 y2 y3, LeO (spec_EncodeStm.l0 k y0 y1 y2 y3) (spec_EncodeStm.l0 (k + 1) y0 y1 y2 y3)) ∧ (∀ y0 y1 y2 y3, LeO (spec_EncodeStm.l1 k y0 y1 y2 y3) (spec_EncodeStm.l1 (k + 1) y0 y1 y2 y3)) ∧ (∀ y0 y1 y2 y3 y4 y5 y6 y7 y8 y9 y10 y11, LeO (spec_EncodeStm.l2 k y0 y1 y2 y3 y4 y5 y6 y7 y8 y9 y10 y11) (spec_EncodeStm.l2 (k + 1) y0 y1 y2 y3 y4 y5 y6 y7 y8 y9 y10 y11))
  | 0 => ⟨fun _ _ _ _ r h => by simp [spec_EncodeStm.l0] at h, fun _ _ _ _ r h => by simp [spec_EncodeStm.l1] at h, fun _ _ _ _ _ _ _ _ _ _ _ _ r h => by simp [spec_EncodeStm.l2] at h⟩
  | k + 1 => by
    obtain ⟨ih0, ih1, ih2⟩ := spec_EncodeStm.mono_l k
    refine ⟨?_, ?_, ?_⟩
    · intro y0 y1 y2 y3
      unfold spec_EncodeStm.l0
      repeat' first
      | (with_reducible exact ih0 _ _ _ _)
      | (with_reducible exact ih1 _ _ _ _)
      | (with_reducible exact ih2 _ _ _ _ _ _ _ _ _ _ _ _)
      | (with_reducible exact spec_StmOK.mono _ _ _ _ _ _ _ _ _)
      | (with_reducible exact spec_l1Num.mono _ _ _)
      | (with_reducible exact spec_l1S16.mono _ _)
      | (with_reducible exact spec_l1S8.mono _ _)
      | (with_reducible exact spec_l4ExpBytes.mono _ _)
      | (with_reducible exact LeO.refl _)
      | (with_reducible exact LeO.none _)
      | (with_reducible refine LeO.ite ?_ ?_)
      | (with_reducible refine LeO.bind ?_ (fun _ => ?_))
      | exact ih0 _ _ _ _
      | exact ih1 _ _ _ _
      | exact ih2 _ _ _ _ _ _ _ _ _ _ _ _
      | exact spec_StmOK.mono _ _ _ _ _ _ _ _ _
      | exact spec_l1Num.mono _ _ _
      | exact spec_l1S16.mono _ _
      | exact spec_l1S8.mono _ _
      | exact spec_l4ExpBytes.mono _ _
      | exact LeO.none _
      | refine LeO.ite ?_ ?_
      | refine LeO.bind ?_ (fun _ => ?_)
    · intro y0 y1 y2 y3
      unfold spec_EncodeStm.l1
      repeat' first
      | (with_reducible exact ih0 _ _ _ _)
      | (with_reducible exact ih1 _ _ _ _)
      | (with_reducible exact ih2 _ _ _ _ _ _ _ _ _ _ _ _)
      | (with_reducible exact spec_StmOK.mono _ _ _ _ _ _ _ _ _)
      | (with_reducible exact spec_l1Num.mono _ _ _)
      | (with_reducible exact spec_l1S16.mono _ _)
      | (with_reducible exact spec_l1S8.mono _ _)
      | (with_reducible exact spec_l4ExpBytes.mono _ _)
      | (with_reducible exact LeO.refl _)
      | (with_reducible exact LeO.none _)
      | (with_reducible refine LeO.ite ?_ ?_)
      | (with_reducible refine LeO.bind ?_ (fun _ => ?_))
      | exact ih0 _ _ _ _
      | exact ih1 _ _ _ _
      | exact ih2 _ _ _ _ _ _ _ _ _ _ _ _
      | exact spec_StmOK.mono _ _ _ _ _ _ _ _ _
      | exact spec_l1Num.mono _ _ _
      | exact spec_l1S16.mono _ _
      | exact spec_l1S8.mono _ _
      | exact spec_l4ExpBytes.mono _ _
      | exact LeO.none _
      | refine LeO.ite ?_ ?_
      | refine LeO.bind ?_ (fun _ => ?_)
    · intro y0 y1 y2 y3 y4 y5 y6 y7 y8 y9 y10 y11
      unfold spec_EncodeStm.l2
      repeat' first
      | (with_reducible exact ih0 _ _ _ _)
      | (with_reducible exact ih1 _ _ _ _)
      | (with_reducible exact ih2 _ _ _ _ _ _ _ _ _ _ _ _)
      | (with_reducible exact spec_StmOK.mono _ _ _ _ _ _ _ _ _)
      | (with_reducible exact spec_l1Num.mono _ _ _)
      | (with_reducible exact spec_l1S16.mono _ _)
      | (with_reducible exact spec_l1S8.mono _ _)
      | (with_reducible exact spec_l4ExpBytes.mono _ _)
      | (with_reducible exact LeO.refl _)
      | (with_reducible exact LeO.none _)
      | (with_reducible refine LeO.ite ?_ ?_)
      | (with_reducible refine LeO.bind ?_ (fun _ => ?_))
      | exact ih0 _ _ _ _
      | exact ih1 _ _ _ _
      | exact ih2 _ _ _ _ _ _ _ _ _ _ _ _
      | exact spec_StmOK.mono _ _ _ _ _ _ _ _ _
      | exact spec_l1Num.mono _ _ _
      | exact spec_l1S16.mono _ _
      | exact spec_l1S8.mono _ _
      | exact spec_l4ExpBytes.mono _ _
      | exact LeO.none _
      | refine LeO.ite ?_ ?_
      | refine LeO.bind ?_ (fun _ => ?_)
theorem spec_EncodeStm.mono : ∀ a0 a1 a2 a3 a4 a5 a6 a7 k, LeO (spec_EncodeStm.f k a0 a1 a2 a3 a4 a5 a6 a7) (spec_EncodeStm.f (k + 1) a0 a1 a2 a3 a4 a5 a6 a7) := by
  intro a0 a1 a2 a3 a4 a5 a6 a7 k
  obtain ⟨ih0, ih1, ih2⟩ := spec_EncodeStm.mono_l k
  unfold spec_EncodeStm.f
  repeat' first
      | (with_reducible exact ih0 _ _ _ _)
      | (with_reducible exact ih1 _ _ _ _)
      | (with_reducible exact ih2 _ _ _ _ _ _ _ _ _ _ _ _)
      | (with_reducible exact spec_StmOK.mono _ _ _ _ _ _ _ _ _)
      | (with_reducible exact spec_l1Num.mono _ _ _)
      | (with_reducible exact spec_l1S16.mono _ _)
      | (with_reducible exact spec_l1S8.mono _ _)
      | (with_reducible exact spec_l4ExpBytes.mono _ _)
      | (with_reducible exact LeO.refl _)
      | (with_reducible exact LeO.none _)
      | (with_reducible refine LeO.ite ?_ ?_)
      | (with_reducible refine LeO.bind ?_ (fun _ => ?_))
      | exact ih0 _ _ _ _
      | exact ih1 _ _ _ _
      | exact ih2 _ _ _ _ _ _ _ _ _ _ _ _
      | exact spec_StmOK.mono _ _ _ _ _ _ _ _ _
      | exact spec_l1Num.mono _ _ _
      | exact spec_l1S16.mono _ _
      | exact spec_l1S8.mono _ _
      | exact spec_l4ExpBytes.mono _ _
      | exact LeO.none _
      | refine LeO.ite ?_ ?_
      | refine LeO.bind ?_ (fun _ => ?_)
def spec_EncodeStm.T3 : Bool × List (List Nat × List Nat) := (true, [([], []), ([0], [0]), ([1], [1]), ([], []), ([3], [3]), ([4, 2], [4]), ([2, 5], [2, 5]), ([6, 5, 0, 1, 2, 3, 4, 5, 6], [6])])
def spec_EncodeStm.B3 : List Nat := [0, 1, 3, 0, 8, 31, 63, 127]
theorem spec_EncodeStm.tab3 : rtab .any (opsOf Tryd.f6 3) = spec_EncodeStm.T3 := by kernel_rfl
theorem spec_EncodeStm.bits3 : waitsOk spec_EncodeStm.T3.2 spec_EncodeStm.B3 = true := by kernel_rfl
def spec_EncodeStm.T10 : Bool × List (List Nat × List Nat) := (true, [([], []), ([], []), ([1], [1]), ([2], [2]), ([], []), ([4], [4]), ([5, 3], [5]), ([3, 6], [3, 6]), ([0, 7], [0, 7]), ([8, 6, 0, 1, 2, 3, 4, 5, 6, 7, 8], [0, 8])])
def spec_EncodeStm.B10 : List Nat := [0, 0, 2, 6, 0, 16, 62, 126, 255, 511]
theorem spec_EncodeStm.tab10 : rtab .any (opsOf Tryd.f6 10) = spec_EncodeStm.T10 := by kernel_rfl
theorem spec_EncodeStm.bits10 : waitsOk spec_EncodeStm.T10.2 spec_EncodeStm.B10 = true := by kernel_rfl
def spec_EncodeStm.T23 : Bool × List (List Nat × List Nat) := (true, [([], []), ([], []), ([1], [1]), ([2], [2]), ([], []), ([4], [4]), ([5, 3], [5]), ([3, 6], [3, 6]), ([], []), ([8], [8]), ([9, 6], [9]), ([7, 10], [7, 10]), ([0, 11], [0, 11]), ([12, 10, 0, 1, 2, 3, 4, 5, 6, 7, 8, 9, 10, 11, 12], [0, 12])])
def spec_EncodeStm.B23 : List Nat := [0, 0, 2, 6, 0, 16, 62, 126, 0, 256, 894, 2046, 4095, 8191]
theorem spec_EncodeStm.tab23 : rtab .any (opsOf Tryd.f6 23) = spec_EncodeStm.T23 := by kernel_rfl
theorem spec_EncodeStm.bits23 : waitsOk spec_EncodeStm.T23.2 spec_EncodeStm.B23 = true := by kernel_rfl
end Go.Proofs.YtjihphegmdfpfaaDoor.L
end
