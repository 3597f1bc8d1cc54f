/- The texts that the proof of the law FnExactStmOK rests on, part 2: printed functions with their contracts, words, plain laws; the last part ends in the statement itself. No condition but those that each theorem states. -/
import Derived.Test.YtmchcoafkaggkaaDoorKFnExactStmOK1
set_option linter.unusedVariables false
set_option linter.unusedSimpArgs false
section
namespace Go.Proofs.YtmchcoafkaggkaaDoor.L
open Go.RowKit Go.Proofs.YtmchcoafkaggkaaDoorW.PrintWords Go.Proofs.YtmchcoafkaggkaaDoorW.PrintLast Go.Proofs.YtmchcoafkaggkaaDoorW.PrintMore
attribute [local go_sem] max2_int min2_int max_two min_two max_three min_three max_four min_four
set_option linter.unusedVariables false
set_option linter.unusedSimpArgs false
def spec_l4Has.l0 : Nat → ByteArray → List ByteArray → Int → Int → Option (Bool)
  | 0, _, _, _, _ => none
  | k + 1, x1, x7, x8, x9 => if x9 < x8 then (if 0 ≤ x9 then (if x9 < (x7.length : Int) then (if (rdOf ByteArray.empty x7 x9).toList = x1.toList then (some true) else (spec_l4Has.l0 k x1 x7 x8 (wrap64 (x9 + 1)))) else (none)) else (none)) else (some false)
def spec_l4Has.f (k : Nat) (l0 : List ByteArray) (a1 : ByteArray) : Option (Bool) := spec_l4Has.l0 k a1 l0 (l0.length : Int) 0
theorem spec_l4Has.mono_l : ∀ k, (∀ y0 y1 y2 y3, LeO (spec_l4Has.l0 k y0 y1 y2 y3) (spec_l4Has.l0 (k + 1) y0 y1 y2 y3))
  | 0 => fun _ _ _ _ r h => by simp [spec_l4Has.l0] at h
  | k + 1 => by
    have ih0 := spec_l4Has.mono_l k
    · intro y0 y1 y2 y3
      unfold spec_l4Has.l0
      repeat' first
      | (with_reducible exact ih0 _ _ _ _)
      | (with_reducible exact LeO.refl _)
      | (with_reducible exact LeO.none _)
      | (with_reducible refine LeO.ite ?_ ?_)
      | (with_reducible refine LeO.bind ?_ (fun _ => ?_))
      | exact ih0 _ _ _ _
      | exact LeO.none _
      | refine LeO.ite ?_ ?_
      | refine LeO.bind ?_ (fun _ => ?_)
theorem spec_l4Has.mono : ∀ a0 a1 k, LeO (spec_l4Has.f k a0 a1) (spec_l4Has.f (k + 1) a0 a1) := by
  intro a0 a1 k
  have ih0 := spec_l4Has.mono_l k
  unfold spec_l4Has.f
  repeat' first
      | (with_reducible exact ih0 _ _ _ _)
      | (with_reducible exact LeO.refl _)
      | (with_reducible exact LeO.none _)
      | (with_reducible refine LeO.ite ?_ ?_)
      | (with_reducible refine LeO.bind ?_ (fun _ => ?_))
      | exact ih0 _ _ _ _
      | exact LeO.none _
      | refine LeO.ite ?_ ?_
      | refine LeO.bind ?_ (fun _ => ?_)
set_option maxHeartbeats 8000000 in
set_option maxRecDepth 100000 in
theorem spec_l4Has.calls (k : Nat) (A0 : Option Addr) (c0 : Nat) (l0 : List ByteArray) (a1 : ByteArray) (r : Bool) (w : World) (hr0 : Kd.C Kd.string w A0 l0.length l0) (hc0 : l0.length ≤ c0) (h : spec_l4Has.f k l0 a1 = some r) :
    Calls Tryd.prog 87 #[.slice A0 l0.length c0, .string a1] w fun e w' => e = .returned (.bool r) ∧ Drawn0 w w' := by
  have HR0 := Aside0.mk hr0; have HC0 := Aside0.mk hc0; clear hr0 hc0; have H : (spec_l4Has.l0 k a1 l0 (l0.length : Int) 0) = some r := h; clear h; have H' := Aside0.mk H; clear H; go_enter Tryd.func87, Tryd.ntmps87; go_wp2; go_loopg [9] k (fun kq v9 w' => ∃ (x9_1 : Int), v9 = .int .i64 x9_1 ∧ Aside0 (spec_l4Has.l0 kq a1 l0 (l0.length : Int) x9_1 = some r) ∧ Aside0 (kq ≤ k) ∧ Drawn0 w w')
  case atStart => exact ⟨(0), (by first | rfl | (simp; done) | (simp [*]; done)), H', ⟨Nat.le_refl _⟩, by repeat (first | exact Drawn0.refl _ | apply Drawn0.step)⟩
  case round =>
    clear H'; (try clear p2); obtain ⟨x9_1, rfl, HA, HK1, ⟨m1, rfl⟩⟩ := hrel
    cases gk with
    | zero => exact absurd HA.out (by simp [spec_l4Has.l0])
    | succ k1 =>
      have H := HA.out; clear HA; simp only [spec_l4Has.l0] at H; by_cases c3 : x9_1 < (l0.length : Int)
      · rw [if_pos c3] at H; have c3b0 : decide (x9_1 < (l0.length : Int)) = true := decide_eq_true c3; clear c3; by_cases c4 : 0 ≤ x9_1
        · rw [if_pos c4] at H; have c4b0 : decide (0 ≤ x9_1) = true := decide_eq_true c4; clear c4; by_cases c5 : x9_1 < (l0.length : Int)
          · rw [if_pos c5] at H; have c5b0 : decide (x9_1 < (l0.length : Int)) = true := decide_eq_true c5; clear c5; by_cases c6 : (rdOf ByteArray.empty l0 x9_1).toList = a1.toList
            · rw [if_pos c6] at H; have c6b0 : ((rdOf ByteArray.empty l0 x9_1).toList == a1.toList) = true := beq_iff_eq.mpr c6; have c6b1 : ((rdOf ByteArray.empty l0 x9_1).toList != a1.toList) = false := bne_eq_false_iff_eq.mpr c6; clear c6; obtain rfl := Option.some.inj H; have p118 : 0 ≤ (x9_1 : Int) := of_decide_eq_true (by first | (with_reducible assumption) | assumption); have q118 : x9_1 < (l0.length : Int) := of_decide_eq_true (by first | (with_reducible assumption) | assumption); obtain ⟨ad118, e118, hx118_0⟩ := Kd.at_string HR0.out x9_1 p118 q118; cases e118; replace p118 := eq_true p118; replace q118 := eq_true q118; go_wp2; go_ret; exact ⟨by first | rfl | (simp; done) | (simp [*]; done), by repeat (first | exact Drawn0.refl _ | apply Drawn0.step)⟩
            · rw [if_neg c6] at H; have c6b0 : ((rdOf ByteArray.empty l0 x9_1).toList == a1.toList) = false := beq_eq_false_iff_ne.mpr c6; have c6b1 : ((rdOf ByteArray.empty l0 x9_1).toList != a1.toList) = true := bne_iff_ne.mpr c6; have H' := Aside0.mk H; clear H; have p118 : 0 ≤ (x9_1 : Int) := of_decide_eq_true (by first | (with_reducible assumption) | assumption); have q118 : x9_1 < (l0.length : Int) := of_decide_eq_true (by first | (with_reducible assumption) | assumption); obtain ⟨ad118, e118, hx118_0⟩ := Kd.at_string HR0.out x9_1 p118 q118; cases e118; replace p118 := eq_true p118; replace q118 := eq_true q118; go_wp2; go_roundg k1
              case measure => have := HK1.out; omega
              case rel => exact ⟨(wrap64 (x9_1 + 1)), (by first | rfl | (simp; done) | (simp [*]; done)), H', ⟨by have := HK1.out; omega⟩, by repeat (first | exact Drawn0.refl _ | apply Drawn0.step)⟩
          · rw [if_neg c5] at H; exact absurd H (by simp)
        · rw [if_neg c4] at H; exact absurd H (by simp)
      · rw [if_neg c3] at H; have c3b0 : decide (x9_1 < (l0.length : Int)) = false := decide_eq_false c3; clear c3; obtain rfl := Option.some.inj H; go_wp2; go_ret; exact ⟨by first | rfl | (simp; done) | (simp [*]; done), by repeat (first | exact Drawn0.refl _ | apply Drawn0.step)⟩
def spec_l4Keywords.f  : Option (List ByteArray) := some (([(⟨#[99, 114, 101, 97, 116, 101]⟩ : ByteArray), (⟨#[116, 97, 98, 108, 101]⟩ : ByteArray), (⟨#[105, 110, 115, 101, 114, 116]⟩ : ByteArray), (⟨#[105, 110, 116, 111]⟩ : ByteArray), (⟨#[118, 97, 108, 117, 101, 115]⟩ : ByteArray), (⟨#[117, 112, 100, 97, 116, 101]⟩ : ByteArray), (⟨#[115, 101, 116]⟩ : ByteArray), (⟨#[100, 101, 108, 101, 116, 101]⟩ : ByteArray), (⟨#[102, 114, 111, 109]⟩ : ByteArray), (⟨#[119, 104, 101, 114, 101]⟩ : ByteArray), (⟨#[115, 101, 108, 101, 99, 116]⟩ : ByteArray), (⟨#[97, 110, 100]⟩ : ByteArray), (⟨#[111, 114]⟩ : ByteArray), (⟨#[110, 111, 116]⟩ : ByteArray), (⟨#[108, 101, 110]⟩ : ByteArray), (⟨#[105, 110, 116]⟩ : ByteArray), (⟨#[116, 101, 120, 116]⟩ : ByteArray)] : List ByteArray))
set_option maxHeartbeats 8000000 in
set_option maxRecDepth 100000 in
theorem spec_l4Keywords.calls  (r : List ByteArray) (w : World) (h : spec_l4Keywords.f  = some r) :
    Calls Tryd.prog 88 #[] w fun e w' => ∃ v0_ : Value, e = .returned (v0_) ∧ Kd.R Kd.string 9 w' w.heap.size (fun _ => True) v0_ r ∧ Below w.heap.size w w' := by
  have HB := Aside0.mk (Below.refl w.heap.size w); have H : (some (([(⟨#[99, 114, 101, 97, 116, 101]⟩ : ByteArray), (⟨#[116, 97, 98, 108, 101]⟩ : ByteArray), (⟨#[105, 110, 115, 101, 114, 116]⟩ : ByteArray), (⟨#[105, 110, 116, 111]⟩ : ByteArray), (⟨#[118, 97, 108, 117, 101, 115]⟩ : ByteArray), (⟨#[117, 112, 100, 97, 116, 101]⟩ : ByteArray), (⟨#[115, 101, 116]⟩ : ByteArray), (⟨#[100, 101, 108, 101, 116, 101]⟩ : ByteArray), (⟨#[102, 114, 111, 109]⟩ : ByteArray), (⟨#[119, 104, 101, 114, 101]⟩ : ByteArray), (⟨#[115, 101, 108, 101, 99, 116]⟩ : ByteArray), (⟨#[97, 110, 100]⟩ : ByteArray), (⟨#[111, 114]⟩ : ByteArray), (⟨#[110, 111, 116]⟩ : ByteArray), (⟨#[108, 101, 110]⟩ : ByteArray), (⟨#[105, 110, 116]⟩ : ByteArray), (⟨#[116, 101, 120, 116]⟩ : ByteArray)] : List ByteArray))) = some r := h; clear h; obtain ⟨y119, hy119⟩ : ∃ y_ : List ByteArray, y_ = (([(⟨#[99, 114, 101, 97, 116, 101]⟩ : ByteArray), (⟨#[116, 97, 98, 108, 101]⟩ : ByteArray), (⟨#[105, 110, 115, 101, 114, 116]⟩ : ByteArray), (⟨#[105, 110, 116, 111]⟩ : ByteArray), (⟨#[118, 97, 108, 117, 101, 115]⟩ : ByteArray), (⟨#[117, 112, 100, 97, 116, 101]⟩ : ByteArray), (⟨#[115, 101, 116]⟩ : ByteArray), (⟨#[100, 101, 108, 101, 116, 101]⟩ : ByteArray), (⟨#[102, 114, 111, 109]⟩ : ByteArray), (⟨#[119, 104, 101, 114, 101]⟩ : ByteArray), (⟨#[115, 101, 108, 101, 99, 116]⟩ : ByteArray), (⟨#[97, 110, 100]⟩ : ByteArray), (⟨#[111, 114]⟩ : ByteArray), (⟨#[110, 111, 116]⟩ : ByteArray), (⟨#[108, 101, 110]⟩ : ByteArray), (⟨#[105, 110, 116]⟩ : ByteArray), (⟨#[116, 101, 120, 116]⟩ : ByteArray)] : List ByteArray)) := ⟨_, rfl⟩; (replace H : (some y119) = some r := by first | (rw [hy119]; with_reducible exact H) | (have H2_ := (Option.bind_some _ _).symm.trans H; rw [hy119]; with_reducible exact H2_) | (have H2_ := (Option.bind_some _ _).symm.trans H; with_reducible exact H2_) | with_reducible exact H | (rw [hy119]; exact H) | exact H); have Ny119 := Aside0.mk hy119; clear hy119; obtain rfl := Option.some.inj H; go_enter Tryd.func88, Tryd.ntmps88; go_wp2_with (first | ((with_reducible refine gds (N := 1) rfl ?_); refine Kd.R_lit Kd.string _ 9 ?hg (N := 1) ?hd (xs := ([(⟨#[99, 114, 101, 97, 116, 101]⟩ : ByteArray), (⟨#[116, 97, 98, 108, 101]⟩ : ByteArray), (⟨#[105, 110, 115, 101, 114, 116]⟩ : ByteArray), (⟨#[105, 110, 116, 111]⟩ : ByteArray), (⟨#[118, 97, 108, 117, 101, 115]⟩ : ByteArray), (⟨#[117, 112, 100, 97, 116, 101]⟩ : ByteArray), (⟨#[115, 101, 116]⟩ : ByteArray), (⟨#[100, 101, 108, 101, 116, 101]⟩ : ByteArray), (⟨#[102, 114, 111, 109]⟩ : ByteArray), (⟨#[119, 104, 101, 114, 101]⟩ : ByteArray), (⟨#[115, 101, 108, 101, 99, 116]⟩ : ByteArray), (⟨#[97, 110, 100]⟩ : ByteArray), (⟨#[111, 114]⟩ : ByteArray), (⟨#[110, 111, 116]⟩ : ByteArray), (⟨#[108, 101, 110]⟩ : ByteArray), (⟨#[105, 110, 116]⟩ : ByteArray), (⟨#[116, 101, 120, 116]⟩ : ByteArray)] : List ByteArray)) (inner := [.string (⟨#[99, 114, 101, 97, 116, 101]⟩ : ByteArray), .string (⟨#[116, 97, 98, 108, 101]⟩ : ByteArray), .string (⟨#[105, 110, 115, 101, 114, 116]⟩ : ByteArray), .string (⟨#[105, 110, 116, 111]⟩ : ByteArray), .string (⟨#[118, 97, 108, 117, 101, 115]⟩ : ByteArray), .string (⟨#[117, 112, 100, 97, 116, 101]⟩ : ByteArray), .string (⟨#[115, 101, 116]⟩ : ByteArray), .string (⟨#[100, 101, 108, 101, 116, 101]⟩ : ByteArray), .string (⟨#[102, 114, 111, 109]⟩ : ByteArray), .string (⟨#[119, 104, 101, 114, 101]⟩ : ByteArray), .string (⟨#[115, 101, 108, 101, 99, 116]⟩ : ByteArray), .string (⟨#[97, 110, 100]⟩ : ByteArray), .string (⟨#[111, 114]⟩ : ByteArray), .string (⟨#[110, 111, 116]⟩ : ByteArray), .string (⟨#[108, 101, 110]⟩ : ByteArray), .string (⟨#[105, 110, 116]⟩ : ByteArray), .string (⟨#[116, 101, 120, 116]⟩ : ByteArray)]) (ok := fun _ => True) (okp := fun _ => True) ?hr ?hp (fun _ hk => hk) trivial (Below.refl _ _) (Nat.le_refl _) (by simp) ?_; (case hd => rfl); (case hg => rfl); (case hr => first | (go_simp; done) | (go_simp; rfl)); (case hp => exact (Reps.one (show Kd.M Kd.string _ _ _ (⟨#[99, 114, 101, 97, 116, 101]⟩ : ByteArray) [.string (⟨#[99, 114, 101, 97, 116, 101]⟩ : ByteArray)] from rfl) (Reps.one (show Kd.M Kd.string _ _ _ (⟨#[116, 97, 98, 108, 101]⟩ : ByteArray) [.string (⟨#[116, 97, 98, 108, 101]⟩ : ByteArray)] from rfl) (Reps.one (show Kd.M Kd.string _ _ _ (⟨#[105, 110, 115, 101, 114, 116]⟩ : ByteArray) [.string (⟨#[105, 110, 115, 101, 114, 116]⟩ : ByteArray)] from rfl) (Reps.one (show Kd.M Kd.string _ _ _ (⟨#[105, 110, 116, 111]⟩ : ByteArray) [.string (⟨#[105, 110, 116, 111]⟩ : ByteArray)] from rfl) (Reps.one (show Kd.M Kd.string _ _ _ (⟨#[118, 97, 108, 117, 101, 115]⟩ : ByteArray) [.string (⟨#[118, 97, 108, 117, 101, 115]⟩ : ByteArray)] from rfl) (Reps.one (show Kd.M Kd.string _ _ _ (⟨#[117, 112, 100, 97, 116, 101]⟩ : ByteArray) [.string (⟨#[117, 112, 100, 97, 116, 101]⟩ : ByteArray)] from rfl) (Reps.one (show Kd.M Kd.string _ _ _ (⟨#[115, 101, 116]⟩ : ByteArray) [.string (⟨#[115, 101, 116]⟩ : ByteArray)] from rfl) (Reps.one (show Kd.M Kd.string _ _ _ (⟨#[100, 101, 108, 101, 116, 101]⟩ : ByteArray) [.string (⟨#[100, 101, 108, 101, 116, 101]⟩ : ByteArray)] from rfl) (Reps.one (show Kd.M Kd.string _ _ _ (⟨#[102, 114, 111, 109]⟩ : ByteArray) [.string (⟨#[102, 114, 111, 109]⟩ : ByteArray)] from rfl) (Reps.one (show Kd.M Kd.string _ _ _ (⟨#[119, 104, 101, 114, 101]⟩ : ByteArray) [.string (⟨#[119, 104, 101, 114, 101]⟩ : ByteArray)] from rfl) (Reps.one (show Kd.M Kd.string _ _ _ (⟨#[115, 101, 108, 101, 99, 116]⟩ : ByteArray) [.string (⟨#[115, 101, 108, 101, 99, 116]⟩ : ByteArray)] from rfl) (Reps.one (show Kd.M Kd.string _ _ _ (⟨#[97, 110, 100]⟩ : ByteArray) [.string (⟨#[97, 110, 100]⟩ : ByteArray)] from rfl) (Reps.one (show Kd.M Kd.string _ _ _ (⟨#[111, 114]⟩ : ByteArray) [.string (⟨#[111, 114]⟩ : ByteArray)] from rfl) (Reps.one (show Kd.M Kd.string _ _ _ (⟨#[110, 111, 116]⟩ : ByteArray) [.string (⟨#[110, 111, 116]⟩ : ByteArray)] from rfl) (Reps.one (show Kd.M Kd.string _ _ _ (⟨#[108, 101, 110]⟩ : ByteArray) [.string (⟨#[108, 101, 110]⟩ : ByteArray)] from rfl) (Reps.one (show Kd.M Kd.string _ _ _ (⟨#[105, 110, 116]⟩ : ByteArray) [.string (⟨#[105, 110, 116]⟩ : ByteArray)] from rfl) (Reps.one (show Kd.M Kd.string _ _ _ (⟨#[116, 101, 120, 116]⟩ : ByteArray) [.string (⟨#[116, 101, 120, 116]⟩ : ByteArray)] from rfl) (Reps.none _ _))))))))))))))))))); intro v120 w1 ho2 hb hg_ hnew_; clear hg_ hnew_; (first | rw [← Ny119.out] at ho2 | (simp only [Int.reduceToNat] at ho2; rw [← Ny119.out] at ho2)); have n0_ := Aside0.mk (Kd.Rlo ho2 (bsz (by repeat (first | (with_reducible first | exact HB.out | apply bal | apply pbd | apply bd1) | exact HB.out)))); have n1_ := Aside0.mk (bst (by repeat (first | (with_reducible first | exact HB.out | apply bal | apply pbd | apply bd1) | exact HB.out)) hb); have HO121 := n0_; replace HB := n1_; clear n0_ n1_; clear hb ho2)); go_ret; exact ⟨_, by first | rfl | (simp [eWn, eWs] <;> rfl) | (simp [*, eWn, eWs] <;> rfl), by (with_reducible repeat (first | apply Kd.Ral | apply Kd.RdN | apply Kd.Rdr)); exact HO121.out, by repeat (first | (with_reducible first | exact HB.out | apply bal | apply pbd | apply bd1) | exact HB.out)⟩
def spec_l4Inner.f (a0 : Int) : Option (Bool) := (spec_l4Letter.f a0).bind fun t122 => (if t122 = true then (some true) else (if a0 ≥ 48 then (if a0 ≤ 57 then (some true) else (some (a0 == 95))) else (some (a0 == 95))))
set_option maxHeartbeats 8000000 in
set_option maxRecDepth 100000 in
theorem spec_l4Inner.calls (a0 : Int) (r : Bool) (w : World) (h : spec_l4Inner.f a0 = some r) :
    Calls Tryd.prog 89 #[.int .u8 a0] w fun e w' => e = .returned (.bool r) ∧ Drawn0 w w' := by
  have H : ((spec_l4Letter.f a0).bind fun t122 => (if t122 = true then (some true) else (if a0 ≥ 48 then (if a0 ≤ 57 then (some true) else (some (a0 == 95))) else (some (a0 == 95))))) = some r := h; clear h; replace H := Option.bind_eq_some_iff.mp H; obtain ⟨t122, A20, H⟩ := H; replace H : (if t122 = true then (some true) else (if a0 ≥ 48 then (if a0 ≤ 57 then (some true) else (some (a0 == 95))) else (some (a0 == 95)))) = some r := H; have A2 := Aside0.mk A20; clear A20; by_cases c3 : t122 = true
  · subst c3; (have H1 : (some true) = some r := by rw [if_pos rfl] at H; exact H); clear H; have H := H1; clear H1; obtain rfl := Option.some.inj H; go_enter Tryd.func89, Tryd.ntmps89; go_wp2_with (first | ((with_reducible refine gcl (f := 86) rfl ?_); refine goesL_ (some 4) rfl rfl Tryd.func86 (by kernel_rfl) rfl #[.int .u8 a0] rfl (by (try simp only [List.map_toArray, List.map_cons, List.map_nil]); first | done | rfl | (simp only [List.length_drop, List.length_take]; rfl)) ?_; (with_reducible refine (spec_l4Letter.calls a0 true _ A2.out).mono ?_); rintro e w' ⟨rfl, ⟨nd, rfl⟩⟩; refine ⟨_, rfl, ?_⟩)); go_ret; exact ⟨by first | rfl | (simp; done) | (simp [*]; done), by repeat (first | exact Drawn0.refl _ | apply Drawn0.step)⟩
  · replace c3 := Bool.eq_false_iff.mpr c3; subst c3; (have H1 : (if a0 ≥ 48 then (if a0 ≤ 57 then (some true) else (some (a0 == 95))) else (some (a0 == 95))) = some r := by rw [if_neg (show ¬ (false = true) by decide)] at H; exact H); clear H; have H := H1; clear H1; by_cases c4 : a0 ≥ 48
    · rw [if_pos c4] at H; have c4b0 : decide (48 ≤ a0) = true := decide_eq_true c4; clear c4; by_cases c5 : a0 ≤ 57
      · rw [if_pos c5] at H; have c5b0 : decide (a0 ≤ 57) = true := decide_eq_true c5; clear c5; obtain rfl := Option.some.inj H; go_enter Tryd.func89, Tryd.ntmps89; go_wp2_with (first | ((with_reducible refine gcl (f := 86) rfl ?_); refine goesL_ (some 4) rfl rfl Tryd.func86 (by kernel_rfl) rfl #[.int .u8 a0] rfl (by (try simp only [List.map_toArray, List.map_cons, List.map_nil]); first | done | rfl | (simp only [List.length_drop, List.length_take]; rfl)) ?_; (with_reducible refine (spec_l4Letter.calls a0 false _ A2.out).mono ?_); rintro e w' ⟨rfl, ⟨nd, rfl⟩⟩; refine ⟨_, rfl, ?_⟩)); go_ret; exact ⟨by first | rfl | (simp; done) | (simp [*]; done), by repeat (first | exact Drawn0.refl _ | apply Drawn0.step)⟩
      · rw [if_neg c5] at H; have c5b0 : decide (a0 ≤ 57) = false := decide_eq_false c5; clear c5; obtain rfl := Option.some.inj H; go_enter Tryd.func89, Tryd.ntmps89; go_wp2_with (first | ((with_reducible refine gcl (f := 86) rfl ?_); refine goesL_ (some 4) rfl rfl Tryd.func86 (by kernel_rfl) rfl #[.int .u8 a0] rfl (by (try simp only [List.map_toArray, List.map_cons, List.map_nil]); first | done | rfl | (simp only [List.length_drop, List.length_take]; rfl)) ?_; (with_reducible refine (spec_l4Letter.calls a0 false _ A2.out).mono ?_); rintro e w' ⟨rfl, ⟨nd, rfl⟩⟩; refine ⟨_, rfl, ?_⟩)); go_ret; exact ⟨by first | rfl | (simp; done) | (simp [*]; done), by repeat (first | exact Drawn0.refl _ | apply Drawn0.step)⟩
    · rw [if_neg c4] at H; have c4b0 : decide (48 ≤ a0) = false := decide_eq_false c4; clear c4; obtain rfl := Option.some.inj H; go_enter Tryd.func89, Tryd.ntmps89; go_wp2_with (first | ((with_reducible refine gcl (f := 86) rfl ?_); refine goesL_ (some 4) rfl rfl Tryd.func86 (by kernel_rfl) rfl #[.int .u8 a0] rfl (by (try simp only [List.map_toArray, List.map_cons, List.map_nil]); first | done | rfl | (simp only [List.length_drop, List.length_take]; rfl)) ?_; (with_reducible refine (spec_l4Letter.calls a0 false _ A2.out).mono ?_); rintro e w' ⟨rfl, ⟨nd, rfl⟩⟩; refine ⟨_, rfl, ?_⟩)); go_ret; exact ⟨by first | rfl | (simp; done) | (simp [*]; done), by repeat (first | exact Drawn0.refl _ | apply Drawn0.step)⟩
mutual
def spec_l4Name.j0 : Nat → ByteArray → Bool → Option (Bool)
  | 0, _, _ => none
  | k + 1, x0, x18 => if x18 = true then (some false) else (spec_l4Name.l0 k x0 0)
def spec_l4Name.l0 : Nat → ByteArray → Int → Option (Bool)
  | 0, _, _ => none
  | k + 1, x0, x3 => if x3 < (x0.size : Int) then (if 0 ≤ x3 then ((spec_l4Inner.f (bt x0 x3)).bind fun t129 => (if t129 = true then (spec_l4Name.l0 k x0 (wrap64 (x3 + 1))) else (some false))) else (none)) else (some true)
end
def spec_l4Name.f (k : Nat) (a0 : ByteArray) : Option (Bool) := (spec_l1Between.f (a0.size : Int) 1 30).bind fun t123 => (if t123 = true then (if 0 < (a0.size : Int) then ((spec_l4Letter.f (bt a0 0)).bind fun t124 => (if t124 = true then ((spec_l4Keywords.f).bind fun t125 => ((spec_l4Has.f k t125 a0).bind fun t128 => (spec_l4Name.j0 k a0 t128))) else (spec_l4Name.j0 k a0 true))) else (none)) else (spec_l4Name.j0 k a0 true))
theorem spec_l4Name.mono_l : ∀ k, (∀ y0 y1, LeO (spec_l4Name.j0 k y0 y1) (spec_l4Name.j0 (k + 1) y0 y1)) ∧ (∀ y0 y1, LeO (spec_l4Name.l0 k y0 y1) (spec_l4Name.l0 (k + 1) y0 y1))
  | 0 => ⟨fun _ _ r h => by simp [spec_l4Name.j0] at h, fun _ _ r h => by simp [spec_l4Name.l0] at h⟩
  | k + 1 => by
    obtain ⟨ih0, ih1⟩ := spec_l4Name.mono_l k
    refine ⟨?_, ?_⟩
    · intro y0 y1
      unfold spec_l4Name.j0
      repeat' first
      | (with_reducible exact ih0 _ _)
      | (with_reducible exact ih1 _ _)
      | (with_reducible exact spec_l4Has.mono _ _ _)
      | (with_reducible exact LeO.refl _)
      | (with_reducible exact LeO.none _)
      | (with_reducible refine LeO.ite ?_ ?_)
      | (with_reducible refine LeO.bind ?_ (fun _ => ?_))
      | exact ih0 _ _
      | exact ih1 _ _
      | exact spec_l4Has.mono _ _ _
      | exact LeO.none _
      | refine LeO.ite ?_ ?_
      | refine LeO.bind ?_ (fun _ => ?_)
    · intro y0 y1
      unfold spec_l4Name.l0
      repeat' first
      | (with_reducible exact ih0 _ _)
      | (with_reducible exact ih1 _ _)
      | (with_reducible exact spec_l4Has.mono _ _ _)
      | (with_reducible exact LeO.refl _)
      | (with_reducible exact LeO.none _)
      | (with_reducible refine LeO.ite ?_ ?_)
      | (with_reducible refine LeO.bind ?_ (fun _ => ?_))
      | exact ih0 _ _
      | exact ih1 _ _
      | exact spec_l4Has.mono _ _ _
      | exact LeO.none _
      | refine LeO.ite ?_ ?_
      | refine LeO.bind ?_ (fun _ => ?_)
theorem spec_l4Name.mono : ∀ a0 k, LeO (spec_l4Name.f k a0) (spec_l4Name.f (k + 1) a0) := by
  intro a0 k
  obtain ⟨ih0, ih1⟩ := spec_l4Name.mono_l k
  unfold spec_l4Name.f
  repeat' first
      | (with_reducible exact ih0 _ _)
      | (with_reducible exact ih1 _ _)
      | (with_reducible exact spec_l4Has.mono _ _ _)
      | (with_reducible exact LeO.refl _)
      | (with_reducible exact LeO.none _)
      | (with_reducible refine LeO.ite ?_ ?_)
      | (with_reducible refine LeO.bind ?_ (fun _ => ?_))
      | exact ih0 _ _
      | exact ih1 _ _
      | exact spec_l4Has.mono _ _ _
      | exact LeO.none _
      | refine LeO.ite ?_ ?_
      | refine LeO.bind ?_ (fun _ => ?_)
set_option maxHeartbeats 8000000 in
set_option maxRecDepth 100000 in
theorem spec_l4Name.calls (k : Nat) (a0 : ByteArray) (r : Bool) (w : World) (h : spec_l4Name.f k a0 = some r) :
    Calls Tryd.prog 49 #[.string a0] w fun e w' => e = .returned (.bool r) ∧ Below w.heap.size w w' := by
  have HB := Aside0.mk (Below.refl w.heap.size w); have H : ((spec_l1Between.f (a0.size : Int) 1 30).bind fun t123 => (if t123 = true then (if 0 < (a0.size : Int) then ((spec_l4Letter.f (bt a0 0)).bind fun t124 => (if t124 = true then ((spec_l4Keywords.f).bind fun t125 => ((spec_l4Has.f k t125 a0).bind fun t128 => (spec_l4Name.j0 k a0 t128))) else (spec_l4Name.j0 k a0 true))) else (none)) else (spec_l4Name.j0 k a0 true))) = some r := h; clear h; have HC2 := Aside0.mk H; clear H; go_enter Tryd.func49, Tryd.ntmps49; go_upto_region 1 with (fail); go_cut [18] (fun v18 wc => ∃ (kq : Nat) (x18_1 : Bool), v18 = .bool x18_1 ∧ Aside0 (spec_l4Name.j0 kq a0 x18_1 = some r) ∧ Aside0 (kq ≤ k) ∧ Aside0 (Below w.heap.size w wc))
  case first =>
    have H := HC2.out; clear HC2; replace H := Option.bind_eq_some_iff.mp H; obtain ⟨t123, A30, H⟩ := H; replace H : (if t123 = true then (if 0 < (a0.size : Int) then ((spec_l4Letter.f (bt a0 0)).bind fun t124 => (if t124 = true then ((spec_l4Keywords.f).bind fun t125 => ((spec_l4Has.f k t125 a0).bind fun t128 => (spec_l4Name.j0 k a0 t128))) else (spec_l4Name.j0 k a0 true))) else (none)) else (spec_l4Name.j0 k a0 true)) = some r := H; have A3 := Aside0.mk A30; clear A30; by_cases c4 : t123 = true
    · subst c4; (have H1 : (if 0 < (a0.size : Int) then ((spec_l4Letter.f (bt a0 0)).bind fun t124 => (if t124 = true then ((spec_l4Keywords.f).bind fun t125 => ((spec_l4Has.f k t125 a0).bind fun t128 => (spec_l4Name.j0 k a0 t128))) else (spec_l4Name.j0 k a0 true))) else (none)) = some r := by rw [if_pos rfl] at H; exact H); clear H; have H := H1; clear H1; by_cases c5 : 0 < (a0.size : Int)
      · rw [if_pos c5] at H; have c5b0 : decide (0 < (a0.size : Int)) = true := decide_eq_true c5; have c5b1 : decide (0 < a0.size) = true := decide_eq_true (by omega); clear c5; (first | rw [c5b0] | (simp only [i64_w, i32_w]; rw [c5b0]) | skip); replace H := Option.bind_eq_some_iff.mp H; obtain ⟨t124, A70, H⟩ := H; replace H : (if t124 = true then ((spec_l4Keywords.f).bind fun t125 => ((spec_l4Has.f k t125 a0).bind fun t128 => (spec_l4Name.j0 k a0 t128))) else (spec_l4Name.j0 k a0 true)) = some r := H; have A7 := Aside0.mk A70; clear A70; by_cases c8 : t124 = true
        · subst c8; (have H1 : ((spec_l4Keywords.f).bind fun t125 => ((spec_l4Has.f k t125 a0).bind fun t128 => (spec_l4Name.j0 k a0 t128))) = some r := by rw [if_pos rfl] at H; exact H); clear H; have H := H1; clear H1; replace H := Option.bind_eq_some_iff.mp H; obtain ⟨t125, A90, H⟩ := H; replace H : ((spec_l4Has.f k t125 a0).bind fun t128 => (spec_l4Name.j0 k a0 t128)) = some r := H; have A9 := Aside0.mk A90; clear A90; replace H := Option.bind_eq_some_iff.mp H; obtain ⟨t128, A100, H⟩ := H; replace H : (spec_l4Name.j0 k a0 t128) = some r := H; have A10 := Aside0.mk A100; clear A100; have H' := Aside0.mk H; clear H; go_wp2_with (first | ((with_reducible refine gcl (f := 66) rfl ?_); refine goesL_ (some 6) rfl rfl Tryd.func66 (by kernel_rfl) rfl #[.int .i64 (a0.size : Int), .int .i64 1, .int .i64 30] rfl (by (try simp only [List.map_toArray, List.map_cons, List.map_nil]); first | done | rfl | (simp only [List.length_drop, List.length_take]; rfl)) ?_; (with_reducible refine (spec_l1Between.calls (a0.size : Int) 1 30 true _ A3.out).mono ?_); rintro e w' ⟨rfl, ⟨nd, rfl⟩⟩; refine ⟨_, rfl, ?_⟩; have p6 : 0 ≤ (0 : Int) := (by omega); have q6 : 0 < a0.size := (by have : (0 : Int) < (a0.size : Int) := of_decide_eq_true (by first | (with_reducible assumption) | assumption); omega); have hx6 : ∀ h : 0 < a0.size, ((a0[0]'h).toNat : Int) = bt a0 0 := bt_at a0 0; clear p6; have qi6 : (0 < (a0.size : Int)) = True := eq_true (of_decide_eq_true (by first | (with_reducible assumption) | assumption)); replace q6 := eq_true q6) | (go_at_call 86; (with_reducible refine (spec_l4Letter.calls (bt a0 0) true _ A7.out).mono ?_); rintro e w' ⟨rfl, ⟨nd, rfl⟩⟩) | (go_at_call 88; (with_reducible refine (spec_l4Keywords.calls  t125 _ A9.out).mono ?_); rintro e w11 ⟨v126, rfl, ho0, hb⟩; have n0_ := Aside0.mk (Kd.Rlo ho0 (bsz (by repeat (first | (with_reducible first | exact HB.out | apply bal | apply pbd | apply bd1) | exact HB.out)))); have n1_ := Aside0.mk (bst (by repeat (first | (with_reducible first | exact HB.out | apply bal | apply pbd | apply bd1) | exact HB.out)) hb); have HO127 := n0_; replace HB := n1_; clear n0_ n1_; (try clear hb); (try clear hb2); (try clear hk); (try clear hi); (try clear ho0); obtain ⟨Ao12, co12, eo12⟩ := Kd.R_slice HO127.out; subst eo12) | (go_at_call 87; (with_reducible refine (spec_l4Has.calls k _ _ t125 a0 t128 _ ?side1 ?side2 A10.out).mono ?_); (case side1 => repeat (first | exact (Kd.R_reads' HO127.out).2.2 | (with_reducible refine Kd.Cal ?_ _) | (with_reducible refine Kd.CdN ?_ _) | (with_reducible refine Kd.Cdr ?_))); (case side2 => exact (Kd.R_reads' HO127.out).2.1); rintro e w' ⟨rfl, ⟨nd, rfl⟩⟩)); go_meet
          case rel => exact ⟨_, (t128), (by first | rfl | (simp; done) | (simp [*]; done)), H', ⟨by first | omega | exact Nat.le_refl _⟩, ⟨by repeat (first | (with_reducible first | exact HB.out | apply bal | apply pbd | apply bd1) | exact HB.out)⟩⟩
        · replace c8 := Bool.eq_false_iff.mpr c8; subst c8; (have H1 : (spec_l4Name.j0 k a0 true) = some r := by rw [if_neg (show ¬ (false = true) by decide)] at H; exact H); clear H; have H := H1; clear H1; have H' := Aside0.mk H; clear H; go_wp2_with (first | ((with_reducible refine gcl (f := 66) rfl ?_); refine goesL_ (some 6) rfl rfl Tryd.func66 (by kernel_rfl) rfl #[.int .i64 (a0.size : Int), .int .i64 1, .int .i64 30] rfl (by (try simp only [List.map_toArray, List.map_cons, List.map_nil]); first | done | rfl | (simp only [List.length_drop, List.length_take]; rfl)) ?_; (with_reducible refine (spec_l1Between.calls (a0.size : Int) 1 30 true _ A3.out).mono ?_); rintro e w' ⟨rfl, ⟨nd, rfl⟩⟩; refine ⟨_, rfl, ?_⟩; have p6 : 0 ≤ (0 : Int) := (by omega); have q6 : 0 < a0.size := (by have : (0 : Int) < (a0.size : Int) := of_decide_eq_true (by first | (with_reducible assumption) | assumption); omega); have hx6 : ∀ h : 0 < a0.size, ((a0[0]'h).toNat : Int) = bt a0 0 := bt_at a0 0; clear p6; have qi6 : (0 < (a0.size : Int)) = True := eq_true (of_decide_eq_true (by first | (with_reducible assumption) | assumption)); replace q6 := eq_true q6) | (go_at_call 86; (with_reducible refine (spec_l4Letter.calls (bt a0 0) false _ A7.out).mono ?_); rintro e w' ⟨rfl, ⟨nd, rfl⟩⟩)); go_meet
          case rel => exact ⟨_, (true), (by first | rfl | (simp; done) | (simp [*]; done)), H', ⟨by first | omega | exact Nat.le_refl _⟩, ⟨by repeat (first | (with_reducible first | exact HB.out | apply bal | apply pbd | apply bd1) | exact HB.out)⟩⟩
      · rw [if_neg c5] at H; exact absurd H (by simp)
    · replace c4 := Bool.eq_false_iff.mpr c4; subst c4; (have H1 : (spec_l4Name.j0 k a0 true) = some r := by rw [if_neg (show ¬ (false = true) by decide)] at H; exact H); clear H; have H := H1; clear H1; have H' := Aside0.mk H; clear H; go_wp2_with (first | ((with_reducible refine gcl (f := 66) rfl ?_); refine goesL_ (some 6) rfl rfl Tryd.func66 (by kernel_rfl) rfl #[.int .i64 (a0.size : Int), .int .i64 1, .int .i64 30] rfl (by (try simp only [List.map_toArray, List.map_cons, List.map_nil]); first | done | rfl | (simp only [List.length_drop, List.length_take]; rfl)) ?_; (with_reducible refine (spec_l1Between.calls (a0.size : Int) 1 30 false _ A3.out).mono ?_); rintro e w' ⟨rfl, ⟨nd, rfl⟩⟩; refine ⟨_, rfl, ?_⟩)); go_meet
      case rel => exact ⟨_, (true), (by first | rfl | (simp; done) | (simp [*]; done)), H', ⟨by first | omega | exact Nat.le_refl _⟩, ⟨by repeat (first | (with_reducible first | exact HB.out | apply bal | apply pbd | apply bd1) | exact HB.out)⟩⟩
  case rest =>
    clear HC2; (try clear p2); (try clear c4); (try clear c5); (try clear c5b0); (try clear c5b1); (try clear c6); (try clear p6); (try clear q6); (try clear hx6); (try clear qi6); (try clear c8); (try clear p6); (try clear q6); obtain ⟨kq, x18_1, rfl, HA, HJ1, HB⟩ := hcut
    cases kq with
    | zero => exact absurd HA.out (by simp [spec_l4Name.j0])
    | succ kj1 =>
      have H := HA.out; clear HA; simp only [spec_l4Name.j0] at H; by_cases c13 : x18_1 = true
      · subst c13; (have H1 : (some false) = some r := by rw [if_pos rfl] at H; exact H); clear H; have H := H1; clear H1; obtain rfl := Option.some.inj H; go_wp2; go_ret; exact ⟨by first | rfl | (simp [eWn, eWs] <;> rfl) | (simp [*, eWn, eWs] <;> rfl), by repeat (first | (with_reducible first | exact HB.out | apply bal | apply pbd | apply bd1) | exact HB.out)⟩
      · replace c13 := Bool.eq_false_iff.mpr c13; subst c13; (have H1 : (spec_l4Name.l0 kj1 a0 0) = some r := by rw [if_neg (show ¬ (false = true) by decide)] at H; exact H); clear H; have H := H1; clear H1; have H' := Aside0.mk H; clear H; go_wp2; go_loopg [3] kj1 (fun kq v3 w' => ∃ (x3_2 : Int), v3 = .int .i64 x3_2 ∧ Aside0 (spec_l4Name.l0 kq a0 x3_2 = some r) ∧ Aside0 (kq ≤ kj1) ∧ Aside0 (Below w.heap.size w w'))
        case atStart => exact ⟨(0), (by first | rfl | (simp; done) | (simp [*]; done)), H', ⟨Nat.le_refl _⟩, ⟨by repeat (first | (with_reducible first | exact HB.out | apply bal | apply pbd | apply bd1) | exact HB.out)⟩⟩
        case round =>
          clear H'; (try clear c1); (try clear p2); (try clear c4); (try clear c5); (try clear c5b0); (try clear c5b1); (try clear c6); (try clear p6); (try clear q6); (try clear hx6); (try clear qi6); (try clear c8); (try clear c13); (try clear p2); (try clear p6); (try clear q6); obtain ⟨x3_2, rfl, HA, HK2, HB⟩ := hrel
          cases gk with
          | zero => exact absurd HA.out (by simp [spec_l4Name.l0])
          | succ k2 =>
            have H := HA.out; clear HA; simp only [spec_l4Name.l0] at H; by_cases c14 : x3_2 < (a0.size : Int)
            · rw [if_pos c14] at H; have c14b0 : decide (x3_2 < (a0.size : Int)) = true := decide_eq_true c14; clear c14; by_cases c15 : 0 ≤ x3_2
              · rw [if_pos c15] at H; have c15b0 : decide (0 ≤ x3_2) = true := decide_eq_true c15; clear c15; replace H := Option.bind_eq_some_iff.mp H; obtain ⟨t129, A170, H⟩ := H; replace H : (if t129 = true then (spec_l4Name.l0 k2 a0 (wrap64 (x3_2 + 1))) else (some false)) = some r := H; have A17 := Aside0.mk A170; clear A170; by_cases c18 : t129 = true
                · subst c18; (have H1 : (spec_l4Name.l0 k2 a0 (wrap64 (x3_2 + 1))) = some r := by rw [if_pos rfl] at H; exact H); clear H; have H := H1; clear H1; have H' := Aside0.mk H; clear H; have p16 : 0 ≤ (x3_2 : Int) := of_decide_eq_true (by first | (with_reducible assumption) | assumption); have q16 : x3_2 < (a0.size : Int) := of_decide_eq_true (by first | (with_reducible assumption) | assumption); have hx16 := bt_at a0 x3_2; replace p16 := eq_true p16; replace q16 := eq_true q16; go_wp2_with (first | ((with_reducible refine gcl (f := 89) rfl ?_); refine goesL_ (some 28) rfl rfl Tryd.func89 (by kernel_rfl) rfl #[.int .u8 (bt a0 x3_2)] rfl (by (try simp only [List.map_toArray, List.map_cons, List.map_nil]); first | done | rfl | (simp only [List.length_drop, List.length_take]; rfl)) ?_; (with_reducible refine (spec_l4Inner.calls (bt a0 x3_2) true _ A17.out).mono ?_); rintro e w' ⟨rfl, ⟨nd, rfl⟩⟩; refine ⟨_, rfl, ?_⟩)); go_roundg k2
                  case measure => have := HJ1.out; have := HK2.out; omega
                  case rel => exact ⟨(wrap64 (x3_2 + 1)), (by first | rfl | (simp; done) | (simp [*]; done)), H', ⟨by have := HJ1.out; have := HK2.out; omega⟩, ⟨by repeat (first | (with_reducible first | exact HB.out | apply bal | apply pbd | apply bd1) | exact HB.out)⟩⟩
                · replace c18 := Bool.eq_false_iff.mpr c18; subst c18; (have H1 : (some false) = some r := by rw [if_neg (show ¬ (false = true) by decide)] at H; exact H); clear H; have H := H1; clear H1; obtain rfl := Option.some.inj H; have p16 : 0 ≤ (x3_2 : Int) := of_decide_eq_true (by first | (with_reducible assumption) | assumption); have q16 : x3_2 < (a0.size : Int) := of_decide_eq_true (by first | (with_reducible assumption) | assumption); have hx16 := bt_at a0 x3_2; replace p16 := eq_true p16; replace q16 := eq_true q16; go_wp2_with (first | ((with_reducible refine gcl (f := 89) rfl ?_); refine goesL_ (some 28) rfl rfl Tryd.func89 (by kernel_rfl) rfl #[.int .u8 (bt a0 x3_2)] rfl (by (try simp only [List.map_toArray, List.map_cons, List.map_nil]); first | done | rfl | (simp only [List.length_drop, List.length_take]; rfl)) ?_; (with_reducible refine (spec_l4Inner.calls (bt a0 x3_2) false _ A17.out).mono ?_); rintro e w' ⟨rfl, ⟨nd, rfl⟩⟩; refine ⟨_, rfl, ?_⟩)); go_ret; exact ⟨by first | rfl | (simp [eWn, eWs] <;> rfl) | (simp [*, eWn, eWs] <;> rfl), by repeat (first | (with_reducible first | exact HB.out | apply bal | apply pbd | apply bd1) | exact HB.out)⟩
              · rw [if_neg c15] at H; exact absurd H (by simp)
            · rw [if_neg c14] at H; have c14b0 : decide (x3_2 < (a0.size : Int)) = false := decide_eq_false c14; clear c14; obtain rfl := Option.some.inj H; go_wp2; go_ret; exact ⟨by first | rfl | (simp [eWn, eWs] <;> rfl) | (simp [*, eWn, eWs] <;> rfl), by repeat (first | (with_reducible first | exact HB.out | apply bal | apply pbd | apply bd1) | exact HB.out)⟩
def spec_l4Type.f (a0 : Int) : Option (Bool) := if a0 = 1 then (some true) else (some (a0 == 2))
set_option maxHeartbeats 8000000 in
set_option maxRecDepth 100000 in
theorem spec_l4Type.calls (a0 : Int) (r : Bool) (w : World) (h : spec_l4Type.f a0 = some r) :
    Calls Tryd.prog 50 #[.int .i64 a0] w fun e w' => e = .returned (.bool r) ∧ Drawn0 w w' := by
  have H : (if a0 = 1 then (some true) else (some (a0 == 2))) = some r := h; clear h; by_cases c2 : a0 = 1
  · rw [if_pos c2] at H; have c2b0 : (a0 == 1) = true := beq_iff_eq.mpr c2; have c2b1 : (a0 != 1) = false := bne_eq_false_iff_eq.mpr c2; clear c2; obtain rfl := Option.some.inj H; go_enter Tryd.func50, Tryd.ntmps50; go_wp2; go_ret; exact ⟨by first | rfl | (simp; done) | (simp [*]; done), by repeat (first | exact Drawn0.refl _ | apply Drawn0.step)⟩
  · rw [if_neg c2] at H; have c2b0 : (a0 == 1) = false := beq_eq_false_iff_ne.mpr c2; have c2b1 : (a0 != 1) = true := bne_iff_ne.mpr c2; obtain rfl := Option.some.inj H; go_enter Tryd.func50, Tryd.ntmps50; go_wp2; go_ret; exact ⟨by first | rfl | (simp; done) | (simp [*]; done), by repeat (first | exact Drawn0.refl _ | apply Drawn0.step)⟩
def spec_l4Number.f (a0 : Int) : Option (Bool) := some (a0 != (-9223372036854775808))
set_option maxHeartbeats 8000000 in
set_option maxRecDepth 100000 in
theorem spec_l4Number.calls (a0 : Int) (r : Bool) (w : World) (h : spec_l4Number.f a0 = some r) :
    Calls Tryd.prog 90 #[.int .i64 a0] w fun e w' => e = .returned (.bool r) ∧ Drawn0 w w' := by
  have H : (some (a0 != (-9223372036854775808))) = some r := h; clear h; obtain rfl := Option.some.inj H; go_enter Tryd.func90, Tryd.ntmps90; go_wp2; go_ret; exact ⟨by first | rfl | (simp; done) | (simp [*]; done), by repeat (first | exact Drawn0.refl _ | apply Drawn0.step)⟩
def spec_l4Text.l0 : Nat → ByteArray → Int → Option (Bool)
  | 0, _, _ => none
  | k + 1, x0, x3 => if x3 < (x0.size : Int) then (if 0 ≤ x3 then ((spec_l1Between.f (wrap64 (bt x0 x3)) 32 126).bind fun t130 => (if t130 = true then (spec_l4Text.l0 k x0 (wrap64 (x3 + 1))) else (some false))) else (none)) else (some true)
def spec_l4Text.f (k : Nat) (a0 : ByteArray) : Option (Bool) := if (a0.size : Int) > 200 then (some false) else (spec_l4Text.l0 k a0 0)
theorem spec_l4Text.mono_l : ∀ k, (∀ y0 y1, LeO (spec_l4Text.l0 k y0 y1) (spec_l4Text.l0 (k + 1) y0 y1))
  | 0 => fun _ _ r h => by simp [spec_l4Text.l0] at h
  | k + 1 => by
    have ih0 := spec_l4Text.mono_l k
    · intro y0 y1
      unfold spec_l4Text.l0
      repeat' first
      | (with_reducible exact ih0 _ _)
      | (with_reducible exact LeO.refl _)
      | (with_reducible exact LeO.none _)
      | (with_reducible refine LeO.ite ?_ ?_)
      | (with_reducible refine LeO.bind ?_ (fun _ => ?_))
      | exact ih0 _ _
      | exact LeO.none _
      | refine LeO.ite ?_ ?_
      | refine LeO.bind ?_ (fun _ => ?_)
theorem spec_l4Text.mono : ∀ a0 k, LeO (spec_l4Text.f k a0) (spec_l4Text.f (k + 1) a0) := by
  intro a0 k
  have ih0 := spec_l4Text.mono_l k
  unfold spec_l4Text.f
  repeat' first
      | (with_reducible exact ih0 _ _)
      | (with_reducible exact LeO.refl _)
      | (with_reducible exact LeO.none _)
      | (with_reducible refine LeO.ite ?_ ?_)
      | (with_reducible refine LeO.bind ?_ (fun _ => ?_))
      | exact ih0 _ _
      | exact LeO.none _
      | refine LeO.ite ?_ ?_
      | refine LeO.bind ?_ (fun _ => ?_)
set_option maxHeartbeats 8000000 in
set_option maxRecDepth 100000 in
theorem spec_l4Text.calls (k : Nat) (a0 : ByteArray) (r : Bool) (w : World) (h : spec_l4Text.f k a0 = some r) :
    Calls Tryd.prog 91 #[.string a0] w fun e w' => e = .returned (.bool r) ∧ Drawn0 w w' := by
  have H : (if (a0.size : Int) > 200 then (some false) else (spec_l4Text.l0 k a0 0)) = some r := h; clear h; by_cases c2 : (a0.size : Int) > 200
  · rw [if_pos c2] at H; have c2b0 : decide (200 < (a0.size : Int)) = true := decide_eq_true c2; have c2b1 : decide (200 < a0.size) = true := decide_eq_true (by omega); clear c2; obtain rfl := Option.some.inj H; go_enter Tryd.func91, Tryd.ntmps91; go_wp2; go_ret; exact ⟨by first | rfl | (simp; done) | (simp [*]; done), by repeat (first | exact Drawn0.refl _ | apply Drawn0.step)⟩
  · rw [if_neg c2] at H; have c2b0 : decide (200 < (a0.size : Int)) = false := decide_eq_false c2; have c2b1 : decide (200 < a0.size) = false := decide_eq_false (by omega); clear c2; have H' := Aside0.mk H; clear H; go_enter Tryd.func91, Tryd.ntmps91; go_wp2; go_loopg [3] k (fun kq v3 w' => ∃ (x3_1 : Int), v3 = .int .i64 x3_1 ∧ Aside0 (spec_l4Text.l0 kq a0 x3_1 = some r) ∧ Aside0 (kq ≤ k) ∧ Drawn0 w w')
    case atStart => exact ⟨(0), (by first | rfl | (simp; done) | (simp [*]; done)), H', ⟨Nat.le_refl _⟩, by repeat (first | exact Drawn0.refl _ | apply Drawn0.step)⟩
    case round =>
      clear H'; (try clear c2); (try clear c2b0); (try clear c2b1); (try clear p2); obtain ⟨x3_1, rfl, HA, HK1, ⟨m1, rfl⟩⟩ := hrel
      cases gk with
      | zero => exact absurd HA.out (by simp [spec_l4Text.l0])
      | succ k1 =>
        have H := HA.out; clear HA; simp only [spec_l4Text.l0] at H; by_cases c3 : x3_1 < (a0.size : Int)
        · rw [if_pos c3] at H; have c3b0 : decide (x3_1 < (a0.size : Int)) = true := decide_eq_true c3; clear c3; by_cases c4 : 0 ≤ x3_1
          · rw [if_pos c4] at H; have c4b0 : decide (0 ≤ x3_1) = true := decide_eq_true c4; clear c4; replace H := Option.bind_eq_some_iff.mp H; obtain ⟨t130, A60, H⟩ := H; replace H : (if t130 = true then (spec_l4Text.l0 k1 a0 (wrap64 (x3_1 + 1))) else (some false)) = some r := H; have A6 := Aside0.mk A60; clear A60; by_cases c7 : t130 = true
            · subst c7; (have H1 : (spec_l4Text.l0 k1 a0 (wrap64 (x3_1 + 1))) = some r := by rw [if_pos rfl] at H; exact H); clear H; have H := H1; clear H1; have H' := Aside0.mk H; clear H; have p5 : 0 ≤ (x3_1 : Int) := of_decide_eq_true (by first | (with_reducible assumption) | assumption); have q5 : x3_1 < (a0.size : Int) := of_decide_eq_true (by first | (with_reducible assumption) | assumption); have hx5 := bt_at a0 x3_1; replace p5 := eq_true p5; replace q5 := eq_true q5; go_wp2_with (first | ((with_reducible refine gcl (f := 66) rfl ?_); refine goesL_ (some 17) rfl rfl Tryd.func66 (by kernel_rfl) rfl #[.int .i64 (wrap64 (bt a0 x3_1)), .int .i64 32, .int .i64 126] rfl (by (try simp only [List.map_toArray, List.map_cons, List.map_nil]); first | done | rfl | (simp only [List.length_drop, List.length_take]; rfl)) ?_; (with_reducible refine (spec_l1Between.calls (wrap64 (bt a0 x3_1)) 32 126 true _ A6.out).mono ?_); rintro e w' ⟨rfl, ⟨nd, rfl⟩⟩; refine ⟨_, rfl, ?_⟩)); go_roundg k1
              case measure => have := HK1.out; omega
              case rel => exact ⟨(wrap64 (x3_1 + 1)), (by first | rfl | (simp; done) | (simp [*]; done)), H', ⟨by have := HK1.out; omega⟩, by repeat (first | exact Drawn0.refl _ | apply Drawn0.step)⟩
            · replace c7 := Bool.eq_false_iff.mpr c7; subst c7; (have H1 : (some false) = some r := by rw [if_neg (show ¬ (false = true) by decide)] at H; exact H); clear H; have H := H1; clear H1; obtain rfl := Option.some.inj H; have p5 : 0 ≤ (x3_1 : Int) := of_decide_eq_true (by first | (with_reducible assumption) | assumption); have q5 : x3_1 < (a0.size : Int) := of_decide_eq_true (by first | (with_reducible assumption) | assumption); have hx5 := bt_at a0 x3_1; replace p5 := eq_true p5; replace q5 := eq_true q5; go_wp2_with (first | ((with_reducible refine gcl (f := 66) rfl ?_); refine goesL_ (some 17) rfl rfl Tryd.func66 (by kernel_rfl) rfl #[.int .i64 (wrap64 (bt a0 x3_1)), .int .i64 32, .int .i64 126] rfl (by (try simp only [List.map_toArray, List.map_cons, List.map_nil]); first | done | rfl | (simp only [List.length_drop, List.length_take]; rfl)) ?_; (with_reducible refine (spec_l1Between.calls (wrap64 (bt a0 x3_1)) 32 126 false _ A6.out).mono ?_); rintro e w' ⟨rfl, ⟨nd, rfl⟩⟩; refine ⟨_, rfl, ?_⟩)); go_ret; exact ⟨by first | rfl | (simp; done) | (simp [*]; done), by repeat (first | exact Drawn0.refl _ | apply Drawn0.step)⟩
          · rw [if_neg c4] at H; exact absurd H (by simp)
        · rw [if_neg c3] at H; have c3b0 : decide (x3_1 < (a0.size : Int)) = false := decide_eq_false c3; clear c3; obtain rfl := Option.some.inj H; go_wp2; go_ret; exact ⟨by first | rfl | (simp; done) | (simp [*]; done), by repeat (first | exact Drawn0.refl _ | apply Drawn0.step)⟩
def spec_l4Value.f (k : Nat) (a0_0 : Int) (a0_1 : Int) (a0_2 : ByteArray) : Option (Bool) := if a0_0 = 1 then ((spec_l4Number.f a0_1).bind fun t132 => (if t132 = true then (some (a0_2.toList == ([] : List UInt8))) else (some false))) else (if a0_0 = 2 then (if a0_1 = 0 then ((spec_l4Text.f k a0_2).bind fun t133 => (some t133)) else (some false)) else (some false))
theorem spec_l4Value.mono : ∀ a0 a1 a2 k, LeO (spec_l4Value.f k a0 a1 a2) (spec_l4Value.f (k + 1) a0 a1 a2) := by
  intro a0 a1 a2 k
  unfold spec_l4Value.f
  repeat' first
      | (with_reducible exact spec_l4Text.mono _ _)
      | (with_reducible exact LeO.refl _)
      | (with_reducible exact LeO.none _)
      | (with_reducible refine LeO.ite ?_ ?_)
      | (with_reducible refine LeO.bind ?_ (fun _ => ?_))
      | exact spec_l4Text.mono _ _
      | exact LeO.none _
      | refine LeO.ite ?_ ?_
      | refine LeO.bind ?_ (fun _ => ?_)
set_option maxHeartbeats 8000000 in
set_option maxRecDepth 100000 in
theorem spec_l4Value.calls (k : Nat) (a0_0 : Int) (a0_1 : Int) (a0_2 : ByteArray) (r : Bool) (w : World) (h : spec_l4Value.f k a0_0 a0_1 a0_2 = some r) :
    Calls Tryd.prog 51 #[.agg #[.int .i64 a0_0, .int .i64 a0_1, .string a0_2]] w fun e w' => e = .returned (.bool r) ∧ Below w.heap.size w w' := by
  have hu88 := Tryd.underlying88; have HB := Aside0.mk (Below.refl w.heap.size w); have H : (if a0_0 = 1 then ((spec_l4Number.f a0_1).bind fun t132 => (if t132 = true then (some (a0_2.toList == ([] : List UInt8))) else (some false))) else (if a0_0 = 2 then (if a0_1 = 0 then ((spec_l4Text.f k a0_2).bind fun t133 => (some t133)) else (some false)) else (some false))) = some r := h; clear h; by_cases c2 : a0_0 = 1
  · rw [if_pos c2] at H; have c2b0 : (a0_0 == 1) = true := beq_iff_eq.mpr c2; have c2b1 : (a0_0 != 1) = false := bne_eq_false_iff_eq.mpr c2; clear c2; replace H := Option.bind_eq_some_iff.mp H; obtain ⟨t132, A30, H⟩ := H; replace H : (if t132 = true then (some (a0_2.toList == ([] : List UInt8))) else (some false)) = some r := H; have A3 := Aside0.mk A30; clear A30; by_cases c4 : t132 = true
    · subst c4; (have H1 : (some (a0_2.toList == ([] : List UInt8))) = some r := by rw [if_pos rfl] at H; exact H); clear H; have H := H1; clear H1; obtain rfl := Option.some.inj H; go_enter Tryd.func51, Tryd.ntmps51; go_wp2_with (first | ((with_reducible refine gds (N := 1) rfl ?_); refine bxe ?hg (N := 1) ?hd (cs := #[.int .i64 a0_0, .int .i64 a0_1, .string a0_2]) (t := 88) ?hr ?_; (case hd => rfl); (case hg => rfl); (case hr => first | (go_simp; done) | (go_simp; rfl)); intro gb131 hg w5 hbox hb; have n0_ := Aside0.mk (bst (by repeat (first | (with_reducible first | exact HB.out | apply bal | apply pbd | apply bd1) | exact HB.out)) hb); have n1_ := Aside0.mk (hbox); have n2_ := Aside0.mk ((by rw [hg]; exact (bsz (by repeat (first | (with_reducible first | exact HB.out | apply bal | apply pbd | apply bd1) | exact HB.out))) : w.heap.size ≤ gb131)); have n3_ := Aside0.mk ((by rw [hg]; exact (bsz (by repeat (first | (with_reducible first | exact HB.out | apply bal | apply pbd | apply bd1) | exact HB.out))) : w.heap.size ≤ gb131)); replace HB := n0_; have BK131 := n1_; have GW131 := n2_; have GE131 := n3_; clear n0_ n1_ n2_ n3_; clear hb hbox hg; obtain ⟨hcz6_0, hcz6_1, hcz6_2⟩ := zC3 BK131.out; obtain ⟨hfz6_0, hfz6_1⟩ := zF2 BK131.out; have hfz6_2 := bfz BK131.out 2) | ((with_reducible refine gcl (f := 90) rfl ?_); refine goesL_ (some 8) rfl rfl Tryd.func90 (by kernel_rfl) rfl #[.int .i64 a0_1] rfl (by (try simp only [List.map_toArray, List.map_cons, List.map_nil]); first | done | rfl | (simp only [List.length_drop, List.length_take]; rfl)) ?_; (with_reducible refine (spec_l4Number.calls a0_1 true _ A3.out).mono ?_); rintro e w' ⟨rfl, ⟨nd, rfl⟩⟩; refine ⟨_, rfl, ?_⟩)); go_ret; exact ⟨by first | rfl | (simp [eWn, eWs] <;> rfl) | (simp [*, eWn, eWs] <;> rfl), by repeat (first | (with_reducible first | exact HB.out | apply bal | apply pbd | apply bd1 | refine bse ?_ GE131.out) | exact HB.out)⟩
    · replace c4 := Bool.eq_false_iff.mpr c4; subst c4; (have H1 : (some false) = some r := by rw [if_neg (show ¬ (false = true) by decide)] at H; exact H); clear H; have H := H1; clear H1; obtain rfl := Option.some.inj H; go_enter Tryd.func51, Tryd.ntmps51; go_wp2_with (first | ((with_reducible refine gds (N := 1) rfl ?_); refine bxe ?hg (N := 1) ?hd (cs := #[.int .i64 a0_0, .int .i64 a0_1, .string a0_2]) (t := 88) ?hr ?_; (case hd => rfl); (case hg => rfl); (case hr => first | (go_simp; done) | (go_simp; rfl)); intro gb131 hg w7 hbox hb; have n0_ := Aside0.mk (bst (by repeat (first | (with_reducible first | exact HB.out | apply bal | apply pbd | apply bd1) | exact HB.out)) hb); have n1_ := Aside0.mk (hbox); have n2_ := Aside0.mk ((by rw [hg]; exact (bsz (by repeat (first | (with_reducible first | exact HB.out | apply bal | apply pbd | apply bd1) | exact HB.out))) : w.heap.size ≤ gb131)); have n3_ := Aside0.mk ((by rw [hg]; exact (bsz (by repeat (first | (with_reducible first | exact HB.out | apply bal | apply pbd | apply bd1) | exact HB.out))) : w.heap.size ≤ gb131)); replace HB := n0_; have BK131 := n1_; have GW131 := n2_; have GE131 := n3_; clear n0_ n1_ n2_ n3_; clear hb hbox hg; obtain ⟨hcz8_0, hcz8_1, hcz8_2⟩ := zC3 BK131.out; obtain ⟨hfz8_0, hfz8_1⟩ := zF2 BK131.out; have hfz8_2 := bfz BK131.out 2) | ((with_reducible refine gcl (f := 90) rfl ?_); refine goesL_ (some 8) rfl rfl Tryd.func90 (by kernel_rfl) rfl #[.int .i64 a0_1] rfl (by (try simp only [List.map_toArray, List.map_cons, List.map_nil]); first | done | rfl | (simp only [List.length_drop, List.length_take]; rfl)) ?_; (with_reducible refine (spec_l4Number.calls a0_1 false _ A3.out).mono ?_); rintro e w' ⟨rfl, ⟨nd, rfl⟩⟩; refine ⟨_, rfl, ?_⟩)); go_ret; exact ⟨by first | rfl | (simp [eWn, eWs] <;> rfl) | (simp [*, eWn, eWs] <;> rfl), by repeat (first | (with_reducible first | exact HB.out | apply bal | apply pbd | apply bd1 | refine bse ?_ GE131.out) | exact HB.out)⟩
  · rw [if_neg c2] at H; have c2b0 : (a0_0 == 1) = false := beq_eq_false_iff_ne.mpr c2; have c2b1 : (a0_0 != 1) = true := bne_iff_ne.mpr c2; by_cases c9 : a0_0 = 2
    · rw [if_pos c9] at H; have c9b0 : (a0_0 == 2) = true := beq_iff_eq.mpr c9; have c9b1 : (a0_0 != 2) = false := bne_eq_false_iff_eq.mpr c9; clear c9; by_cases c10 : a0_1 = 0
      · rw [if_pos c10] at H; have c10b0 : (a0_1 == 0) = true := beq_iff_eq.mpr c10; have c10b1 : (a0_1 != 0) = false := bne_eq_false_iff_eq.mpr c10; clear c10; replace H := Option.bind_eq_some_iff.mp H; obtain ⟨t133, A110, H⟩ := H; replace H : (some t133) = some r := H; have A11 := Aside0.mk A110; clear A110; obtain rfl := Option.some.inj H; go_enter Tryd.func51, Tryd.ntmps51; go_wp2_with (first | ((with_reducible refine gds (N := 1) rfl ?_); refine bxe ?hg (N := 1) ?hd (cs := #[.int .i64 a0_0, .int .i64 a0_1, .string a0_2]) (t := 88) ?hr ?_; (case hd => rfl); (case hg => rfl); (case hr => first | (go_simp; done) | (go_simp; rfl)); intro gb131 hg w12 hbox hb; have n0_ := Aside0.mk (bst (by repeat (first | (with_reducible first | exact HB.out | apply bal | apply pbd | apply bd1) | exact HB.out)) hb); have n1_ := Aside0.mk (hbox); have n2_ := Aside0.mk ((by rw [hg]; exact (bsz (by repeat (first | (with_reducible first | exact HB.out | apply bal | apply pbd | apply bd1) | exact HB.out))) : w.heap.size ≤ gb131)); have n3_ := Aside0.mk ((by rw [hg]; exact (bsz (by repeat (first | (with_reducible first | exact HB.out | apply bal | apply pbd | apply bd1) | exact HB.out))) : w.heap.size ≤ gb131)); replace HB := n0_; have BK131 := n1_; have GW131 := n2_; have GE131 := n3_; clear n0_ n1_ n2_ n3_; clear hb hbox hg; obtain ⟨hcz13_0, hcz13_1, hcz13_2⟩ := zC3 BK131.out; obtain ⟨hfz13_0, hfz13_1⟩ := zF2 BK131.out; have hfz13_2 := bfz BK131.out 2) | (go_at_call 91; (with_reducible refine (spec_l4Text.calls k a0_2 t133 _ A11.out).mono ?_); rintro e w' ⟨rfl, ⟨nd, rfl⟩⟩)); go_ret; exact ⟨by first | rfl | (simp [eWn, eWs] <;> rfl) | (simp [*, eWn, eWs] <;> rfl), by repeat (first | (with_reducible first | exact HB.out | apply bal | apply pbd | apply bd1 | refine bse ?_ GE131.out) | exact HB.out)⟩
      · rw [if_neg c10] at H; have c10b0 : (a0_1 == 0) = false := beq_eq_false_iff_ne.mpr c10; have c10b1 : (a0_1 != 0) = true := bne_iff_ne.mpr c10; obtain rfl := Option.some.inj H; go_enter Tryd.func51, Tryd.ntmps51; go_wp2_with (first | ((with_reducible refine gds (N := 1) rfl ?_); refine bxe ?hg (N := 1) ?hd (cs := #[.int .i64 a0_0, .int .i64 a0_1, .string a0_2]) (t := 88) ?hr ?_; (case hd => rfl); (case hg => rfl); (case hr => first | (go_simp; done) | (go_simp; rfl)); intro gb131 hg w14 hbox hb; have n0_ := Aside0.mk (bst (by repeat (first | (with_reducible first | exact HB.out | apply bal | apply pbd | apply bd1) | exact HB.out)) hb); have n1_ := Aside0.mk (hbox); have n2_ := Aside0.mk ((by rw [hg]; exact (bsz (by repeat (first | (with_reducible first | exact HB.out | apply bal | apply pbd | apply bd1) | exact HB.out))) : w.heap.size ≤ gb131)); have n3_ := Aside0.mk ((by rw [hg]; exact (bsz (by repeat (first | (with_reducible first | exact HB.out | apply bal | apply pbd | apply bd1) | exact HB.out))) : w.heap.size ≤ gb131)); replace HB := n0_; have BK131 := n1_; have GW131 := n2_; have GE131 := n3_; clear n0_ n1_ n2_ n3_; clear hb hbox hg; obtain ⟨hcz15_0, hcz15_1, hcz15_2⟩ := zC3 BK131.out; obtain ⟨hfz15_0, hfz15_1⟩ := zF2 BK131.out; have hfz15_2 := bfz BK131.out 2)); go_ret; exact ⟨by first | rfl | (simp [eWn, eWs] <;> rfl) | (simp [*, eWn, eWs] <;> rfl), by repeat (first | (with_reducible first | exact HB.out | apply bal | apply pbd | apply bd1 | refine bse ?_ GE131.out) | exact HB.out)⟩
    · rw [if_neg c9] at H; have c9b0 : (a0_0 == 2) = false := beq_eq_false_iff_ne.mpr c9; have c9b1 : (a0_0 != 2) = true := bne_iff_ne.mpr c9; obtain rfl := Option.some.inj H; go_enter Tryd.func51, Tryd.ntmps51; go_wp2_with (first | ((with_reducible refine gds (N := 1) rfl ?_); refine bxe ?hg (N := 1) ?hd (cs := #[.int .i64 a0_0, .int .i64 a0_1, .string a0_2]) (t := 88) ?hr ?_; (case hd => rfl); (case hg => rfl); (case hr => first | (go_simp; done) | (go_simp; rfl)); intro gb131 hg w16 hbox hb; have n0_ := Aside0.mk (bst (by repeat (first | (with_reducible first | exact HB.out | apply bal | apply pbd | apply bd1) | exact HB.out)) hb); have n1_ := Aside0.mk (hbox); have n2_ := Aside0.mk ((by rw [hg]; exact (bsz (by repeat (first | (with_reducible first | exact HB.out | apply bal | apply pbd | apply bd1) | exact HB.out))) : w.heap.size ≤ gb131)); have n3_ := Aside0.mk ((by rw [hg]; exact (bsz (by repeat (first | (with_reducible first | exact HB.out | apply bal | apply pbd | apply bd1) | exact HB.out))) : w.heap.size ≤ gb131)); replace HB := n0_; have BK131 := n1_; have GW131 := n2_; have GE131 := n3_; clear n0_ n1_ n2_ n3_; clear hb hbox hg; obtain ⟨hcz17_0, hcz17_1, hcz17_2⟩ := zC3 BK131.out; obtain ⟨hfz17_0, hfz17_1⟩ := zF2 BK131.out; have hfz17_2 := bfz BK131.out 2)); go_ret; exact ⟨by first | rfl | (simp [eWn, eWs] <;> rfl) | (simp [*, eWn, eWs] <;> rfl), by repeat (first | (with_reducible first | exact HB.out | apply bal | apply pbd | apply bd1 | refine bse ?_ GE131.out) | exact HB.out)⟩
def spec_l4Item.f (k : Nat) (a0_0 : Int) (a0_1 : Int) (a0_2 : ByteArray) : Option (Bool) := if a0_0 = 1 then ((spec_l4Number.f a0_1).bind fun t135 => (if t135 = true then (some (a0_2.toList == ([] : List UInt8))) else (some false))) else (if a0_0 = 2 then (if a0_1 = 0 then ((spec_l4Text.f k a0_2).bind fun t136 => (some t136)) else (some false)) else (if a0_0 = 3 then (if a0_1 = 0 then ((spec_l4Name.f k a0_2).bind fun t137 => (some t137)) else (some false)) else ((spec_l1Between.f a0_0 4 13).bind fun t138 => (if t138 = true then (if a0_1 = 0 then (some (a0_2.toList == ([] : List UInt8))) else (some false)) else (some false)))))
theorem spec_l4Item.mono : ∀ a0 a1 a2 k, LeO (spec_l4Item.f k a0 a1 a2) (spec_l4Item.f (k + 1) a0 a1 a2) := by
  intro a0 a1 a2 k
  unfold spec_l4Item.f
  repeat' first
      | (with_reducible exact spec_l4Name.mono _ _)
      | (with_reducible exact spec_l4Text.mono _ _)
      | (with_reducible exact LeO.refl _)
      | (with_reducible exact LeO.none _)
      | (with_reducible refine LeO.ite ?_ ?_)
      | (with_reducible refine LeO.bind ?_ (fun _ => ?_))
      | exact spec_l4Name.mono _ _
      | exact spec_l4Text.mono _ _
      | exact LeO.none _
      | refine LeO.ite ?_ ?_
      | refine LeO.bind ?_ (fun _ => ?_)
set_option maxHeartbeats 8000000 in
set_option maxRecDepth 100000 in
theorem spec_l4Item.calls (k : Nat) (a0_0 : Int) (a0_1 : Int) (a0_2 : ByteArray) (r : Bool) (w : World) (h : spec_l4Item.f k a0_0 a0_1 a0_2 = some r) :
    Calls Tryd.prog 92 #[.agg #[.int .i64 a0_0, .int .i64 a0_1, .string a0_2]] w fun e w' => e = .returned (.bool r) ∧ Below w.heap.size w w' := by
  have hu127 := Tryd.underlying127; have HB := Aside0.mk (Below.refl w.heap.size w); have H : (if a0_0 = 1 then ((spec_l4Number.f a0_1).bind fun t135 => (if t135 = true then (some (a0_2.toList == ([] : List UInt8))) else (some false))) else (if a0_0 = 2 then (if a0_1 = 0 then ((spec_l4Text.f k a0_2).bind fun t136 => (some t136)) else (some false)) else (if a0_0 = 3 then (if a0_1 = 0 then ((spec_l4Name.f k a0_2).bind fun t137 => (some t137)) else (some false)) else ((spec_l1Between.f a0_0 4 13).bind fun t138 => (if t138 = true then (if a0_1 = 0 then (some (a0_2.toList == ([] : List UInt8))) else (some false)) else (some false)))))) = some r := h; clear h; by_cases c2 : a0_0 = 1
  · rw [if_pos c2] at H; have c2b0 : (a0_0 == 1) = true := beq_iff_eq.mpr c2; have c2b1 : (a0_0 != 1) = false := bne_eq_false_iff_eq.mpr c2; clear c2; replace H := Option.bind_eq_some_iff.mp H; obtain ⟨t135, A30, H⟩ := H; replace H : (if t135 = true then (some (a0_2.toList == ([] : List UInt8))) else (some false)) = some r := H; have A3 := Aside0.mk A30; clear A30; by_cases c4 : t135 = true
    · subst c4; (have H1 : (some (a0_2.toList == ([] : List UInt8))) = some r := by rw [if_pos rfl] at H; exact H); clear H; have H := H1; clear H1; obtain rfl := Option.some.inj H; go_enter Tryd.func92, Tryd.ntmps92; go_wp2_with (first | ((with_reducible refine gds (N := 1) rfl ?_); refine bxe ?hg (N := 1) ?hd (cs := #[.int .i64 a0_0, .int .i64 a0_1, .string a0_2]) (t := 127) ?hr ?_; (case hd => rfl); (case hg => rfl); (case hr => first | (go_simp; done) | (go_simp; rfl)); intro gb134 hg w5 hbox hb; have n0_ := Aside0.mk (bst (by repeat (first | (with_reducible first | exact HB.out | apply bal | apply pbd | apply bd1) | exact HB.out)) hb); have n1_ := Aside0.mk (hbox); have n2_ := Aside0.mk ((by rw [hg]; exact (bsz (by repeat (first | (with_reducible first | exact HB.out | apply bal | apply pbd | apply bd1) | exact HB.out))) : w.heap.size ≤ gb134)); have n3_ := Aside0.mk ((by rw [hg]; exact (bsz (by repeat (first | (with_reducible first | exact HB.out | apply bal | apply pbd | apply bd1) | exact HB.out))) : w.heap.size ≤ gb134)); replace HB := n0_; have BK134 := n1_; have GW134 := n2_; have GE134 := n3_; clear n0_ n1_ n2_ n3_; clear hb hbox hg; obtain ⟨hcz6_0, hcz6_1, hcz6_2⟩ := zC3 BK134.out; obtain ⟨hfz6_0, hfz6_1⟩ := zF2 BK134.out; have hfz6_2 := bfz BK134.out 2) | ((with_reducible refine gcl (f := 90) rfl ?_); refine goesL_ (some 9) rfl rfl Tryd.func90 (by kernel_rfl) rfl #[.int .i64 a0_1] rfl (by (try simp only [List.map_toArray, List.map_cons, List.map_nil]); first | done | rfl | (simp only [List.length_drop, List.length_take]; rfl)) ?_; (with_reducible refine (spec_l4Number.calls a0_1 true _ A3.out).mono ?_); rintro e w' ⟨rfl, ⟨nd, rfl⟩⟩; refine ⟨_, rfl, ?_⟩)); go_ret; exact ⟨by first | rfl | (simp [eWn, eWs] <;> rfl) | (simp [*, eWn, eWs] <;> rfl), by repeat (first | (with_reducible first | exact HB.out | apply bal | apply pbd | apply bd1 | refine bse ?_ GE134.out) | exact HB.out)⟩
    · replace c4 := Bool.eq_false_iff.mpr c4; subst c4; (have H1 : (some false) = some r := by rw [if_neg (show ¬ (false = true) by decide)] at H; exact H); clear H; have H := H1; clear H1; obtain rfl := Option.some.inj H; go_enter Tryd.func92, Tryd.ntmps92; go_wp2_with (first | ((with_reducible refine gds (N := 1) rfl ?_); refine bxe ?hg (N := 1) ?hd (cs := #[.int .i64 a0_0, .int .i64 a0_1, .string a0_2]) (t := 127) ?hr ?_; (case hd => rfl); (case hg => rfl); (case hr => first | (go_simp; done) | (go_simp; rfl)); intro gb134 hg w7 hbox hb; have n0_ := Aside0.mk (bst (by repeat (first | (with_reducible first | exact HB.out | apply bal | apply pbd | apply bd1) | exact HB.out)) hb); have n1_ := Aside0.mk (hbox); have n2_ := Aside0.mk ((by rw [hg]; exact (bsz (by repeat (first | (with_reducible first | exact HB.out | apply bal | apply pbd | apply bd1) | exact HB.out))) : w.heap.size ≤ gb134)); have n3_ := Aside0.mk ((by rw [hg]; exact (bsz (by repeat (first | (with_reducible first | exact HB.out | apply bal | apply pbd | apply bd1) | exact HB.out))) : w.heap.size ≤ gb134)); replace HB := n0_; have BK134 := n1_; have GW134 := n2_; have GE134 := n3_; clear n0_ n1_ n2_ n3_; clear hb hbox hg; obtain ⟨hcz8_0, hcz8_1, hcz8_2⟩ := zC3 BK134.out; obtain ⟨hfz8_0, hfz8_1⟩ := zF2 BK134.out; have hfz8_2 := bfz BK134.out 2) | ((with_reducible refine gcl (f := 90) rfl ?_); refine goesL_ (some 9) rfl rfl Tryd.func90 (by kernel_rfl) rfl #[.int .i64 a0_1] rfl (by (try simp only [List.map_toArray, List.map_cons, List.map_nil]); first | done | rfl | (simp only [List.length_drop, List.length_take]; rfl)) ?_; (with_reducible refine (spec_l4Number.calls a0_1 false _ A3.out).mono ?_); rintro e w' ⟨rfl, ⟨nd, rfl⟩⟩; refine ⟨_, rfl, ?_⟩)); go_ret; exact ⟨by first | rfl | (simp [eWn, eWs] <;> rfl) | (simp [*, eWn, eWs] <;> rfl), by repeat (first | (with_reducible first | exact HB.out | apply bal | apply pbd | apply bd1 | refine bse ?_ GE134.out) | exact HB.out)⟩
  · rw [if_neg c2] at H; have c2b0 : (a0_0 == 1) = false := beq_eq_false_iff_ne.mpr c2; have c2b1 : (a0_0 != 1) = true := bne_iff_ne.mpr c2; by_cases c9 : a0_0 = 2
    · rw [if_pos c9] at H; have c9b0 : (a0_0 == 2) = true := beq_iff_eq.mpr c9; have c9b1 : (a0_0 != 2) = false := bne_eq_false_iff_eq.mpr c9; clear c9; by_cases c10 : a0_1 = 0
      · rw [if_pos c10] at H; have c10b0 : (a0_1 == 0) = true := beq_iff_eq.mpr c10; have c10b1 : (a0_1 != 0) = false := bne_eq_false_iff_eq.mpr c10; clear c10; replace H := Option.bind_eq_some_iff.mp H; obtain ⟨t136, A110, H⟩ := H; replace H : (some t136) = some r := H; have A11 := Aside0.mk A110; clear A110; obtain rfl := Option.some.inj H; go_enter Tryd.func92, Tryd.ntmps92; go_wp2_with (first | ((with_reducible refine gds (N := 1) rfl ?_); refine bxe ?hg (N := 1) ?hd (cs := #[.int .i64 a0_0, .int .i64 a0_1, .string a0_2]) (t := 127) ?hr ?_; (case hd => rfl); (case hg => rfl); (case hr => first | (go_simp; done) | (go_simp; rfl)); intro gb134 hg w12 hbox hb; have n0_ := Aside0.mk (bst (by repeat (first | (with_reducible first | exact HB.out | apply bal | apply pbd | apply bd1) | exact HB.out)) hb); have n1_ := Aside0.mk (hbox); have n2_ := Aside0.mk ((by rw [hg]; exact (bsz (by repeat (first | (with_reducible first | exact HB.out | apply bal | apply pbd | apply bd1) | exact HB.out))) : w.heap.size ≤ gb134)); have n3_ := Aside0.mk ((by rw [hg]; exact (bsz (by repeat (first | (with_reducible first | exact HB.out | apply bal | apply pbd | apply bd1) | exact HB.out))) : w.heap.size ≤ gb134)); replace HB := n0_; have BK134 := n1_; have GW134 := n2_; have GE134 := n3_; clear n0_ n1_ n2_ n3_; clear hb hbox hg; obtain ⟨hcz13_0, hcz13_1, hcz13_2⟩ := zC3 BK134.out; obtain ⟨hfz13_0, hfz13_1⟩ := zF2 BK134.out; have hfz13_2 := bfz BK134.out 2) | (go_at_call 91; (with_reducible refine (spec_l4Text.calls k a0_2 t136 _ A11.out).mono ?_); rintro e w' ⟨rfl, ⟨nd, rfl⟩⟩)); go_ret; exact ⟨by first | rfl | (simp [eWn, eWs] <;> rfl) | (simp [*, eWn, eWs] <;> rfl), by repeat (first | (with_reducible first | exact HB.out | apply bal | apply pbd | apply bd1 | refine bse ?_ GE134.out) | exact HB.out)⟩
      · rw [if_neg c10] at H; have c10b0 : (a0_1 == 0) = false := beq_eq_false_iff_ne.mpr c10; have c10b1 : (a0_1 != 0) = true := bne_iff_ne.mpr c10; obtain rfl := Option.some.inj H; go_enter Tryd.func92, Tryd.ntmps92; go_wp2_with (first | ((with_reducible refine gds (N := 1) rfl ?_); refine bxe ?hg (N := 1) ?hd (cs := #[.int .i64 a0_0, .int .i64 a0_1, .string a0_2]) (t := 127) ?hr ?_; (case hd => rfl); (case hg => rfl); (case hr => first | (go_simp; done) | (go_simp; rfl)); intro gb134 hg w14 hbox hb; have n0_ := Aside0.mk (bst (by repeat (first | (with_reducible first | exact HB.out | apply bal | apply pbd | apply bd1) | exact HB.out)) hb); have n1_ := Aside0.mk (hbox); have n2_ := Aside0.mk ((by rw [hg]; exact (bsz (by repeat (first | (with_reducible first | exact HB.out | apply bal | apply pbd | apply bd1) | exact HB.out))) : w.heap.size ≤ gb134)); have n3_ := Aside0.mk ((by rw [hg]; exact (bsz (by repeat (first | (with_reducible first | exact HB.out | apply bal | apply pbd | apply bd1) | exact HB.out))) : w.heap.size ≤ gb134)); replace HB := n0_; have BK134 := n1_; have GW134 := n2_; have GE134 := n3_; clear n0_ n1_ n2_ n3_; clear hb hbox hg; obtain ⟨hcz15_0, hcz15_1, hcz15_2⟩ := zC3 BK134.out; obtain ⟨hfz15_0, hfz15_1⟩ := zF2 BK134.out; have hfz15_2 := bfz BK134.out 2)); go_ret; exact ⟨by first | rfl | (simp [eWn, eWs] <;> rfl) | (simp [*, eWn, eWs] <;> rfl), by repeat (first | (with_reducible first | exact HB.out | apply bal | apply pbd | apply bd1 | refine bse ?_ GE134.out) | exact HB.out)⟩
    · rw [if_neg c9] at H; have c9b0 : (a0_0 == 2) = false := beq_eq_false_iff_ne.mpr c9; have c9b1 : (a0_0 != 2) = true := bne_iff_ne.mpr c9; by_cases c16 : a0_0 = 3
      · rw [if_pos c16] at H; have c16b0 : (a0_0 == 3) = true := beq_iff_eq.mpr c16; have c16b1 : (a0_0 != 3) = false := bne_eq_false_iff_eq.mpr c16; clear c16; by_cases c17 : a0_1 = 0
        · rw [if_pos c17] at H; have c17b0 : (a0_1 == 0) = true := beq_iff_eq.mpr c17; have c17b1 : (a0_1 != 0) = false := bne_eq_false_iff_eq.mpr c17; clear c17; replace H := Option.bind_eq_some_iff.mp H; obtain ⟨t137, A180, H⟩ := H; replace H : (some t137) = some r := H; have A18 := Aside0.mk A180; clear A180; obtain rfl := Option.some.inj H; go_enter Tryd.func92, Tryd.ntmps92; go_wp2_with (first | ((with_reducible refine gds (N := 1) rfl ?_); refine bxe ?hg (N := 1) ?hd (cs := #[.int .i64 a0_0, .int .i64 a0_1, .string a0_2]) (t := 127) ?hr ?_; (case hd => rfl); (case hg => rfl); (case hr => first | (go_simp; done) | (go_simp; rfl)); intro gb134 hg w19 hbox hb; have n0_ := Aside0.mk (bst (by repeat (first | (with_reducible first | exact HB.out | apply bal | apply pbd | apply bd1) | exact HB.out)) hb); have n1_ := Aside0.mk (hbox); have n2_ := Aside0.mk ((by rw [hg]; exact (bsz (by repeat (first | (with_reducible first | exact HB.out | apply bal | apply pbd | apply bd1) | exact HB.out))) : w.heap.size ≤ gb134)); have n3_ := Aside0.mk ((by rw [hg]; exact (bsz (by repeat (first | (with_reducible first | exact HB.out | apply bal | apply pbd | apply bd1) | exact HB.out))) : w.heap.size ≤ gb134)); replace HB := n0_; have BK134 := n1_; have GW134 := n2_; have GE134 := n3_; clear n0_ n1_ n2_ n3_; clear hb hbox hg; obtain ⟨hcz20_0, hcz20_1, hcz20_2⟩ := zC3 BK134.out; obtain ⟨hfz20_0, hfz20_1⟩ := zF2 BK134.out; have hfz20_2 := bfz BK134.out 2) | (go_at_call 49; (with_reducible refine (spec_l4Name.calls k a0_2 t137 _ A18.out).mono ?_); rintro e w21 ⟨rfl, hb⟩; have n0_ := Aside0.mk (bbe (g := gb134) (o := .cells #[.int .i64 a0_0, .int .i64 a0_1, .string a0_2] 127 (0, 0)) (by (with_reducible repeat (first | refine bdN ?_ _ | refine bkD ?_ | refine bkA ?_ _)); exact BK134.out) hb); have n1_ := Aside0.mk (bst (by repeat (first | (with_reducible first | exact HB.out | apply bal | apply pbd | apply bd1 | refine bse ?_ GE134.out) | exact HB.out)) hb); replace BK134 := n0_; replace HB := n1_; clear n0_ n1_; (try clear hb); (try clear hb2); (try clear hk); (try clear hi))); go_ret; exact ⟨by first | rfl | (simp [eWn, eWs] <;> rfl) | (simp [*, eWn, eWs] <;> rfl), by repeat (first | (with_reducible first | exact HB.out | apply bal | apply pbd | apply bd1 | refine bse ?_ GE134.out) | exact HB.out)⟩
        · rw [if_neg c17] at H; have c17b0 : (a0_1 == 0) = false := beq_eq_false_iff_ne.mpr c17; have c17b1 : (a0_1 != 0) = true := bne_iff_ne.mpr c17; obtain rfl := Option.some.inj H; go_enter Tryd.func92, Tryd.ntmps92; go_wp2_with (first | ((with_reducible refine gds (N := 1) rfl ?_); refine bxe ?hg (N := 1) ?hd (cs := #[.int .i64 a0_0, .int .i64 a0_1, .string a0_2]) (t := 127) ?hr ?_; (case hd => rfl); (case hg => rfl); (case hr => first | (go_simp; done) | (go_simp; rfl)); intro gb134 hg w22 hbox hb; have n0_ := Aside0.mk (bst (by repeat (first | (with_reducible first | exact HB.out | apply bal | apply pbd | apply bd1) | exact HB.out)) hb); have n1_ := Aside0.mk (hbox); have n2_ := Aside0.mk ((by rw [hg]; exact (bsz (by repeat (first | (with_reducible first | exact HB.out | apply bal | apply pbd | apply bd1) | exact HB.out))) : w.heap.size ≤ gb134)); have n3_ := Aside0.mk ((by rw [hg]; exact (bsz (by repeat (first | (with_reducible first | exact HB.out | apply bal | apply pbd | apply bd1) | exact HB.out))) : w.heap.size ≤ gb134)); replace HB := n0_; have BK134 := n1_; have GW134 := n2_; have GE134 := n3_; clear n0_ n1_ n2_ n3_; clear hb hbox hg; obtain ⟨hcz23_0, hcz23_1, hcz23_2⟩ := zC3 BK134.out; obtain ⟨hfz23_0, hfz23_1⟩ := zF2 BK134.out; have hfz23_2 := bfz BK134.out 2)); go_ret; exact ⟨by first | rfl | (simp [eWn, eWs] <;> rfl) | (simp [*, eWn, eWs] <;> rfl), by repeat (first | (with_reducible first | exact HB.out | apply bal | apply pbd | apply bd1 | refine bse ?_ GE134.out) | exact HB.out)⟩
      · rw [if_neg c16] at H; have c16b0 : (a0_0 == 3) = false := beq_eq_false_iff_ne.mpr c16; have c16b1 : (a0_0 != 3) = true := bne_iff_ne.mpr c16; replace H := Option.bind_eq_some_iff.mp H; obtain ⟨t138, A240, H⟩ := H; replace H : (if t138 = true then (if a0_1 = 0 then (some (a0_2.toList == ([] : List UInt8))) else (some false)) else (some false)) = some r := H; have A24 := Aside0.mk A240; clear A240; by_cases c25 : t138 = true
        · subst c25; (have H1 : (if a0_1 = 0 then (some (a0_2.toList == ([] : List UInt8))) else (some false)) = some r := by rw [if_pos rfl] at H; exact H); clear H; have H := H1; clear H1; by_cases c26 : a0_1 = 0
          · rw [if_pos c26] at H; have c26b0 : (a0_1 == 0) = true := beq_iff_eq.mpr c26; have c26b1 : (a0_1 != 0) = false := bne_eq_false_iff_eq.mpr c26; clear c26; obtain rfl := Option.some.inj H; go_enter Tryd.func92, Tryd.ntmps92; go_wp2_with (first | ((with_reducible refine gds (N := 1) rfl ?_); refine bxe ?hg (N := 1) ?hd (cs := #[.int .i64 a0_0, .int .i64 a0_1, .string a0_2]) (t := 127) ?hr ?_; (case hd => rfl); (case hg => rfl); (case hr => first | (go_simp; done) | (go_simp; rfl)); intro gb134 hg w27 hbox hb; have n0_ := Aside0.mk (bst (by repeat (first | (with_reducible first | exact HB.out | apply bal | apply pbd | apply bd1) | exact HB.out)) hb); have n1_ := Aside0.mk (hbox); have n2_ := Aside0.mk ((by rw [hg]; exact (bsz (by repeat (first | (with_reducible first | exact HB.out | apply bal | apply pbd | apply bd1) | exact HB.out))) : w.heap.size ≤ gb134)); have n3_ := Aside0.mk ((by rw [hg]; exact (bsz (by repeat (first | (with_reducible first | exact HB.out | apply bal | apply pbd | apply bd1) | exact HB.out))) : w.heap.size ≤ gb134)); replace HB := n0_; have BK134 := n1_; have GW134 := n2_; have GE134 := n3_; clear n0_ n1_ n2_ n3_; clear hb hbox hg; obtain ⟨hcz28_0, hcz28_1, hcz28_2⟩ := zC3 BK134.out; obtain ⟨hfz28_0, hfz28_1⟩ := zF2 BK134.out; have hfz28_2 := bfz BK134.out 2) | ((with_reducible refine gcl (f := 66) rfl ?_); refine goesL_ (some 37) rfl rfl Tryd.func66 (by kernel_rfl) rfl #[.int .i64 a0_0, .int .i64 4, .int .i64 13] rfl (by (try simp only [List.map_toArray, List.map_cons, List.map_nil]); first | done | rfl | (simp only [List.length_drop, List.length_take]; rfl)) ?_; (with_reducible refine (spec_l1Between.calls a0_0 4 13 true _ A24.out).mono ?_); rintro e w' ⟨rfl, ⟨nd, rfl⟩⟩; refine ⟨_, rfl, ?_⟩)); go_ret; exact ⟨by first | rfl | (simp [eWn, eWs] <;> rfl) | (simp [*, eWn, eWs] <;> rfl), by repeat (first | (with_reducible first | exact HB.out | apply bal | apply pbd | apply bd1 | refine bse ?_ GE134.out) | exact HB.out)⟩
          · rw [if_neg c26] at H; have c26b0 : (a0_1 == 0) = false := beq_eq_false_iff_ne.mpr c26; have c26b1 : (a0_1 != 0) = true := bne_iff_ne.mpr c26; obtain rfl := Option.some.inj H; go_enter Tryd.func92, Tryd.ntmps92; go_wp2_with (first | ((with_reducible refine gds (N := 1) rfl ?_); refine bxe ?hg (N := 1) ?hd (cs := #[.int .i64 a0_0, .int .i64 a0_1, .string a0_2]) (t := 127) ?hr ?_; (case hd => rfl); (case hg => rfl); (case hr => first | (go_simp; done) | (go_simp; rfl)); intro gb134 hg w29 hbox hb; have n0_ := Aside0.mk (bst (by repeat (first | (with_reducible first | exact HB.out | apply bal | apply pbd | apply bd1) | exact HB.out)) hb); have n1_ := Aside0.mk (hbox); have n2_ := Aside0.mk ((by rw [hg]; exact (bsz (by repeat (first | (with_reducible first | exact HB.out | apply bal | apply pbd | apply bd1) | exact HB.out))) : w.heap.size ≤ gb134)); have n3_ := Aside0.mk ((by rw [hg]; exact (bsz (by repeat (first | (with_reducible first | exact HB.out | apply bal | apply pbd | apply bd1) | exact HB.out))) : w.heap.size ≤ gb134)); replace HB := n0_; have BK134 := n1_; have GW134 := n2_; have GE134 := n3_; clear n0_ n1_ n2_ n3_; clear hb hbox hg; obtain ⟨hcz30_0, hcz30_1, hcz30_2⟩ := zC3 BK134.out; obtain ⟨hfz30_0, hfz30_1⟩ := zF2 BK134.out; have hfz30_2 := bfz BK134.out 2) | ((with_reducible refine gcl (f := 66) rfl ?_); refine goesL_ (some 37) rfl rfl Tryd.func66 (by kernel_rfl) rfl #[.int .i64 a0_0, .int .i64 4, .int .i64 13] rfl (by (try simp only [List.map_toArray, List.map_cons, List.map_nil]); first | done | rfl | (simp only [List.length_drop, List.length_take]; rfl)) ?_; (with_reducible refine (spec_l1Between.calls a0_0 4 13 true _ A24.out).mono ?_); rintro e w' ⟨rfl, ⟨nd, rfl⟩⟩; refine ⟨_, rfl, ?_⟩)); go_ret; exact ⟨by first | rfl | (simp [eWn, eWs] <;> rfl) | (simp [*, eWn, eWs] <;> rfl), by repeat (first | (with_reducible first | exact HB.out | apply bal | apply pbd | apply bd1 | refine bse ?_ GE134.out) | exact HB.out)⟩
        · replace c25 := Bool.eq_false_iff.mpr c25; subst c25; (have H1 : (some false) = some r := by rw [if_neg (show ¬ (false = true) by decide)] at H; exact H); clear H; have H := H1; clear H1; obtain rfl := Option.some.inj H; go_enter Tryd.func92, Tryd.ntmps92; go_wp2_with (first | ((with_reducible refine gds (N := 1) rfl ?_); refine bxe ?hg (N := 1) ?hd (cs := #[.int .i64 a0_0, .int .i64 a0_1, .string a0_2]) (t := 127) ?hr ?_; (case hd => rfl); (case hg => rfl); (case hr => first | (go_simp; done) | (go_simp; rfl)); intro gb134 hg w31 hbox hb; have n0_ := Aside0.mk (bst (by repeat (first | (with_reducible first | exact HB.out | apply bal | apply pbd | apply bd1) | exact HB.out)) hb); have n1_ := Aside0.mk (hbox); have n2_ := Aside0.mk ((by rw [hg]; exact (bsz (by repeat (first | (with_reducible first | exact HB.out | apply bal | apply pbd | apply bd1) | exact HB.out))) : w.heap.size ≤ gb134)); have n3_ := Aside0.mk ((by rw [hg]; exact (bsz (by repeat (first | (with_reducible first | exact HB.out | apply bal | apply pbd | apply bd1) | exact HB.out))) : w.heap.size ≤ gb134)); replace HB := n0_; have BK134 := n1_; have GW134 := n2_; have GE134 := n3_; clear n0_ n1_ n2_ n3_; clear hb hbox hg; obtain ⟨hcz32_0, hcz32_1, hcz32_2⟩ := zC3 BK134.out; obtain ⟨hfz32_0, hfz32_1⟩ := zF2 BK134.out; have hfz32_2 := bfz BK134.out 2) | ((with_reducible refine gcl (f := 66) rfl ?_); refine goesL_ (some 37) rfl rfl Tryd.func66 (by kernel_rfl) rfl #[.int .i64 a0_0, .int .i64 4, .int .i64 13] rfl (by (try simp only [List.map_toArray, List.map_cons, List.map_nil]); first | done | rfl | (simp only [List.length_drop, List.length_take]; rfl)) ?_; (with_reducible refine (spec_l1Between.calls a0_0 4 13 false _ A24.out).mono ?_); rintro e w' ⟨rfl, ⟨nd, rfl⟩⟩; refine ⟨_, rfl, ?_⟩)); go_ret; exact ⟨by first | rfl | (simp [eWn, eWs] <;> rfl) | (simp [*, eWn, eWs] <;> rfl), by repeat (first | (with_reducible first | exact HB.out | apply bal | apply pbd | apply bd1 | refine bse ?_ GE134.out) | exact HB.out)⟩
end Go.Proofs.YtmchcoafkaggkaaDoor.L
end
section
namespace Go.Proofs.YtmchcoafkaggkaaDoor.L
open Go.RowKit Go.Proofs.YtmchcoafkaggkaaDoorW.PrintWords Go.Proofs.YtmchcoafkaggkaaDoorW.PrintLast Go.Proofs.YtmchcoafkaggkaaDoorW.PrintMore
attribute [local go_sem] max2_int min2_int max_two min_two max_three min_three max_four min_four
set_option linter.unusedVariables false
set_option linter.unusedSimpArgs false
def spec_l4Arity.f (a0 : Int) : Option (Int) := if a0 ≤ 3 then (some 0) else (if a0 = 11 then (some 1) else (if a0 = 13 then (some 1) else (some 2)))
set_option maxHeartbeats 8000000 in
set_option maxRecDepth 100000 in
theorem spec_l4Arity.calls (a0 : Int) (r : Int) (w : World) (h : spec_l4Arity.f a0 = some r) :
    Calls Tryd.prog 93 #[.int .i64 a0] w fun e w' => e = .returned (.int .i64 r) ∧ Drawn0 w w' := by
  have H : (if a0 ≤ 3 then (some 0) else (if a0 = 11 then (some 1) else (if a0 = 13 then (some 1) else (some 2)))) = some r := h; clear h; by_cases c2 : a0 ≤ 3
  · rw [if_pos c2] at H; have c2b0 : decide (a0 ≤ 3) = true := decide_eq_true c2; clear c2; obtain rfl := Option.some.inj H; go_enter Tryd.func93, Tryd.ntmps93; go_wp2; go_ret; exact ⟨by first | rfl | (simp; done) | (simp [*]; done), by repeat (first | exact Drawn0.refl _ | apply Drawn0.step)⟩
  · rw [if_neg c2] at H; have c2b0 : decide (a0 ≤ 3) = false := decide_eq_false c2; clear c2; by_cases c3 : a0 = 11
    · rw [if_pos c3] at H; have c3b0 : (a0 == 11) = true := beq_iff_eq.mpr c3; have c3b1 : (a0 != 11) = false := bne_eq_false_iff_eq.mpr c3; clear c3; obtain rfl := Option.some.inj H; go_enter Tryd.func93, Tryd.ntmps93; go_wp2; go_ret; exact ⟨by first | rfl | (simp; done) | (simp [*]; done), by repeat (first | exact Drawn0.refl _ | apply Drawn0.step)⟩
    · rw [if_neg c3] at H; have c3b0 : (a0 == 11) = false := beq_eq_false_iff_ne.mpr c3; have c3b1 : (a0 != 11) = true := bne_iff_ne.mpr c3; by_cases c4 : a0 = 13
      · rw [if_pos c4] at H; have c4b0 : (a0 == 13) = true := beq_iff_eq.mpr c4; have c4b1 : (a0 != 13) = false := bne_eq_false_iff_eq.mpr c4; clear c4; obtain rfl := Option.some.inj H; go_enter Tryd.func93, Tryd.ntmps93; go_wp2; go_ret; exact ⟨by first | rfl | (simp; done) | (simp [*]; done), by repeat (first | exact Drawn0.refl _ | apply Drawn0.step)⟩
      · rw [if_neg c4] at H; have c4b0 : (a0 == 13) = false := beq_eq_false_iff_ne.mpr c4; have c4b1 : (a0 != 13) = true := bne_iff_ne.mpr c4; obtain rfl := Option.some.inj H; go_enter Tryd.func93, Tryd.ntmps93; go_wp2; go_ret; exact ⟨by first | rfl | (simp; done) | (simp [*]; done), by repeat (first | exact Drawn0.refl _ | apply Drawn0.step)⟩
def spec_l4Exp.l0 : Nat → Int → List (S127) → Int → Int → Option (Bool)
  | 0, _, _, _, _ => none
  | k + 1, x3, x10, x11, x12 => if x12 < x11 then (if 0 ≤ x12 then (if x12 < (x10.length : Int) then ((spec_l4Item.f k ((rd_T127 x10 x12).f0) ((rd_T127 x10 x12).f1) ((rd_T127 x10 x12).f2)).bind fun t142 => (if t142 = true then ((spec_l4Arity.f ((rd_T127 x10 x12).f0)).bind fun t143 => (if x3 < t143 then (some false) else ((spec_l4Arity.f ((rd_T127 x10 x12).f0)).bind fun t144 => (spec_l4Exp.l0 k (wrap64 (x3 + (wrap64 (1 - t144)))) x10 x11 (wrap64 (x12 + 1)))))) else (some false))) else (none)) else (none)) else (some (x3 == 1))
def spec_l4Exp.f (k : Nat) (l0 : List (S127)) : Option (Bool) := (spec_l1Between.f (l0.length : Int) 1 100).bind fun t139 => (if t139 = true then (spec_l4Exp.l0 k 0 l0 (l0.length : Int) 0) else (some false))
theorem spec_l4Exp.mono_l : ∀ k, (∀ y0 y1 y2 y3, LeO (spec_l4Exp.l0 k y0 y1 y2 y3) (spec_l4Exp.l0 (k + 1) y0 y1 y2 y3))
  | 0 => fun _ _ _ _ r h => by simp [spec_l4Exp.l0] at h
  | k + 1 => by
    have ih0 := spec_l4Exp.mono_l k
    · intro y0 y1 y2 y3
      unfold spec_l4Exp.l0
      repeat' first
      | (with_reducible exact ih0 _ _ _ _)
      | (with_reducible exact spec_l4Item.mono _ _ _ _)
      | (with_reducible exact LeO.refl _)
      | (with_reducible exact LeO.none _)
      | (with_reducible refine LeO.ite ?_ ?_)
      | (with_reducible refine LeO.bind ?_ (fun _ => ?_))
      | exact ih0 _ _ _ _
      | exact spec_l4Item.mono _ _ _ _
      | exact LeO.none _
      | refine LeO.ite ?_ ?_
      | refine LeO.bind ?_ (fun _ => ?_)
theorem spec_l4Exp.mono : ∀ a0 k, LeO (spec_l4Exp.f k a0) (spec_l4Exp.f (k + 1) a0) := by
  intro a0 k
  have ih0 := spec_l4Exp.mono_l k
  unfold spec_l4Exp.f
  repeat' first
      | (with_reducible exact ih0 _ _ _ _)
      | (with_reducible exact spec_l4Item.mono _ _ _ _)
      | (with_reducible exact LeO.refl _)
      | (with_reducible exact LeO.none _)
      | (with_reducible refine LeO.ite ?_ ?_)
      | (with_reducible refine LeO.bind ?_ (fun _ => ?_))
      | exact ih0 _ _ _ _
      | exact spec_l4Item.mono _ _ _ _
      | exact LeO.none _
      | refine LeO.ite ?_ ?_
      | refine LeO.bind ?_ (fun _ => ?_)
set_option maxHeartbeats 8000000 in
set_option maxRecDepth 100000 in
theorem spec_l4Exp.calls (k : Nat) (A0 : Option Addr) (c0 : Nat) (l0 : List (S127)) (r : Bool) (w : World) (hr0 : Kd.C k127 w A0 l0.length l0) (hc0 : l0.length ≤ c0) (h : spec_l4Exp.f k l0 = some r) :
    Calls Tryd.prog 52 #[.slice A0 l0.length c0] w fun e w' => e = .returned (.bool r) ∧ Below w.heap.size w w' := by
  have hu127 := Tryd.underlying127; have HR0 := Aside0.mk hr0; have HC0 := Aside0.mk hc0; clear hr0 hc0; have HB := Aside0.mk (Below.refl w.heap.size w); have H : ((spec_l1Between.f (l0.length : Int) 1 100).bind fun t139 => (if t139 = true then (spec_l4Exp.l0 k 0 l0 (l0.length : Int) 0) else (some false))) = some r := h; clear h; replace H := Option.bind_eq_some_iff.mp H; obtain ⟨t139, A20, H⟩ := H; replace H : (if t139 = true then (spec_l4Exp.l0 k 0 l0 (l0.length : Int) 0) else (some false)) = some r := H; have A2 := Aside0.mk A20; clear A20; by_cases c3 : t139 = true
  · subst c3; (have H1 : (spec_l4Exp.l0 k 0 l0 (l0.length : Int) 0) = some r := by rw [if_pos rfl] at H; exact H); clear H; have H := H1; clear H1; have H' := Aside0.mk H; clear H; go_enter Tryd.func52, Tryd.ntmps52; go_wp2_with (first | ((with_reducible refine gcl (f := 66) rfl ?_); refine goesL_ (some 8) rfl rfl Tryd.func66 (by kernel_rfl) rfl #[.int .i64 (l0.length : Int), .int .i64 1, .int .i64 100] rfl (by (try simp only [List.map_toArray, List.map_cons, List.map_nil]); first | done | rfl | (simp only [List.length_drop, List.length_take]; rfl)) ?_; (with_reducible refine (spec_l1Between.calls (l0.length : Int) 1 100 true _ A2.out).mono ?_); rintro e w' ⟨rfl, ⟨nd, rfl⟩⟩; refine ⟨_, rfl, ?_⟩)); go_loopg [3, 12] k (fun kq v3 v12 w' => ∃ (x3_1 : Int) (x12_1 : Int), v3 = .int .i64 x3_1 ∧ v12 = .int .i64 x12_1 ∧ Aside0 (spec_l4Exp.l0 kq x3_1 l0 (l0.length : Int) x12_1 = some r) ∧ Aside0 (kq ≤ k) ∧ Aside0 (Below w.heap.size w w'))
    case atStart => exact ⟨(0), (0), (by first | rfl | (simp; done) | (simp [*]; done)), (by first | rfl | (simp; done) | (simp [*]; done)), H', ⟨Nat.le_refl _⟩, ⟨by repeat (first | (with_reducible first | exact HB.out | apply bal | apply pbd | apply bd1) | exact HB.out)⟩⟩
    case round =>
      clear H'; (try clear p2); (try clear c3); obtain ⟨x3_1, x12_1, rfl, rfl, HA, HK1, HB⟩ := hrel
      cases gk with
      | zero => exact absurd HA.out (by simp [spec_l4Exp.l0])
      | succ k1 =>
        have H := HA.out; clear HA; simp only [spec_l4Exp.l0] at H; by_cases c4 : x12_1 < (l0.length : Int)
        · rw [if_pos c4] at H; have c4b0 : decide (x12_1 < (l0.length : Int)) = true := decide_eq_true c4; clear c4; by_cases c5 : 0 ≤ x12_1
          · rw [if_pos c5] at H; have c5b0 : decide (0 ≤ x12_1) = true := decide_eq_true c5; clear c5; by_cases c6 : x12_1 < (l0.length : Int)
            · rw [if_pos c6] at H; have c6b0 : decide (x12_1 < (l0.length : Int)) = true := decide_eq_true c6; clear c6; replace H := Option.bind_eq_some_iff.mp H; obtain ⟨t142, A70, H⟩ := H; replace H : (if t142 = true then ((spec_l4Arity.f ((rd_T127 l0 x12_1).f0)).bind fun t143 => (if x3_1 < t143 then (some false) else ((spec_l4Arity.f ((rd_T127 l0 x12_1).f0)).bind fun t144 => (spec_l4Exp.l0 k1 (wrap64 (x3_1 + (wrap64 (1 - t144)))) l0 (l0.length : Int) (wrap64 (x12_1 + 1)))))) else (some false)) = some r := H; have A7 := Aside0.mk A70; clear A70; by_cases c8 : t142 = true
              · subst c8; (have H1 : ((spec_l4Arity.f ((rd_T127 l0 x12_1).f0)).bind fun t143 => (if x3_1 < t143 then (some false) else ((spec_l4Arity.f ((rd_T127 l0 x12_1).f0)).bind fun t144 => (spec_l4Exp.l0 k1 (wrap64 (x3_1 + (wrap64 (1 - t144)))) l0 (l0.length : Int) (wrap64 (x12_1 + 1)))))) = some r := by rw [if_pos rfl] at H; exact H); clear H; have H := H1; clear H1; replace H := Option.bind_eq_some_iff.mp H; obtain ⟨t143, A90, H⟩ := H; replace H : (if x3_1 < t143 then (some false) else ((spec_l4Arity.f ((rd_T127 l0 x12_1).f0)).bind fun t144 => (spec_l4Exp.l0 k1 (wrap64 (x3_1 + (wrap64 (1 - t144)))) l0 (l0.length : Int) (wrap64 (x12_1 + 1))))) = some r := H; have A9 := Aside0.mk A90; clear A90; by_cases c10 : x3_1 < t143
                · rw [if_pos c10] at H; have c10b0 : decide (x3_1 < t143) = true := decide_eq_true c10; clear c10; obtain rfl := Option.some.inj H; have p140 : 0 ≤ (x12_1 : Int) := of_decide_eq_true (by first | (with_reducible assumption) | assumption); have q140 : x12_1 < (l0.length : Int) := of_decide_eq_true (by first | (with_reducible assumption) | assumption); obtain ⟨ad140, e140, hx140_0, hx140_1, hx140_2⟩ := at_T127 HR0.out x12_1 p140 q140; cases e140; replace hx140_0 := (HB.out.cell (World.block_lt_of_cell? w _ hx140_0)).trans hx140_0; replace hx140_1 := (HB.out.cell (World.block_lt_of_cell? w _ hx140_1)).trans hx140_1; replace hx140_2 := (HB.out.cell (World.block_lt_of_cell? w _ hx140_2)).trans hx140_2; replace p140 := eq_true p140; replace q140 := eq_true q140; go_wp2_with (first | ((with_reducible refine gds (N := 5) rfl ?_); refine bxe ?hg (N := 5) ?hd (cs := #[.int .i64 0, .int .i64 0, .string (⟨#[]⟩ : ByteArray)]) (t := 127) ?hr ?_; (case hd => rfl); (case hg => rfl); (case hr => first | (go_simp; done) | (go_simp; rfl)); intro gb141 hg w11 hbox hb; have n0_ := Aside0.mk (bst (by repeat (first | (with_reducible first | exact HB.out | apply bal | apply pbd | apply bd1) | exact HB.out)) hb); have n1_ := Aside0.mk (hbox); have n2_ := Aside0.mk ((by rw [hg]; exact (bsz (by repeat (first | (with_reducible first | exact HB.out | apply bal | apply pbd | apply bd1) | exact HB.out))) : w.heap.size ≤ gb141)); have n3_ := Aside0.mk ((by rw [hg]; exact (bsz (by repeat (first | (with_reducible first | exact HB.out | apply bal | apply pbd | apply bd1) | exact HB.out))) : w.heap.size ≤ gb141)); replace HB := n0_; have BK141 := n1_; have GW141 := n2_; have GE141 := n3_; clear n0_ n1_ n2_ n3_; clear hb hbox hg; obtain ⟨hcz12_0, hcz12_1, hcz12_2⟩ := zC3 BK141.out; obtain ⟨hfz12_0, hfz12_1⟩ := zF2 BK141.out; have hfz12_2 := bfz BK141.out 2) | ((with_reducible refine gcl (f := 92) rfl ?_); refine goesL_ (some 17) rfl rfl Tryd.func92 (by kernel_rfl) rfl #[.agg #[.int .i64 ((rd_T127 l0 x12_1).f0), .int .i64 ((rd_T127 l0 x12_1).f1), .string ((rd_T127 l0 x12_1).f2)]] rfl (by (try simp only [List.map_toArray, List.map_cons, List.map_nil]); first | done | rfl | (simp only [List.length_drop, List.length_take]; rfl)) ?_; (with_reducible refine (spec_l4Item.calls k1 ((rd_T127 l0 x12_1).f0) ((rd_T127 l0 x12_1).f1) ((rd_T127 l0 x12_1).f2) true _ A7.out).mono ?_); rintro e w13 ⟨rfl, hb⟩; refine ⟨_, rfl, ?_⟩; have n0_ := Aside0.mk (bbe (g := gb141) (o := .cells #[.int .i64 ((rd_T127 l0 x12_1).f0), .int .i64 ((rd_T127 l0 x12_1).f1), .string ((rd_T127 l0 x12_1).f2)] 127 (0, 0)) (by (with_reducible repeat (first | refine bdN ?_ _ | refine bkD ?_ | refine bkA ?_ _)); refine bpu (cs := #[.int .i64 ((rd_T127 l0 x12_1).f0), .int .i64 ((rd_T127 l0 x12_1).f1), .string (⟨#[]⟩ : ByteArray)]) ?_ 2 _ rfl; (with_reducible repeat (first | refine bdN ?_ _ | refine bkD ?_ | refine bkA ?_ _)); refine bpu (cs := #[.int .i64 ((rd_T127 l0 x12_1).f0), .int .i64 0, .string (⟨#[]⟩ : ByteArray)]) ?_ 1 _ rfl; (with_reducible repeat (first | refine bdN ?_ _ | refine bkD ?_ | refine bkA ?_ _)); refine bpu (cs := #[.int .i64 0, .int .i64 0, .string (⟨#[]⟩ : ByteArray)]) ?_ 0 _ rfl; (with_reducible repeat (first | refine bdN ?_ _ | refine bkD ?_ | refine bkA ?_ _)); exact BK141.out) hb); have n1_ := Aside0.mk (bst (by repeat (first | (with_reducible first | exact HB.out | apply bal | apply pbd | apply bd1 | refine bse ?_ GE141.out) | exact HB.out)) hb); replace BK141 := n0_; replace HB := n1_; clear n0_ n1_; (try clear hb); (try clear hb2); (try clear hk); (try clear hi); obtain ⟨hcz14_0, hcz14_1, hcz14_2⟩ := zC3 BK141.out; obtain ⟨hfz14_0, hfz14_1⟩ := zF2 BK141.out; have hfz14_2 := bfz BK141.out 2) | (go_at_call 93; (with_reducible refine (spec_l4Arity.calls ((rd_T127 l0 x12_1).f0) t143 _ A9.out).mono ?_); rintro e w' ⟨rfl, ⟨nd, rfl⟩⟩)); go_ret; exact ⟨by first | rfl | (simp [eWn, eWs] <;> rfl) | (simp [*, eWn, eWs] <;> rfl), by repeat (first | (with_reducible first | exact HB.out | apply bal | apply pbd | apply bd1 | refine bse ?_ GE141.out) | exact HB.out)⟩
                · rw [if_neg c10] at H; have c10b0 : decide (x3_1 < t143) = false := decide_eq_false c10; clear c10; replace H := Option.bind_eq_some_iff.mp H; obtain ⟨t144, A150, H⟩ := H; replace H : (spec_l4Exp.l0 k1 (wrap64 (x3_1 + (wrap64 (1 - t144)))) l0 (l0.length : Int) (wrap64 (x12_1 + 1))) = some r := H; have A15 := Aside0.mk A150; clear A150; have H' := Aside0.mk H; clear H; have p140 : 0 ≤ (x12_1 : Int) := of_decide_eq_true (by first | (with_reducible assumption) | assumption); have q140 : x12_1 < (l0.length : Int) := of_decide_eq_true (by first | (with_reducible assumption) | assumption); obtain ⟨ad140, e140, hx140_0, hx140_1, hx140_2⟩ := at_T127 HR0.out x12_1 p140 q140; cases e140; replace hx140_0 := (HB.out.cell (World.block_lt_of_cell? w _ hx140_0)).trans hx140_0; replace hx140_1 := (HB.out.cell (World.block_lt_of_cell? w _ hx140_1)).trans hx140_1; replace hx140_2 := (HB.out.cell (World.block_lt_of_cell? w _ hx140_2)).trans hx140_2; replace p140 := eq_true p140; replace q140 := eq_true q140; go_wp2_with (first | ((with_reducible refine gds (N := 5) rfl ?_); refine bxe ?hg (N := 5) ?hd (cs := #[.int .i64 0, .int .i64 0, .string (⟨#[]⟩ : ByteArray)]) (t := 127) ?hr ?_; (case hd => rfl); (case hg => rfl); (case hr => first | (go_simp; done) | (go_simp; rfl)); intro gb141 hg w16 hbox hb; have n0_ := Aside0.mk (bst (by repeat (first | (with_reducible first | exact HB.out | apply bal | apply pbd | apply bd1) | exact HB.out)) hb); have n1_ := Aside0.mk (hbox); have n2_ := Aside0.mk ((by rw [hg]; exact (bsz (by repeat (first | (with_reducible first | exact HB.out | apply bal | apply pbd | apply bd1) | exact HB.out))) : w.heap.size ≤ gb141)); have n3_ := Aside0.mk ((by rw [hg]; exact (bsz (by repeat (first | (with_reducible first | exact HB.out | apply bal | apply pbd | apply bd1) | exact HB.out))) : w.heap.size ≤ gb141)); replace HB := n0_; have BK141 := n1_; have GW141 := n2_; have GE141 := n3_; clear n0_ n1_ n2_ n3_; clear hb hbox hg; obtain ⟨hcz17_0, hcz17_1, hcz17_2⟩ := zC3 BK141.out; obtain ⟨hfz17_0, hfz17_1⟩ := zF2 BK141.out; have hfz17_2 := bfz BK141.out 2) | ((with_reducible refine gcl (f := 92) rfl ?_); refine goesL_ (some 17) rfl rfl Tryd.func92 (by kernel_rfl) rfl #[.agg #[.int .i64 ((rd_T127 l0 x12_1).f0), .int .i64 ((rd_T127 l0 x12_1).f1), .string ((rd_T127 l0 x12_1).f2)]] rfl (by (try simp only [List.map_toArray, List.map_cons, List.map_nil]); first | done | rfl | (simp only [List.length_drop, List.length_take]; rfl)) ?_; (with_reducible refine (spec_l4Item.calls k1 ((rd_T127 l0 x12_1).f0) ((rd_T127 l0 x12_1).f1) ((rd_T127 l0 x12_1).f2) true _ A7.out).mono ?_); rintro e w18 ⟨rfl, hb⟩; refine ⟨_, rfl, ?_⟩; have n0_ := Aside0.mk (bbe (g := gb141) (o := .cells #[.int .i64 ((rd_T127 l0 x12_1).f0), .int .i64 ((rd_T127 l0 x12_1).f1), .string ((rd_T127 l0 x12_1).f2)] 127 (0, 0)) (by (with_reducible repeat (first | refine bdN ?_ _ | refine bkD ?_ | refine bkA ?_ _)); refine bpu (cs := #[.int .i64 ((rd_T127 l0 x12_1).f0), .int .i64 ((rd_T127 l0 x12_1).f1), .string (⟨#[]⟩ : ByteArray)]) ?_ 2 _ rfl; (with_reducible repeat (first | refine bdN ?_ _ | refine bkD ?_ | refine bkA ?_ _)); refine bpu (cs := #[.int .i64 ((rd_T127 l0 x12_1).f0), .int .i64 0, .string (⟨#[]⟩ : ByteArray)]) ?_ 1 _ rfl; (with_reducible repeat (first | refine bdN ?_ _ | refine bkD ?_ | refine bkA ?_ _)); refine bpu (cs := #[.int .i64 0, .int .i64 0, .string (⟨#[]⟩ : ByteArray)]) ?_ 0 _ rfl; (with_reducible repeat (first | refine bdN ?_ _ | refine bkD ?_ | refine bkA ?_ _)); exact BK141.out) hb); have n1_ := Aside0.mk (bst (by repeat (first | (with_reducible first | exact HB.out | apply bal | apply pbd | apply bd1 | refine bse ?_ GE141.out) | exact HB.out)) hb); replace BK141 := n0_; replace HB := n1_; clear n0_ n1_; (try clear hb); (try clear hb2); (try clear hk); (try clear hi); obtain ⟨hcz19_0, hcz19_1, hcz19_2⟩ := zC3 BK141.out; obtain ⟨hfz19_0, hfz19_1⟩ := zF2 BK141.out; have hfz19_2 := bfz BK141.out 2) | (go_at_call 93; (with_reducible refine (spec_l4Arity.calls ((rd_T127 l0 x12_1).f0) t143 _ A9.out).mono ?_); rintro e w' ⟨rfl, ⟨nd, rfl⟩⟩) | ((with_reducible refine gcl (f := 93) rfl ?_); refine goesL_ (some 29) rfl rfl Tryd.func93 (by kernel_rfl) rfl #[.int .i64 ((rd_T127 l0 x12_1).f0)] rfl (by (try simp only [List.map_toArray, List.map_cons, List.map_nil]); first | done | rfl | (simp only [List.length_drop, List.length_take]; rfl)) ?_; (with_reducible refine (spec_l4Arity.calls ((rd_T127 l0 x12_1).f0) t144 _ A15.out).mono ?_); rintro e w' ⟨rfl, ⟨nd, rfl⟩⟩; refine ⟨_, rfl, ?_⟩)); go_roundg k1
                  case measure => have := HK1.out; omega
                  case rel => exact ⟨(wrap64 (x3_1 + (wrap64 (1 - t144)))), (wrap64 (x12_1 + 1)), (by first | rfl | (simp; done) | (simp [*]; done)), (by first | rfl | (simp; done) | (simp [*]; done)), H', ⟨by have := HK1.out; omega⟩, ⟨by repeat (first | (with_reducible first | exact HB.out | apply bal | apply pbd | apply bd1 | refine bse ?_ GE141.out) | exact HB.out)⟩⟩
              · replace c8 := Bool.eq_false_iff.mpr c8; subst c8; (have H1 : (some false) = some r := by rw [if_neg (show ¬ (false = true) by decide)] at H; exact H); clear H; have H := H1; clear H1; obtain rfl := Option.some.inj H; have p140 : 0 ≤ (x12_1 : Int) := of_decide_eq_true (by first | (with_reducible assumption) | assumption); have q140 : x12_1 < (l0.length : Int) := of_decide_eq_true (by first | (with_reducible assumption) | assumption); obtain ⟨ad140, e140, hx140_0, hx140_1, hx140_2⟩ := at_T127 HR0.out x12_1 p140 q140; cases e140; replace hx140_0 := (HB.out.cell (World.block_lt_of_cell? w _ hx140_0)).trans hx140_0; replace hx140_1 := (HB.out.cell (World.block_lt_of_cell? w _ hx140_1)).trans hx140_1; replace hx140_2 := (HB.out.cell (World.block_lt_of_cell? w _ hx140_2)).trans hx140_2; replace p140 := eq_true p140; replace q140 := eq_true q140; go_wp2_with (first | ((with_reducible refine gds (N := 5) rfl ?_); refine bxe ?hg (N := 5) ?hd (cs := #[.int .i64 0, .int .i64 0, .string (⟨#[]⟩ : ByteArray)]) (t := 127) ?hr ?_; (case hd => rfl); (case hg => rfl); (case hr => first | (go_simp; done) | (go_simp; rfl)); intro gb141 hg w20 hbox hb; have n0_ := Aside0.mk (bst (by repeat (first | (with_reducible first | exact HB.out | apply bal | apply pbd | apply bd1) | exact HB.out)) hb); have n1_ := Aside0.mk (hbox); have n2_ := Aside0.mk ((by rw [hg]; exact (bsz (by repeat (first | (with_reducible first | exact HB.out | apply bal | apply pbd | apply bd1) | exact HB.out))) : w.heap.size ≤ gb141)); have n3_ := Aside0.mk ((by rw [hg]; exact (bsz (by repeat (first | (with_reducible first | exact HB.out | apply bal | apply pbd | apply bd1) | exact HB.out))) : w.heap.size ≤ gb141)); replace HB := n0_; have BK141 := n1_; have GW141 := n2_; have GE141 := n3_; clear n0_ n1_ n2_ n3_; clear hb hbox hg; obtain ⟨hcz21_0, hcz21_1, hcz21_2⟩ := zC3 BK141.out; obtain ⟨hfz21_0, hfz21_1⟩ := zF2 BK141.out; have hfz21_2 := bfz BK141.out 2) | ((with_reducible refine gcl (f := 92) rfl ?_); refine goesL_ (some 17) rfl rfl Tryd.func92 (by kernel_rfl) rfl #[.agg #[.int .i64 ((rd_T127 l0 x12_1).f0), .int .i64 ((rd_T127 l0 x12_1).f1), .string ((rd_T127 l0 x12_1).f2)]] rfl (by (try simp only [List.map_toArray, List.map_cons, List.map_nil]); first | done | rfl | (simp only [List.length_drop, List.length_take]; rfl)) ?_; (with_reducible refine (spec_l4Item.calls k1 ((rd_T127 l0 x12_1).f0) ((rd_T127 l0 x12_1).f1) ((rd_T127 l0 x12_1).f2) false _ A7.out).mono ?_); rintro e w22 ⟨rfl, hb⟩; refine ⟨_, rfl, ?_⟩; have n0_ := Aside0.mk (bbe (g := gb141) (o := .cells #[.int .i64 ((rd_T127 l0 x12_1).f0), .int .i64 ((rd_T127 l0 x12_1).f1), .string ((rd_T127 l0 x12_1).f2)] 127 (0, 0)) (by (with_reducible repeat (first | refine bdN ?_ _ | refine bkD ?_ | refine bkA ?_ _)); refine bpu (cs := #[.int .i64 ((rd_T127 l0 x12_1).f0), .int .i64 ((rd_T127 l0 x12_1).f1), .string (⟨#[]⟩ : ByteArray)]) ?_ 2 _ rfl; (with_reducible repeat (first | refine bdN ?_ _ | refine bkD ?_ | refine bkA ?_ _)); refine bpu (cs := #[.int .i64 ((rd_T127 l0 x12_1).f0), .int .i64 0, .string (⟨#[]⟩ : ByteArray)]) ?_ 1 _ rfl; (with_reducible repeat (first | refine bdN ?_ _ | refine bkD ?_ | refine bkA ?_ _)); refine bpu (cs := #[.int .i64 0, .int .i64 0, .string (⟨#[]⟩ : ByteArray)]) ?_ 0 _ rfl; (with_reducible repeat (first | refine bdN ?_ _ | refine bkD ?_ | refine bkA ?_ _)); exact BK141.out) hb); have n1_ := Aside0.mk (bst (by repeat (first | (with_reducible first | exact HB.out | apply bal | apply pbd | apply bd1 | refine bse ?_ GE141.out) | exact HB.out)) hb); replace BK141 := n0_; replace HB := n1_; clear n0_ n1_; (try clear hb); (try clear hb2); (try clear hk); (try clear hi))); go_ret; exact ⟨by first | rfl | (simp [eWn, eWs] <;> rfl) | (simp [*, eWn, eWs] <;> rfl), by repeat (first | (with_reducible first | exact HB.out | apply bal | apply pbd | apply bd1 | refine bse ?_ GE141.out) | exact HB.out)⟩
            · rw [if_neg c6] at H; exact absurd H (by simp)
          · rw [if_neg c5] at H; exact absurd H (by simp)
        · rw [if_neg c4] at H; have c4b0 : decide (x12_1 < (l0.length : Int)) = false := decide_eq_false c4; clear c4; obtain rfl := Option.some.inj H; go_wp2; go_ret; exact ⟨by first | rfl | (simp [eWn, eWs] <;> rfl) | (simp [*, eWn, eWs] <;> rfl), by repeat (first | (with_reducible first | exact HB.out | apply bal | apply pbd | apply bd1) | exact HB.out)⟩
  · replace c3 := Bool.eq_false_iff.mpr c3; subst c3; (have H1 : (some false) = some r := by rw [if_neg (show ¬ (false = true) by decide)] at H; exact H); clear H; have H := H1; clear H1; obtain rfl := Option.some.inj H; go_enter Tryd.func52, Tryd.ntmps52; go_wp2_with (first | ((with_reducible refine gcl (f := 66) rfl ?_); refine goesL_ (some 8) rfl rfl Tryd.func66 (by kernel_rfl) rfl #[.int .i64 (l0.length : Int), .int .i64 1, .int .i64 100] rfl (by (try simp only [List.map_toArray, List.map_cons, List.map_nil]); first | done | rfl | (simp only [List.length_drop, List.length_take]; rfl)) ?_; (with_reducible refine (spec_l1Between.calls (l0.length : Int) 1 100 false _ A2.out).mono ?_); rintro e w' ⟨rfl, ⟨nd, rfl⟩⟩; refine ⟨_, rfl, ?_⟩)); go_ret; exact ⟨by first | rfl | (simp [eWn, eWs] <;> rfl) | (simp [*, eWn, eWs] <;> rfl), by repeat (first | (with_reducible first | exact HB.out | apply bal | apply pbd | apply bd1) | exact HB.out)⟩
def spec_l4Where.f (k : Nat) (l0 : List (S127)) : Option (Bool) := if (l0.length : Int) = 0 then (some true) else ((spec_l4Exp.f k l0).bind fun t145 => (some t145))
theorem spec_l4Where.mono : ∀ a0 k, LeO (spec_l4Where.f k a0) (spec_l4Where.f (k + 1) a0) := by
  intro a0 k
  unfold spec_l4Where.f
  repeat' first
      | (with_reducible exact spec_l4Exp.mono _ _)
      | (with_reducible exact LeO.refl _)
      | (with_reducible exact LeO.none _)
      | (with_reducible refine LeO.ite ?_ ?_)
      | (with_reducible refine LeO.bind ?_ (fun _ => ?_))
      | exact spec_l4Exp.mono _ _
      | exact LeO.none _
      | refine LeO.ite ?_ ?_
      | refine LeO.bind ?_ (fun _ => ?_)
set_option maxHeartbeats 8000000 in
set_option maxRecDepth 100000 in
theorem spec_l4Where.calls (k : Nat) (A0 : Option Addr) (c0 : Nat) (l0 : List (S127)) (r : Bool) (w : World) (hr0 : Kd.C k127 w A0 l0.length l0) (hc0 : l0.length ≤ c0) (h : spec_l4Where.f k l0 = some r) :
    Calls Tryd.prog 53 #[.slice A0 l0.length c0] w fun e w' => e = .returned (.bool r) ∧ Below w.heap.size w w' := by
  have HR0 := Aside0.mk hr0; have HC0 := Aside0.mk hc0; clear hr0 hc0; have HB := Aside0.mk (Below.refl w.heap.size w); have H : (if (l0.length : Int) = 0 then (some true) else ((spec_l4Exp.f k l0).bind fun t145 => (some t145))) = some r := h; clear h; by_cases c2 : (l0.length : Int) = 0
  · rw [if_pos c2] at H; have c2b0 : ((l0.length : Int) == 0) = true := beq_iff_eq.mpr c2; have c2b1 : ((l0.length : Int) != 0) = false := bne_eq_false_iff_eq.mpr c2; clear c2; obtain rfl := Option.some.inj H; go_enter Tryd.func53, Tryd.ntmps53; go_wp2; go_ret; exact ⟨by first | rfl | (simp [eWn, eWs] <;> rfl) | (simp [*, eWn, eWs] <;> rfl), by repeat (first | (with_reducible first | exact HB.out | apply bal | apply pbd | apply bd1) | exact HB.out)⟩
  · rw [if_neg c2] at H; have c2b0 : ((l0.length : Int) == 0) = false := beq_eq_false_iff_ne.mpr c2; have c2b1 : ((l0.length : Int) != 0) = true := bne_iff_ne.mpr c2; have c2b2 : ¬ (l0 = []) := fun h_ => c2 (by rw [h_]; rfl); replace H := Option.bind_eq_some_iff.mp H; obtain ⟨t145, A30, H⟩ := H; replace H : (some t145) = some r := H; have A3 := Aside0.mk A30; clear A30; obtain rfl := Option.some.inj H; go_enter Tryd.func53, Tryd.ntmps53; go_wp2_with (first | (go_at_call 52; (with_reducible refine (spec_l4Exp.calls k _ _ l0 t145 _ ?side1 ?side2 A3.out).mono ?_); (case side1 => repeat (first | exact HR0.out | (with_reducible refine Kd.Cal ?_ _) | (with_reducible refine Kd.CdN ?_ _) | (with_reducible refine Kd.Cdr ?_))); (case side2 => exact HC0.out); rintro e w4 ⟨rfl, hb⟩; have n0_ := Aside0.mk (bst (by repeat (first | (with_reducible first | exact HB.out | apply bal | apply pbd | apply bd1) | exact HB.out)) hb); replace HB := n0_; clear n0_; (try clear hb); (try clear hb2); (try clear hk); (try clear hi))); go_ret; exact ⟨by first | rfl | (simp [eWn, eWs] <;> rfl) | (simp [*, eWn, eWs] <;> rfl), by repeat (first | (with_reducible first | exact HB.out | apply bal | apply pbd | apply bd1) | exact HB.out)⟩
open Go.Proofs.YtmchcoafkaggkaaDoorW.PrintWords renaming bal → zA
open Go.Proofs.YtmchcoafkaggkaaDoorW.PrintWords renaming pbd → zD
open Go.Proofs.YtmchcoafkaggkaaDoorW.PrintWords renaming bd1 → z1
open Go.Proofs.YtmchcoafkaggkaaDoorW.PrintWords renaming bse → zS
open Go.Proofs.YtmchcoafkaggkaaDoorW.PrintWords renaming bdN → zbN
open Go.Proofs.YtmchcoafkaggkaaDoorW.PrintWords renaming bkD → zb1
open Go.Proofs.YtmchcoafkaggkaaDoorW.PrintWords renaming bkA → zbA
open Go.Proofs.YtmchcoafkaggkaaDoorW.PrintWords.Kd renaming Cal → zCa
open Go.Proofs.YtmchcoafkaggkaaDoorW.PrintWords.Kd renaming CdN → zCn
open Go.Proofs.YtmchcoafkaggkaaDoorW.PrintWords.Kd renaming Cdr → zCd
open Go.Proofs.YtmchcoafkaggkaaDoorW.PrintWords renaming bbe → zbb
open Go.Proofs.YtmchcoafkaggkaaDoorW.PrintWords renaming bst → zst
open Go.Proofs.YtmchcoafkaggkaaDoorW.PrintWords renaming bsz → zsz
open Go.Proofs.YtmchcoafkaggkaaDoorW.PrintLast renaming goesL_ → zg
open Go.Proofs.YtmchcoafkaggkaaDoorW.PrintWords.Aside0 renaming mk → zK
open Go.Proofs.YtmchcoafkaggkaaDoorW.PrintWords renaming gcl → zgc
open Go.Proofs.YtmchcoafkaggkaaDoorW.PrintWords renaming gds → zgd
open Go.Proofs.YtmchcoafkaggkaaDoorW.PrintWords renaming bxe → zbx
open Go.Proofs.YtmchcoafkaggkaaDoorW.PrintWords renaming blt → zbl
open Go.Proofs.YtmchcoafkaggkaaDoorW.PrintWords renaming bce → zbc
mutual
def spec_StmOK.j0 : Nat → Int → Bool → Int → ByteArray → List (S85) → List (S88) → ByteArray → List (S127) → List (S127) → List (List (S127)) → Option (Bool)
  | 0, _, _, _, _, _, _, _, _, _, _ => none
  | k + 1, x3, x58, x147000, x147001, x147002, x147003, x147004, x147005, x147006, x147007 => if x58 = true then (some false) else (if x3 < 3 then (spec_StmOK.j1 k x3 ((x147006.length : Int) != 0) x147000 x147001 x147002 x147003 x147004 x147005 x147006 x147007) else (spec_StmOK.j1 k x3 false x147000 x147001 x147002 x147003 x147004 x147005 x147006 x147007))
def spec_StmOK.j1 : Nat → Int → Bool → Int → ByteArray → List (S85) → List (S88) → ByteArray → List (S127) → List (S127) → List (List (S127)) → Option (Bool)
  | 0, _, _, _, _, _, _, _, _, _, _ => none
  | k + 1, x3, x66, x147000, x147001, x147002, x147003, x147004, x147005, x147006, x147007 => if x66 = true then (some false) else (if x3 = 1 then (spec_StmOK.l0 k x147002 (x147002.length : Int) 0 x147000 x147001 x147002 x147003 x147004 x147005 x147006 x147007) else (if x3 = 2 then (spec_StmOK.l1 k x147003 (x147003.length : Int) 0 x147000 x147001 x147002 x147003 x147004 x147005 x147006 x147007) else (if x3 = 3 then ((spec_l4Name.f k x147004).bind fun t155 => (if t155 = true then ((spec_l4Exp.f k x147005).bind fun t156 => (if t156 = true then ((spec_l4Where.f k x147006).bind fun t157 => (some t157)) else (some false))) else (some false))) else (if x3 = 4 then ((spec_l4Where.f k x147006).bind fun t158 => (some t158)) else (if x3 = 5 then (spec_StmOK.l2 k x147007 (x147007.length : Int) 0 x147000 x147001 x147002 x147003 x147004 x147005 x147006 x147007) else (some false))))))
def spec_StmOK.l0 : Nat → List (S85) → Int → Int → Int → ByteArray → List (S85) → List (S88) → ByteArray → List (S127) → List (S127) → List (List (S127)) → Option (Bool)
  | 0, _, _, _, _, _, _, _, _, _, _, _ => none
  | k + 1, x71, x72, x73, x147000, x147001, x147002, x147003, x147004, x147005, x147006, x147007 => if x73 < x72 then (if 0 ≤ x73 then (if x73 < (x71.length : Int) then (if (x147002.length : Int) > 20 then (some false) else ((spec_l4Name.f k ((rd_T85 x71 x73).f0)).bind fun t150 => (if t150 = true then ((spec_l4Type.f ((rd_T85 x71 x73).f1)).bind fun t151 => (if t151 = true then (spec_StmOK.l0 k x71 x72 (wrap64 (x73 + 1)) x147000 x147001 x147002 x147003 x147004 x147005 x147006 x147007) else (some false))) else (some false)))) else (none)) else (none)) else (some (decide ((x147002.length : Int) > 0)))
def spec_StmOK.l1 : Nat → List (S88) → Int → Int → Int → ByteArray → List (S85) → List (S88) → ByteArray → List (S127) → List (S127) → List (List (S127)) → Option (Bool)
  | 0, _, _, _, _, _, _, _, _, _, _, _ => none
  | k + 1, x101, x102, x103, x147000, x147001, x147002, x147003, x147004, x147005, x147006, x147007 => if x103 < x102 then (if 0 ≤ x103 then (if x103 < (x101.length : Int) then (if (x147003.length : Int) > 20 then (some false) else ((spec_l4Value.f k ((rd_T88 x101 x103).f0) ((rd_T88 x101 x103).f1) ((rd_T88 x101 x103).f2)).bind fun t154 => (if t154 = true then (spec_StmOK.l1 k x101 x102 (wrap64 (x103 + 1)) x147000 x147001 x147002 x147003 x147004 x147005 x147006 x147007) else (some false)))) else (none)) else (none)) else (some (decide ((x147003.length : Int) > 0)))
def spec_StmOK.l2 : Nat → List (List (S127)) → Int → Int → Int → ByteArray → List (S85) → List (S88) → ByteArray → List (S127) → List (S127) → List (List (S127)) → Option (Bool)
  | 0, _, _, _, _, _, _, _, _, _, _, _ => none
  | k + 1, x144, x145, x146, x147000, x147001, x147002, x147003, x147004, x147005, x147006, x147007 => if x146 < x145 then (if 0 ≤ x146 then (if x146 < (x144.length : Int) then (if (x147007.length : Int) > 20 then (some false) else ((spec_l4Exp.f k (rd_L9 x144 x146)).bind fun t160 => (if t160 = true then (spec_StmOK.l2 k x144 x145 (wrap64 (x146 + 1)) x147000 x147001 x147002 x147003 x147004 x147005 x147006 x147007) else (some false)))) else (none)) else (none)) else (if (x147007.length : Int) > 0 then ((spec_l4Where.f k x147006).bind fun t161 => (some t161)) else (some false))
end
def spec_StmOK.f (k : Nat) (a0_0 : Int) (a0_1 : ByteArray) (l0_2 : List (S85)) (l0_3 : List (S88)) (a0_4 : ByteArray) (l0_5 : List (S127)) (l0_6 : List (S127)) (l0_7 : List (List (S127))) : Option (Bool) := (spec_l4Name.f k a0_1).bind fun t147 => (if t147 = true then (if a0_0 = 1 then (if a0_0 = 2 then (if a0_0 = 3 then (if a0_0 = 5 then (spec_StmOK.j0 k a0_0 false a0_0 a0_1 l0_2 l0_3 a0_4 l0_5 l0_6 l0_7) else (spec_StmOK.j0 k a0_0 ((l0_7.length : Int) != 0) a0_0 a0_1 l0_2 l0_3 a0_4 l0_5 l0_6 l0_7)) else (if a0_4.toList = ([] : List UInt8) then (if (l0_5.length : Int) = 0 then (if a0_0 = 5 then (spec_StmOK.j0 k a0_0 false a0_0 a0_1 l0_2 l0_3 a0_4 l0_5 l0_6 l0_7) else (spec_StmOK.j0 k a0_0 ((l0_7.length : Int) != 0) a0_0 a0_1 l0_2 l0_3 a0_4 l0_5 l0_6 l0_7)) else (spec_StmOK.j0 k a0_0 true a0_0 a0_1 l0_2 l0_3 a0_4 l0_5 l0_6 l0_7)) else (spec_StmOK.j0 k a0_0 true a0_0 a0_1 l0_2 l0_3 a0_4 l0_5 l0_6 l0_7))) else (if (l0_3.length : Int) = 0 then (if a0_0 = 3 then (if a0_0 = 5 then (spec_StmOK.j0 k a0_0 false a0_0 a0_1 l0_2 l0_3 a0_4 l0_5 l0_6 l0_7) else (spec_StmOK.j0 k a0_0 ((l0_7.length : Int) != 0) a0_0 a0_1 l0_2 l0_3 a0_4 l0_5 l0_6 l0_7)) else (if a0_4.toList = ([] : List UInt8) then (if (l0_5.length : Int) = 0 then (if a0_0 = 5 then (spec_StmOK.j0 k a0_0 false a0_0 a0_1 l0_2 l0_3 a0_4 l0_5 l0_6 l0_7) else (spec_StmOK.j0 k a0_0 ((l0_7.length : Int) != 0) a0_0 a0_1 l0_2 l0_3 a0_4 l0_5 l0_6 l0_7)) else (spec_StmOK.j0 k a0_0 true a0_0 a0_1 l0_2 l0_3 a0_4 l0_5 l0_6 l0_7)) else (spec_StmOK.j0 k a0_0 true a0_0 a0_1 l0_2 l0_3 a0_4 l0_5 l0_6 l0_7))) else (spec_StmOK.j0 k a0_0 true a0_0 a0_1 l0_2 l0_3 a0_4 l0_5 l0_6 l0_7))) else (if (l0_2.length : Int) = 0 then (if a0_0 = 2 then (if a0_0 = 3 then (if a0_0 = 5 then (spec_StmOK.j0 k a0_0 false a0_0 a0_1 l0_2 l0_3 a0_4 l0_5 l0_6 l0_7) else (spec_StmOK.j0 k a0_0 ((l0_7.length : Int) != 0) a0_0 a0_1 l0_2 l0_3 a0_4 l0_5 l0_6 l0_7)) else (if a0_4.toList = ([] : List UInt8) then (if (l0_5.length : Int) = 0 then (if a0_0 = 5 then (spec_StmOK.j0 k a0_0 false a0_0 a0_1 l0_2 l0_3 a0_4 l0_5 l0_6 l0_7) else (spec_StmOK.j0 k a0_0 ((l0_7.length : Int) != 0) a0_0 a0_1 l0_2 l0_3 a0_4 l0_5 l0_6 l0_7)) else (spec_StmOK.j0 k a0_0 true a0_0 a0_1 l0_2 l0_3 a0_4 l0_5 l0_6 l0_7)) else (spec_StmOK.j0 k a0_0 true a0_0 a0_1 l0_2 l0_3 a0_4 l0_5 l0_6 l0_7))) else (if (l0_3.length : Int) = 0 then (if a0_0 = 3 then (if a0_0 = 5 then (spec_StmOK.j0 k a0_0 false a0_0 a0_1 l0_2 l0_3 a0_4 l0_5 l0_6 l0_7) else (spec_StmOK.j0 k a0_0 ((l0_7.length : Int) != 0) a0_0 a0_1 l0_2 l0_3 a0_4 l0_5 l0_6 l0_7)) else (if a0_4.toList = ([] : List UInt8) then (if (l0_5.length : Int) = 0 then (if a0_0 = 5 then (spec_StmOK.j0 k a0_0 false a0_0 a0_1 l0_2 l0_3 a0_4 l0_5 l0_6 l0_7) else (spec_StmOK.j0 k a0_0 ((l0_7.length : Int) != 0) a0_0 a0_1 l0_2 l0_3 a0_4 l0_5 l0_6 l0_7)) else (spec_StmOK.j0 k a0_0 true a0_0 a0_1 l0_2 l0_3 a0_4 l0_5 l0_6 l0_7)) else (spec_StmOK.j0 k a0_0 true a0_0 a0_1 l0_2 l0_3 a0_4 l0_5 l0_6 l0_7))) else (spec_StmOK.j0 k a0_0 true a0_0 a0_1 l0_2 l0_3 a0_4 l0_5 l0_6 l0_7))) else (spec_StmOK.j0 k a0_0 true a0_0 a0_1 l0_2 l0_3 a0_4 l0_5 l0_6 l0_7))) else (some false))
theorem spec_StmOK.mono_l : ∀ k, (∀ y0 y1 y2 y3 y4 y5 y6 y7 y8 y9, LeO (spec_StmOK.j0 k y0 y1 y2 y3 y4 y5 y6 y7 y8 y9) (spec_StmOK.j0 (k + 1) y0 y1 y2 y3 y4 y5 y6 y7 y8 y9)) ∧ (∀ y0 y1 y2 y3 y4 y5 y6 y7 y8 y9, LeO (spec_StmOK.j1 k y0 y1 y2 y3 y4 y5 y6 y7 y8 y9) (spec_StmOK.j1 (k + 1) y0 y1 y2 y3 y4 y5 y6 y7 y8 y9)) ∧ (∀ y0 y1 y2 y3 y4 y5 y6 y7 y8 y9 y10, LeO (spec_StmOK.l0 k y0 y1 y2 y3 y4 y5 y6 y7 y8 y9 y10) (spec_StmOK.l0 (k + 1) y0 y1 y2 y3 y4 y5 y6 y7 y8 y9 y10)) ∧ (∀ y0 y1 y2 y3 y4 y5 y6 y7 y8 y9 y10, LeO (spec_StmOK.l1 k y0 y1 y2 y3 y4 y5 y6 y7 y8 y9 y10) (spec_StmOK.l1 (k + 1) y0 y1 y2 y3 y4 y5 y6 y7 y8 y9 y10)) ∧ (∀ y0 y1 y2 y3 y4 y5 y6 y7 y8 y9 y10, LeO (spec_StmOK.l2 k y0 y1 y2 y3 y4 y5 y6 y7 y8 y9 y10) (spec_StmOK.l2 (k + 1) y0 y1 y2 y3 y4 y5 y6 y7 y8 y9 y10))
  | 0 => ⟨fun _ _ _ _ _ _ _ _ _ _ r h => by simp [spec_StmOK.j0] at h, fun _ _ _ _ _ _ _ _ _ _ r h => by simp [spec_StmOK.j1] at h, fun _ _ _ _ _ _ _ _ _ _ _ r h => by simp [spec_StmOK.l0] at h, fun _ _ _ _ _ _ _ _ _ _ _ r h => by simp [spec_StmOK.l1] at h, fun _ _ _ _ _ _ _ _ _ _ _ r h => by simp [spec_StmOK.l2] at h⟩
  | k + 1 => by
    obtain ⟨ih0, ih1, ih2, ih3, ih4⟩ := spec_StmOK.mono_l k
    refine ⟨?_, ?_, ?_, ?_, ?_⟩
    · intro y0 y1 y2 y3 y4 y5 y6 y7 y8 y9
      unfold spec_StmOK.j0
      repeat' first
      | (with_reducible exact ih0 _ _ _ _ _ _ _ _ _ _)
      | (with_reducible exact ih1 _ _ _ _ _ _ _ _ _ _)
      | (with_reducible exact ih2 _ _ _ _ _ _ _ _ _ _ _)
      | (with_reducible exact ih3 _ _ _ _ _ _ _ _ _ _ _)
      | (with_reducible exact ih4 _ _ _ _ _ _ _ _ _ _ _)
      | (with_reducible exact spec_l4Exp.mono _ _)
      | (with_reducible exact spec_l4Name.mono _ _)
      | (with_reducible exact spec_l4Value.mono _ _ _ _)
      | (with_reducible exact spec_l4Where.mono _ _)
      | (with_reducible exact LeO.refl _)
      | (with_reducible exact LeO.none _)
      | (with_reducible refine LeO.ite ?_ ?_)
      | (with_reducible refine LeO.bind ?_ (fun _ => ?_))
      | exact ih0 _ _ _ _ _ _ _ _ _ _
      | exact ih1 _ _ _ _ _ _ _ _ _ _
      | exact ih2 _ _ _ _ _ _ _ _ _ _ _
      | exact ih3 _ _ _ _ _ _ _ _ _ _ _
      | exact ih4 _ _ _ _ _ _ _ _ _ _ _
      | exact spec_l4Exp.mono _ _
      | exact spec_l4Name.mono _ _
      | exact spec_l4Value.mono _ _ _ _
      | exact spec_l4Where.mono _ _
      | exact LeO.none _
      | refine LeO.ite ?_ ?_
      | refine LeO.bind ?_ (fun _ => ?_)
    · intro y0 y1 y2 y3 y4 y5 y6 y7 y8 y9
      unfold spec_StmOK.j1
      repeat' first
      | (with_reducible exact ih0 _ _ _ _ _ _ _ _ _ _)
      | (with_reducible exact ih1 _ _ _ _ _ _ _ _ _ _)
      | (with_reducible exact ih2 _ _ _ _ _ _ _ _ _ _ _)
      | (with_reducible exact ih3 _ _ _ _ _ _ _ _ _ _ _)
      | (with_reducible exact ih4 _ _ _ _ _ _ _ _ _ _ _)
      | (with_reducible exact spec_l4Exp.mono _ _)
      | (with_reducible exact spec_l4Name.mono _ _)
      | (with_reducible exact spec_l4Value.mono _ _ _ _)
      | (with_reducible exact spec_l4Where.mono _ _)
      | (with_reducible exact LeO.refl _)
      | (with_reducible exact LeO.none _)
      | (with_reducible refine LeO.ite ?_ ?_)
      | (with_reducible refine LeO.bind ?_ (fun _ => ?_))
      | exact ih0 _ _ _ _ _ _ _ _ _ _
      | exact ih1 _ _ _ _ _ _ _ _ _ _
      | exact ih2 _ _ _ _ _ _ _ _ _ _ _
      | exact ih3 _ _ _ _ _ _ _ _ _ _ _
      | exact ih4 _ _ _ _ _ _ _ _ _ _ _
      | exact spec_l4Exp.mono _ _
      | exact spec_l4Name.mono _ _
      | exact spec_l4Value.mono _ _ _ _
      | exact spec_l4Where.mono _ _
      | exact LeO.none _
      | refine LeO.ite ?_ ?_
      | refine LeO.bind ?_ (fun _ => ?_)
    · intro y0 y1 y2 y3 y4 y5 y6 y7 y8 y9 y10
      unfold spec_StmOK.l0
      repeat' first
      | (with_reducible exact ih0 _ _ _ _ _ _ _ _ _ _)
      | (with_reducible exact ih1 _ _ _ _ _ _ _ _ _ _)
      | (with_reducible exact ih2 _ _ _ _ _ _ _ _ _ _ _)
      | (with_reducible exact ih3 _ _ _ _ _ _ _ _ _ _ _)
      | (with_reducible exact ih4 _ _ _ _ _ _ _ _ _ _ _)
      | (with_reducible exact spec_l4Exp.mono _ _)
      | (with_reducible exact spec_l4Name.mono _ _)
      | (with_reducible exact spec_l4Value.mono _ _ _ _)
      | (with_reducible exact spec_l4Where.mono _ _)
      | (with_reducible exact LeO.refl _)
      | (with_reducible exact LeO.none _)
      | (with_reducible refine LeO.ite ?_ ?_)
      | (with_reducible refine LeO.bind ?_ (fun _ => ?_))
      | exact ih0 _ _ _ _ _ _ _ _ _ _
      | exact ih1 _ _ _ _ _ _ _ _ _ _
      | exact ih2 _ _ _ _ _ _ _ _ _ _ _
      | exact ih3 _ _ _ _ _ _ _ _ _ _ _
      | exact ih4 _ _ _ _ _ _ _ _ _ _ _
      | exact spec_l4Exp.mono _ _
      | exact spec_l4Name.mono _ _
      | exact spec_l4Value.mono _ _ _ _
      | exact spec_l4Where.mono _ _
      | exact LeO.none _
      | refine LeO.ite ?_ ?_
      | refine LeO.bind ?_ (fun _ => ?_)
    · intro y0 y1 y2 y3 y4 y5 y6 y7 y8 y9 y10
      unfold spec_StmOK.l1
      repeat' first
      | (with_reducible exact ih0 _ _ _ _ _ _ _ _ _ _)
      | (with_reducible exact ih1 _ _ _ _ _ _ _ _ _ _)
      | (with_reducible exact ih2 _ _ _ _ _ _ _ _ _ _ _)
      | (with_reducible exact ih3 _ _ _ _ _ _ _ _ _ _ _)
      | (with_reducible exact ih4 _ _ _ _ _ _ _ _ _ _ _)
      | (with_reducible exact spec_l4Exp.mono _ _)
      | (with_reducible exact spec_l4Name.mono _ _)
      | (with_reducible exact spec_l4Value.mono _ _ _ _)
      | (with_reducible exact spec_l4Where.mono _ _)
      | (with_reducible exact LeO.refl _)
      | (with_reducible exact LeO.none _)
      | (with_reducible refine LeO.ite ?_ ?_)
      | (with_reducible refine LeO.bind ?_ (fun _ => ?_))
      | exact ih0 _ _ _ _ _ _ _ _ _ _
      | exact ih1 _ _ _ _ _ _ _ _ _ _
      | exact ih2 _ _ _ _ _ _ _ _ _ _ _
      | exact ih3 _ _ _ _ _ _ _ _ _ _ _
      | exact ih4 _ _ _ _ _ _ _ _ _ _ _
      | exact spec_l4Exp.mono _ _
      | exact spec_l4Name.mono _ _
      | exact spec_l4Value.mono _ _ _ _
      | exact spec_l4Where.mono _ _
      | exact LeO.none _
      | refine LeO.ite ?_ ?_
      | refine LeO.bind ?_ (fun _ => ?_)
    · intro y0 y1 y2 y3 y4 y5 y6 y7 y8 y9 y10
      unfold spec_StmOK.l2
      repeat' first
      | (with_reducible exact ih0 _ _ _ _ _ _ _ _ _ _)
      | (with_reducible exact ih1 _ _ _ _ _ _ _ _ _ _)
      | (with_reducible exact ih2 _ _ _ _ _ _ _ _ _ _ _)
      | (with_reducible exact ih3 _ _ _ _ _ _ _ _ _ _ _)
      | (with_reducible exact ih4 _ _ _ _ _ _ _ _ _ _ _)
      | (with_reducible exact spec_l4Exp.mono _ _)
      | (with_reducible exact spec_l4Name.mono _ _)
      | (with_reducible exact spec_l4Value.mono _ _ _ _)
      | (with_reducible exact spec_l4Where.mono _ _)
      | (with_reducible exact LeO.refl _)
      | (with_reducible exact LeO.none _)
      | (with_reducible refine LeO.ite ?_ ?_)
      | (with_reducible refine LeO.bind ?_ (fun _ => ?_))
      | exact ih0 _ _ _ _ _ _ _ _ _ _
      | exact ih1 _ _ _ _ _ _ _ _ _ _
      | exact ih2 _ _ _ _ _ _ _ _ _ _ _
      | exact ih3 _ _ _ _ _ _ _ _ _ _ _
      | exact ih4 _ _ _ _ _ _ _ _ _ _ _
      | exact spec_l4Exp.mono _ _
      | exact spec_l4Name.mono _ _
      | exact spec_l4Value.mono _ _ _ _
      | exact spec_l4Where.mono _ _
      | exact LeO.none _
      | refine LeO.ite ?_ ?_
      | refine LeO.bind ?_ (fun _ => ?_)
theorem spec_StmOK.mono : ∀ a0 a1 a2 a3 a4 a5 a6 a7 k, LeO (spec_StmOK.f k a0 a1 a2 a3 a4 a5 a6 a7) (spec_StmOK.f (k + 1) a0 a1 a2 a3 a4 a5 a6 a7) := by
  intro a0 a1 a2 a3 a4 a5 a6 a7 k
  obtain ⟨ih0, ih1, ih2, ih3, ih4⟩ := spec_StmOK.mono_l k
  unfold spec_StmOK.f
  repeat' first
      | (with_reducible exact ih0 _ _ _ _ _ _ _ _ _ _)
      | (with_reducible exact ih1 _ _ _ _ _ _ _ _ _ _)
      | (with_reducible exact ih2 _ _ _ _ _ _ _ _ _ _ _)
      | (with_reducible exact ih3 _ _ _ _ _ _ _ _ _ _ _)
      | (with_reducible exact ih4 _ _ _ _ _ _ _ _ _ _ _)
      | (with_reducible exact spec_l4Exp.mono _ _)
      | (with_reducible exact spec_l4Name.mono _ _)
      | (with_reducible exact spec_l4Value.mono _ _ _ _)
      | (with_reducible exact spec_l4Where.mono _ _)
      | (with_reducible exact LeO.refl _)
      | (with_reducible exact LeO.none _)
      | (with_reducible refine LeO.ite ?_ ?_)
      | (with_reducible refine LeO.bind ?_ (fun _ => ?_))
      | exact ih0 _ _ _ _ _ _ _ _ _ _
      | exact ih1 _ _ _ _ _ _ _ _ _ _
      | exact ih2 _ _ _ _ _ _ _ _ _ _ _
      | exact ih3 _ _ _ _ _ _ _ _ _ _ _
      | exact ih4 _ _ _ _ _ _ _ _ _ _ _
      | exact spec_l4Exp.mono _ _
      | exact spec_l4Name.mono _ _
      | exact spec_l4Value.mono _ _ _ _
      | exact spec_l4Where.mono _ _
      | exact LeO.none _
      | refine LeO.ite ?_ ?_
      | refine LeO.bind ?_ (fun _ => ?_)
end Go.Proofs.YtmchcoafkaggkaaDoor.L
end
