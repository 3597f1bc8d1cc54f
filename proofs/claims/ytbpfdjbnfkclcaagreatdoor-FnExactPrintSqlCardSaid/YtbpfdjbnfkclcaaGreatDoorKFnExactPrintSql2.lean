/- The texts that the proof of the law FnExactPrintSql rests on, part 2: printed functions with their contracts, words, plain laws; the last part ends in the statement itself. No condition but those that each theorem states. -/
import Derived.Test.YtbpfdjbnfkclcaaGreatDoorKFnExactPrintSql1
set_option linter.unusedVariables false
set_option linter.unusedSimpArgs false
section
namespace Go.Proofs.YtbpfdjbnfkclcaaGreatDoor.L
open Go.RowKit Go.Proofs.YtbpfdjbnfkclcaaGreatDoorW.PrintWords Go.Proofs.YtbpfdjbnfkclcaaGreatDoorW.PrintLast Go.Proofs.YtbpfdjbnfkclcaaGreatDoorW.PrintMore
attribute [local go_sem] max2_int min2_int max_two min_two max_three min_three max_four min_four
set_option linter.unusedVariables false
set_option linter.unusedSimpArgs false
def spec_l4Exp.l0 : Nat → Int → List (S75) → Int → Int → Option (Bool)
  | 0, _, _, _, _ => none
  | k + 1, x3, x10, x11, x12 => if x12 < x11 then (if 0 ≤ x12 then (if x12 < (x10.length : Int) then ((spec_l4Item.f k ((rd_T75 x10 x12).f0) ((rd_T75 x10 x12).f1) ((rd_T75 x10 x12).f2)).bind fun t142 => (if t142 = true then ((spec_l4Arity.f ((rd_T75 x10 x12).f0)).bind fun t143 => (if x3 < t143 then (some false) else ((spec_l4Arity.f ((rd_T75 x10 x12).f0)).bind fun t144 => (spec_l4Exp.l0 k (wrap64 (x3 + (wrap64 (1 - t144)))) x10 x11 (wrap64 (x12 + 1)))))) else (some false))) else (none)) else (none)) else (some (x3 == 1))
def spec_l4Exp.f (k : Nat) (l0 : List (S75)) : Option (Bool) := (spec_l1Between.f (l0.length : Int) 1 100).bind fun t139 => (if t139 = true then (spec_l4Exp.l0 k 0 l0 (l0.length : Int) 0) else (some false))
theorem spec_l4Exp.mono_l : ∀ k, (∀ y0 y1 y2 y3, LeO (spec_l4Exp.l0 k y0 y1 y2 y3) (spec_l4Exp.l0 (k + 1) y0 y1 y2 y3))
  | 0 => fun _ _ _ _ r h => by simp [spec_l4Exp.l0] at h
  | k + 1 => by
    have ih0 := spec_l4Exp.mono_l k
    · intro y0 y1 y2 y3
      unfold spec_l4Exp.l0
      repeat' first
      | (with_reducible exact ih0 _ _ _ _)
      | (with_reducible exact spec_l4Item.mono _ _ _ _)
      | (with_reducible exact LeO.refl _)
      | (with_reducible exact LeO.none _)
      | (with_reducible refine LeO.ite ?_ ?_)
      | (with_reducible refine LeO.bind ?_ (fun _ => ?_))
      | exact ih0 _ _ _ _
      | exact spec_l4Item.mono _ _ _ _
      | exact LeO.none _
      | refine LeO.ite ?_ ?_
      | refine LeO.bind ?_ (fun _ => ?_)
theorem spec_l4Exp.mono : ∀ a0 k, LeO (spec_l4Exp.f k a0) (spec_l4Exp.f (k + 1) a0) := by
  intro a0 k
  have ih0 := spec_l4Exp.mono_l k
  unfold spec_l4Exp.f
  repeat' first
      | (with_reducible exact ih0 _ _ _ _)
      | (with_reducible exact spec_l4Item.mono _ _ _ _)
      | (with_reducible exact LeO.refl _)
      | (with_reducible exact LeO.none _)
      | (with_reducible refine LeO.ite ?_ ?_)
      | (with_reducible refine LeO.bind ?_ (fun _ => ?_))
      | exact ih0 _ _ _ _
      | exact spec_l4Item.mono _ _ _ _
      | exact LeO.none _
      | refine LeO.ite ?_ ?_
      | refine LeO.bind ?_ (fun _ => ?_)
set_option maxHeartbeats 8000000 in
set_option maxRecDepth 100000 in
theorem spec_l4Exp.calls (k : Nat) (A0 : Option Addr) (c0 : Nat) (l0 : List (S75)) (r : Bool) (w : World) (hr0 : Kd.C k75 w A0 l0.length l0) (hc0 : l0.length ≤ c0) (h : spec_l4Exp.f k l0 = some r) :
    Calls Tryz.prog 36 #[.slice A0 l0.length c0] w fun e w' => e = .returned (.bool r) ∧ Below w.heap.size w w' := by
  have hu75 := Tryz.underlying75; have HR0 := qK hr0; have HC0 := qK hc0; clear hr0 hc0; have HB := qK (Below.refl w.heap.size w); have H : ((spec_l1Between.f (l0.length : Int) 1 100).bind fun t139 => (if t139 = true then (spec_l4Exp.l0 k 0 l0 (l0.length : Int) 0) else (some false))) = some r := h; clear h; replace H := Option.bind_eq_some_iff.mp H; obtain ⟨t139, A20, H⟩ := H; have A2 := qK A20; clear A20; by_cases c3 : t139 = true
  · subst c3; rw [if_pos rfl] at H; have H' := qK H; clear H; go_enter Tryz.func36, Tryz.ntmps36; go_wp2_with (first | ((with_reducible refine gcl (f := 56) rfl ?_); refine goesL_ (some 8) rfl rfl Tryz.func56 (by kernel_rfl) rfl #[.int .i64 (l0.length : Int), .int .i64 1, .int .i64 100] rfl qA ?_; (with_reducible refine (spec_l1Between.calls (l0.length : Int) 1 100 true _ A2.out).mono ?_); rintro e w' ⟨rfl, ⟨nd, rfl⟩⟩; refine ⟨_, rfl, ?_⟩)); go_loopg [3, 12] k (fun kq v3 v12 w' => ∃ (x3_1 : Int) (x12_1 : Int), v3 = .int .i64 x3_1 ∧ v12 = .int .i64 x12_1 ∧ Aside0 (spec_l4Exp.l0 kq x3_1 l0 (l0.length : Int) x12_1 = some r) ∧ Aside0 (kq ≤ k) ∧ Aside0 (Below w.heap.size w w'))
    case atStart => exact ⟨(0), (0), qS, qS, H', ⟨Nat.le_refl _⟩, ⟨qB⟩⟩
    case round =>
      clear H'; (try clear p2); (try clear c3); obtain ⟨x3_1, x12_1, rfl, rfl, HA, HK1, HB⟩ := hrel
      cases gk with
      | zero => exact absurd HA.out (by simp [spec_l4Exp.l0])
      | succ k1 =>
        have H := HA.out; clear HA; simp only [spec_l4Exp.l0] at H; by_cases c4 : x12_1 < (l0.length : Int)
        · rw [if_pos c4] at H; have c4b0 : decide (x12_1 < (l0.length : Int)) = true := decide_eq_true c4; clear c4; by_cases c5 : 0 ≤ x12_1
          · rw [if_pos c5] at H; have c5b0 : decide (0 ≤ x12_1) = true := decide_eq_true c5; clear c5; by_cases c6 : x12_1 < (l0.length : Int)
            · rw [if_pos c6] at H; have c6b0 : decide (x12_1 < (l0.length : Int)) = true := decide_eq_true c6; clear c6; replace H := Option.bind_eq_some_iff.mp H; obtain ⟨t142, A70, H⟩ := H; have A7 := qK A70; clear A70; by_cases c8 : t142 = true
              · subst c8; rw [if_pos rfl] at H; replace H := Option.bind_eq_some_iff.mp H; obtain ⟨t143, A90, H⟩ := H; have A9 := qK A90; clear A90; by_cases c10 : x3_1 < t143
                · rw [if_pos c10] at H; have c10b0 : decide (x3_1 < t143) = true := decide_eq_true c10; clear c10; obtain rfl := Option.some.inj H; have p140 : 0 ≤ (x12_1 : Int) := of_decide_eq_true qa; have q140 : x12_1 < (l0.length : Int) := of_decide_eq_true qa; obtain ⟨ad140, e140, hx140_0, hx140_1, hx140_2⟩ := at_T75 HR0.out x12_1 p140 q140; cases e140; replace hx140_0 := (HB.out.cell (World.block_lt_of_cell? w _ hx140_0)).trans hx140_0; replace hx140_1 := (HB.out.cell (World.block_lt_of_cell? w _ hx140_1)).trans hx140_1; replace hx140_2 := (HB.out.cell (World.block_lt_of_cell? w _ hx140_2)).trans hx140_2; replace p140 := eq_true p140; replace q140 := eq_true q140; go_wp2_with (first | ((with_reducible refine gds (N := 5) rfl ?_); refine qbx 5 #[.int .i64 0, .int .i64 0, .string (⟨#[]⟩ : ByteArray)] 75 ?_; intro gb141 hg w11 hbox hb; have BK141 := qK (hbox); have GW141 := qK ((qW : w.heap.size ≤ gb141)); have GE141 := GW141; replace HB := qHB HB hb; clear hb hbox hg; have hz12 := qz3 BK141.out) | ((with_reducible refine gcl (f := 63) rfl ?_); refine goesL_ (some 17) rfl rfl Tryz.func63 (by kernel_rfl) rfl #[.agg #[.int .i64 ((rd_T75 l0 x12_1).f0), .int .i64 ((rd_T75 l0 x12_1).f1), .string ((rd_T75 l0 x12_1).f2)]] rfl qA ?_; (with_reducible refine (spec_l4Item.calls k1 ((rd_T75 l0 x12_1).f0) ((rd_T75 l0 x12_1).f1) ((rd_T75 l0 x12_1).f2) true _ A7.out).mono ?_); rintro e w13 ⟨rfl, hb⟩; refine ⟨_, rfl, ?_⟩; replace BK141 := qK (bbe (g := gb141) (o := .cells #[.int .i64 ((rd_T75 l0 x12_1).f0), .int .i64 ((rd_T75 l0 x12_1).f1), .string ((rd_T75 l0 x12_1).f2)] 75 (0, 0)) (by (with_reducible repeat (first | refine bdN ?_ _ | refine bkD ?_ | refine bkA ?_ _)); refine bpu (cs := #[.int .i64 ((rd_T75 l0 x12_1).f0), .int .i64 ((rd_T75 l0 x12_1).f1), .string (⟨#[]⟩ : ByteArray)]) ?_ 2 _ rfl; refine bpu (cs := #[.int .i64 ((rd_T75 l0 x12_1).f0), .int .i64 0, .string (⟨#[]⟩ : ByteArray)]) ?_ 1 _ rfl; refine bpu (cs := #[.int .i64 0, .int .i64 0, .string (⟨#[]⟩ : ByteArray)]) ?_ 0 _ rfl; exact BK141.out) hb); replace HB := qHB HB hb; (try clear hb); (try clear hb2); (try clear hk); (try clear hi); have hz14 := qz3 BK141.out) | (go_at_call 64; (with_reducible refine (spec_l4Arity.calls ((rd_T75 l0 x12_1).f0) t143 _ A9.out).mono ?_); rintro e w' ⟨rfl, ⟨nd, rfl⟩⟩)); go_ret; exact ⟨qR, qB⟩
                · rw [if_neg c10] at H; have c10b0 : decide (x3_1 < t143) = false := decide_eq_false c10; clear c10; replace H := Option.bind_eq_some_iff.mp H; obtain ⟨t144, A150, H⟩ := H; have A15 := qK A150; clear A150; have H' := qK H; clear H; have p140 : 0 ≤ (x12_1 : Int) := of_decide_eq_true qa; have q140 : x12_1 < (l0.length : Int) := of_decide_eq_true qa; obtain ⟨ad140, e140, hx140_0, hx140_1, hx140_2⟩ := at_T75 HR0.out x12_1 p140 q140; cases e140; replace hx140_0 := (HB.out.cell (World.block_lt_of_cell? w _ hx140_0)).trans hx140_0; replace hx140_1 := (HB.out.cell (World.block_lt_of_cell? w _ hx140_1)).trans hx140_1; replace hx140_2 := (HB.out.cell (World.block_lt_of_cell? w _ hx140_2)).trans hx140_2; replace p140 := eq_true p140; replace q140 := eq_true q140; go_wp2_with (first | ((with_reducible refine gds (N := 5) rfl ?_); refine qbx 5 #[.int .i64 0, .int .i64 0, .string (⟨#[]⟩ : ByteArray)] 75 ?_; intro gb141 hg w16 hbox hb; have BK141 := qK (hbox); have GW141 := qK ((qW : w.heap.size ≤ gb141)); have GE141 := GW141; replace HB := qHB HB hb; clear hb hbox hg; have hz17 := qz3 BK141.out) | ((with_reducible refine gcl (f := 63) rfl ?_); refine goesL_ (some 17) rfl rfl Tryz.func63 (by kernel_rfl) rfl #[.agg #[.int .i64 ((rd_T75 l0 x12_1).f0), .int .i64 ((rd_T75 l0 x12_1).f1), .string ((rd_T75 l0 x12_1).f2)]] rfl qA ?_; (with_reducible refine (spec_l4Item.calls k1 ((rd_T75 l0 x12_1).f0) ((rd_T75 l0 x12_1).f1) ((rd_T75 l0 x12_1).f2) true _ A7.out).mono ?_); rintro e w18 ⟨rfl, hb⟩; refine ⟨_, rfl, ?_⟩; replace BK141 := qK (bbe (g := gb141) (o := .cells #[.int .i64 ((rd_T75 l0 x12_1).f0), .int .i64 ((rd_T75 l0 x12_1).f1), .string ((rd_T75 l0 x12_1).f2)] 75 (0, 0)) (by (with_reducible repeat (first | refine bdN ?_ _ | refine bkD ?_ | refine bkA ?_ _)); refine bpu (cs := #[.int .i64 ((rd_T75 l0 x12_1).f0), .int .i64 ((rd_T75 l0 x12_1).f1), .string (⟨#[]⟩ : ByteArray)]) ?_ 2 _ rfl; refine bpu (cs := #[.int .i64 ((rd_T75 l0 x12_1).f0), .int .i64 0, .string (⟨#[]⟩ : ByteArray)]) ?_ 1 _ rfl; refine bpu (cs := #[.int .i64 0, .int .i64 0, .string (⟨#[]⟩ : ByteArray)]) ?_ 0 _ rfl; exact BK141.out) hb); replace HB := qHB HB hb; (try clear hb); (try clear hb2); (try clear hk); (try clear hi); have hz19 := qz3 BK141.out) | (go_at_call 64; (with_reducible refine (spec_l4Arity.calls ((rd_T75 l0 x12_1).f0) t143 _ A9.out).mono ?_); rintro e w' ⟨rfl, ⟨nd, rfl⟩⟩) | ((with_reducible refine gcl (f := 64) rfl ?_); refine goesL_ (some 29) rfl rfl Tryz.func64 (by kernel_rfl) rfl #[.int .i64 ((rd_T75 l0 x12_1).f0)] rfl qA ?_; (with_reducible refine (spec_l4Arity.calls ((rd_T75 l0 x12_1).f0) t144 _ A15.out).mono ?_); rintro e w' ⟨rfl, ⟨nd, rfl⟩⟩; refine ⟨_, rfl, ?_⟩)); go_roundg k1
                  case measure => have := HK1.out; omega
                  case rel => exact ⟨(wrap64 (x3_1 + (wrap64 (1 - t144)))), (wrap64 (x12_1 + 1)), qS, qS, H', ⟨by have := HK1.out; omega⟩, ⟨qB⟩⟩
              · replace c8 := Bool.eq_false_iff.mpr c8; subst c8; rw [if_neg qff] at H; obtain rfl := Option.some.inj H; have p140 : 0 ≤ (x12_1 : Int) := of_decide_eq_true qa; have q140 : x12_1 < (l0.length : Int) := of_decide_eq_true qa; obtain ⟨ad140, e140, hx140_0, hx140_1, hx140_2⟩ := at_T75 HR0.out x12_1 p140 q140; cases e140; replace hx140_0 := (HB.out.cell (World.block_lt_of_cell? w _ hx140_0)).trans hx140_0; replace hx140_1 := (HB.out.cell (World.block_lt_of_cell? w _ hx140_1)).trans hx140_1; replace hx140_2 := (HB.out.cell (World.block_lt_of_cell? w _ hx140_2)).trans hx140_2; replace p140 := eq_true p140; replace q140 := eq_true q140; go_wp2_with (first | ((with_reducible refine gds (N := 5) rfl ?_); refine qbx 5 #[.int .i64 0, .int .i64 0, .string (⟨#[]⟩ : ByteArray)] 75 ?_; intro gb141 hg w20 hbox hb; have BK141 := qK (hbox); have GW141 := qK ((qW : w.heap.size ≤ gb141)); have GE141 := GW141; replace HB := qHB HB hb; clear hb hbox hg; have hz21 := qz3 BK141.out) | ((with_reducible refine gcl (f := 63) rfl ?_); refine goesL_ (some 17) rfl rfl Tryz.func63 (by kernel_rfl) rfl #[.agg #[.int .i64 ((rd_T75 l0 x12_1).f0), .int .i64 ((rd_T75 l0 x12_1).f1), .string ((rd_T75 l0 x12_1).f2)]] rfl qA ?_; (with_reducible refine (spec_l4Item.calls k1 ((rd_T75 l0 x12_1).f0) ((rd_T75 l0 x12_1).f1) ((rd_T75 l0 x12_1).f2) false _ A7.out).mono ?_); rintro e w22 ⟨rfl, hb⟩; refine ⟨_, rfl, ?_⟩; replace BK141 := qK (bbe (g := gb141) (o := .cells #[.int .i64 ((rd_T75 l0 x12_1).f0), .int .i64 ((rd_T75 l0 x12_1).f1), .string ((rd_T75 l0 x12_1).f2)] 75 (0, 0)) (by (with_reducible repeat (first | refine bdN ?_ _ | refine bkD ?_ | refine bkA ?_ _)); refine bpu (cs := #[.int .i64 ((rd_T75 l0 x12_1).f0), .int .i64 ((rd_T75 l0 x12_1).f1), .string (⟨#[]⟩ : ByteArray)]) ?_ 2 _ rfl; refine bpu (cs := #[.int .i64 ((rd_T75 l0 x12_1).f0), .int .i64 0, .string (⟨#[]⟩ : ByteArray)]) ?_ 1 _ rfl; refine bpu (cs := #[.int .i64 0, .int .i64 0, .string (⟨#[]⟩ : ByteArray)]) ?_ 0 _ rfl; exact BK141.out) hb); replace HB := qHB HB hb; (try clear hb); (try clear hb2); (try clear hk); (try clear hi))); go_ret; exact ⟨qR, qB⟩
            · rw [if_neg c6] at H; exact absurd H (by simp)
          · rw [if_neg c5] at H; exact absurd H (by simp)
        · rw [if_neg c4] at H; have c4b0 : decide (x12_1 < (l0.length : Int)) = false := decide_eq_false c4; clear c4; obtain rfl := Option.some.inj H; go_wp2; go_ret; exact ⟨qR, qB⟩
  · replace c3 := Bool.eq_false_iff.mpr c3; subst c3; rw [if_neg qff] at H; obtain rfl := Option.some.inj H; go_enter Tryz.func36, Tryz.ntmps36; go_wp2_with (first | ((with_reducible refine gcl (f := 56) rfl ?_); refine goesL_ (some 8) rfl rfl Tryz.func56 (by kernel_rfl) rfl #[.int .i64 (l0.length : Int), .int .i64 1, .int .i64 100] rfl qA ?_; (with_reducible refine (spec_l1Between.calls (l0.length : Int) 1 100 false _ A2.out).mono ?_); rintro e w' ⟨rfl, ⟨nd, rfl⟩⟩; refine ⟨_, rfl, ?_⟩)); go_ret; exact ⟨qR, qB⟩
def spec_l4Where.f (k : Nat) (l0 : List (S75)) : Option (Bool) := if (l0.length : Int) = 0 then (some true) else ((spec_l4Exp.f k l0).bind fun t145 => (some t145))
theorem spec_l4Where.mono : ∀ a0 k, LeO (spec_l4Where.f k a0) (spec_l4Where.f (k + 1) a0) := by
  intro a0 k
  unfold spec_l4Where.f
  repeat' first
      | (with_reducible exact spec_l4Exp.mono _ _)
      | (with_reducible exact LeO.refl _)
      | (with_reducible exact LeO.none _)
      | (with_reducible refine LeO.ite ?_ ?_)
      | (with_reducible refine LeO.bind ?_ (fun _ => ?_))
      | exact spec_l4Exp.mono _ _
      | exact LeO.none _
      | refine LeO.ite ?_ ?_
      | refine LeO.bind ?_ (fun _ => ?_)
set_option maxHeartbeats 8000000 in
set_option maxRecDepth 100000 in
theorem spec_l4Where.calls (k : Nat) (A0 : Option Addr) (c0 : Nat) (l0 : List (S75)) (r : Bool) (w : World) (hr0 : Kd.C k75 w A0 l0.length l0) (hc0 : l0.length ≤ c0) (h : spec_l4Where.f k l0 = some r) :
    Calls Tryz.prog 37 #[.slice A0 l0.length c0] w fun e w' => e = .returned (.bool r) ∧ Below w.heap.size w w' := by
  have HR0 := qK hr0; have HC0 := qK hc0; clear hr0 hc0; have HB := qK (Below.refl w.heap.size w); have H : (if (l0.length : Int) = 0 then (some true) else ((spec_l4Exp.f k l0).bind fun t145 => (some t145))) = some r := h; clear h; by_cases c2 : (l0.length : Int) = 0
  · rw [if_pos c2] at H; have c2b0 : ((l0.length : Int) == 0) = true := beq_iff_eq.mpr c2; have c2b1 : ((l0.length : Int) != 0) = false := bne_eq_false_iff_eq.mpr c2; clear c2; obtain rfl := Option.some.inj H; go_enter Tryz.func37, Tryz.ntmps37; go_wp2; go_ret; exact ⟨qR, qB⟩
  · rw [if_neg c2] at H; have c2b0 : ((l0.length : Int) == 0) = false := beq_eq_false_iff_ne.mpr c2; have c2b1 : ((l0.length : Int) != 0) = true := bne_iff_ne.mpr c2; have c2b2 : ¬ (l0 = []) := fun h_ => c2 (by rw [h_]; rfl); replace H := Option.bind_eq_some_iff.mp H; obtain ⟨t145, A30, H⟩ := H; have A3 := qK A30; clear A30; obtain rfl := Option.some.inj H; go_enter Tryz.func37, Tryz.ntmps37; go_wp2_with (first | (go_at_call 36; (with_reducible refine (spec_l4Exp.calls k _ _ l0 t145 _ ?side1 ?side2 A3.out).mono ?_); (case side1 => repeat (first | exact HR0.out | (with_reducible refine Kd.Cal ?_ _) | (with_reducible refine Kd.CdN ?_ _) | (with_reducible refine Kd.Cdr ?_))); (case side2 => exact HC0.out); rintro e w4 ⟨rfl, hb⟩; replace HB := qHB HB hb; (try clear hb); (try clear hb2); (try clear hk); (try clear hi))); go_ret; exact ⟨qR, qB⟩
end Go.Proofs.YtbpfdjbnfkclcaaGreatDoor.L
end
section
namespace Go.Proofs.YtbpfdjbnfkclcaaGreatDoor.L
open Go.RowKit Go.Proofs.YtbpfdjbnfkclcaaGreatDoorW.PrintWords Go.Proofs.YtbpfdjbnfkclcaaGreatDoorW.PrintLast Go.Proofs.YtbpfdjbnfkclcaaGreatDoorW.PrintMore
attribute [local go_sem] max2_int min2_int max_two min_two max_three min_three max_four min_four
set_option linter.unusedVariables false
set_option linter.unusedSimpArgs false
mutual
def spec_StmOK.j0 : Nat → Int → Bool → Int → ByteArray → List (S46) → List (S49) → ByteArray → List (S75) → List (S75) → List (List (S75)) → Option (Bool)
  | 0, _, _, _, _, _, _, _, _, _, _ => none
  | k + 1, x3, x58, x147000, x147001, x147002, x147003, x147004, x147005, x147006, x147007 => if x58 = true then (some false) else (if x3 < 3 then (spec_StmOK.j1 k x3 ((x147006.length : Int) != 0) x147000 x147001 x147002 x147003 x147004 x147005 x147006 x147007) else (spec_StmOK.j1 k x3 false x147000 x147001 x147002 x147003 x147004 x147005 x147006 x147007))
def spec_StmOK.j1 : Nat → Int → Bool → Int → ByteArray → List (S46) → List (S49) → ByteArray → List (S75) → List (S75) → List (List (S75)) → Option (Bool)
  | 0, _, _, _, _, _, _, _, _, _, _ => none
  | k + 1, x3, x66, x147000, x147001, x147002, x147003, x147004, x147005, x147006, x147007 => if x66 = true then (some false) else (if x3 = 1 then (spec_StmOK.l0 k x147002 (x147002.length : Int) 0 x147000 x147001 x147002 x147003 x147004 x147005 x147006 x147007) else (if x3 = 2 then (spec_StmOK.l1 k x147003 (x147003.length : Int) 0 x147000 x147001 x147002 x147003 x147004 x147005 x147006 x147007) else (if x3 = 3 then ((spec_l4Name.f k x147004).bind fun t155 => (if t155 = true then ((spec_l4Exp.f k x147005).bind fun t156 => (if t156 = true then ((spec_l4Where.f k x147006).bind fun t157 => (some t157)) else (some false))) else (some false))) else (if x3 = 4 then ((spec_l4Where.f k x147006).bind fun t158 => (some t158)) else (if x3 = 5 then (spec_StmOK.l2 k x147007 (x147007.length : Int) 0 x147000 x147001 x147002 x147003 x147004 x147005 x147006 x147007) else (some false))))))
def spec_StmOK.l0 : Nat → List (S46) → Int → Int → Int → ByteArray → List (S46) → List (S49) → ByteArray → List (S75) → List (S75) → List (List (S75)) → Option (Bool)
  | 0, _, _, _, _, _, _, _, _, _, _, _ => none
  | k + 1, x71, x72, x73, x147000, x147001, x147002, x147003, x147004, x147005, x147006, x147007 => if x73 < x72 then (if 0 ≤ x73 then (if x73 < (x71.length : Int) then (if (x147002.length : Int) > 20 then (some false) else ((spec_l4Name.f k ((rd_T46 x71 x73).f0)).bind fun t150 => (if t150 = true then ((spec_l4Type.f ((rd_T46 x71 x73).f1)).bind fun t151 => (if t151 = true then (spec_StmOK.l0 k x71 x72 (wrap64 (x73 + 1)) x147000 x147001 x147002 x147003 x147004 x147005 x147006 x147007) else (some false))) else (some false)))) else (none)) else (none)) else (some (decide ((x147002.length : Int) > 0)))
def spec_StmOK.l1 : Nat → List (S49) → Int → Int → Int → ByteArray → List (S46) → List (S49) → ByteArray → List (S75) → List (S75) → List (List (S75)) → Option (Bool)
  | 0, _, _, _, _, _, _, _, _, _, _, _ => none
  | k + 1, x101, x102, x103, x147000, x147001, x147002, x147003, x147004, x147005, x147006, x147007 => if x103 < x102 then (if 0 ≤ x103 then (if x103 < (x101.length : Int) then (if (x147003.length : Int) > 20 then (some false) else ((spec_l4Value.f k ((rd_T49 x101 x103).f0) ((rd_T49 x101 x103).f1) ((rd_T49 x101 x103).f2)).bind fun t154 => (if t154 = true then (spec_StmOK.l1 k x101 x102 (wrap64 (x103 + 1)) x147000 x147001 x147002 x147003 x147004 x147005 x147006 x147007) else (some false)))) else (none)) else (none)) else (some (decide ((x147003.length : Int) > 0)))
def spec_StmOK.l2 : Nat → List (List (S75)) → Int → Int → Int → ByteArray → List (S46) → List (S49) → ByteArray → List (S75) → List (S75) → List (List (S75)) → Option (Bool)
  | 0, _, _, _, _, _, _, _, _, _, _, _ => none
  | k + 1, x144, x145, x146, x147000, x147001, x147002, x147003, x147004, x147005, x147006, x147007 => if x146 < x145 then (if 0 ≤ x146 then (if x146 < (x144.length : Int) then (if (x147007.length : Int) > 20 then (some false) else ((spec_l4Exp.f k (rd_L9 x144 x146)).bind fun t160 => (if t160 = true then (spec_StmOK.l2 k x144 x145 (wrap64 (x146 + 1)) x147000 x147001 x147002 x147003 x147004 x147005 x147006 x147007) else (some false)))) else (none)) else (none)) else (if (x147007.length : Int) > 0 then ((spec_l4Where.f k x147006).bind fun t161 => (some t161)) else (some false))
end
def spec_StmOK.f (k : Nat) (a0_0 : Int) (a0_1 : ByteArray) (l0_2 : List (S46)) (l0_3 : List (S49)) (a0_4 : ByteArray) (l0_5 : List (S75)) (l0_6 : List (S75)) (l0_7 : List (List (S75))) : Option (Bool) := (spec_l4Name.f k a0_1).bind fun t147 => (if t147 = true then (if a0_0 = 1 then (if a0_0 = 2 then (if a0_0 = 3 then (if a0_0 = 5 then (spec_StmOK.j0 k a0_0 false a0_0 a0_1 l0_2 l0_3 a0_4 l0_5 l0_6 l0_7) else (spec_StmOK.j0 k a0_0 ((l0_7.length : Int) != 0) a0_0 a0_1 l0_2 l0_3 a0_4 l0_5 l0_6 l0_7)) else (if a0_4.toList = ([] : List UInt8) then (if (l0_5.length : Int) = 0 then (if a0_0 = 5 then (spec_StmOK.j0 k a0_0 false a0_0 a0_1 l0_2 l0_3 a0_4 l0_5 l0_6 l0_7) else (spec_StmOK.j0 k a0_0 ((l0_7.length : Int) != 0) a0_0 a0_1 l0_2 l0_3 a0_4 l0_5 l0_6 l0_7)) else (spec_StmOK.j0 k a0_0 true a0_0 a0_1 l0_2 l0_3 a0_4 l0_5 l0_6 l0_7)) else (spec_StmOK.j0 k a0_0 true a0_0 a0_1 l0_2 l0_3 a0_4 l0_5 l0_6 l0_7))) else (if (l0_3.length : Int) = 0 then (if a0_0 = 3 then (if a0_0 = 5 then (spec_StmOK.j0 k a0_0 false a0_0 a0_1 l0_2 l0_3 a0_4 l0_5 l0_6 l0_7) else (spec_StmOK.j0 k a0_0 ((l0_7.length : Int) != 0) a0_0 a0_1 l0_2 l0_3 a0_4 l0_5 l0_6 l0_7)) else (if a0_4.toList = ([] : List UInt8) then (if (l0_5.length : Int) = 0 then (if a0_0 = 5 then (spec_StmOK.j0 k a0_0 false a0_0 a0_1 l0_2 l0_3 a0_4 l0_5 l0_6 l0_7) else (spec_StmOK.j0 k a0_0 ((l0_7.length : Int) != 0) a0_0 a0_1 l0_2 l0_3 a0_4 l0_5 l0_6 l0_7)) else (spec_StmOK.j0 k a0_0 true a0_0 a0_1 l0_2 l0_3 a0_4 l0_5 l0_6 l0_7)) else (spec_StmOK.j0 k a0_0 true a0_0 a0_1 l0_2 l0_3 a0_4 l0_5 l0_6 l0_7))) else (spec_StmOK.j0 k a0_0 true a0_0 a0_1 l0_2 l0_3 a0_4 l0_5 l0_6 l0_7))) else (if (l0_2.length : Int) = 0 then (if a0_0 = 2 then (if a0_0 = 3 then (if a0_0 = 5 then (spec_StmOK.j0 k a0_0 false a0_0 a0_1 l0_2 l0_3 a0_4 l0_5 l0_6 l0_7) else (spec_StmOK.j0 k a0_0 ((l0_7.length : Int) != 0) a0_0 a0_1 l0_2 l0_3 a0_4 l0_5 l0_6 l0_7)) else (if a0_4.toList = ([] : List UInt8) then (if (l0_5.length : Int) = 0 then (if a0_0 = 5 then (spec_StmOK.j0 k a0_0 false a0_0 a0_1 l0_2 l0_3 a0_4 l0_5 l0_6 l0_7) else (spec_StmOK.j0 k a0_0 ((l0_7.length : Int) != 0) a0_0 a0_1 l0_2 l0_3 a0_4 l0_5 l0_6 l0_7)) else (spec_StmOK.j0 k a0_0 true a0_0 a0_1 l0_2 l0_3 a0_4 l0_5 l0_6 l0_7)) else (spec_StmOK.j0 k a0_0 true a0_0 a0_1 l0_2 l0_3 a0_4 l0_5 l0_6 l0_7))) else (if (l0_3.length : Int) = 0 then (if a0_0 = 3 then (if a0_0 = 5 then (spec_StmOK.j0 k a0_0 false a0_0 a0_1 l0_2 l0_3 a0_4 l0_5 l0_6 l0_7) else (spec_StmOK.j0 k a0_0 ((l0_7.length : Int) != 0) a0_0 a0_1 l0_2 l0_3 a0_4 l0_5 l0_6 l0_7)) else (if a0_4.toList = ([] : List UInt8) then (if (l0_5.length : Int) = 0 then (if a0_0 = 5 then (spec_StmOK.j0 k a0_0 false a0_0 a0_1 l0_2 l0_3 a0_4 l0_5 l0_6 l0_7) else (spec_StmOK.j0 k a0_0 ((l0_7.length : Int) != 0) a0_0 a0_1 l0_2 l0_3 a0_4 l0_5 l0_6 l0_7)) else (spec_StmOK.j0 k a0_0 true a0_0 a0_1 l0_2 l0_3 a0_4 l0_5 l0_6 l0_7)) else (spec_StmOK.j0 k a0_0 true a0_0 a0_1 l0_2 l0_3 a0_4 l0_5 l0_6 l0_7))) else (spec_StmOK.j0 k a0_0 true a0_0 a0_1 l0_2 l0_3 a0_4 l0_5 l0_6 l0_7))) else (spec_StmOK.j0 k a0_0 true a0_0 a0_1 l0_2 l0_3 a0_4 l0_5 l0_6 l0_7))) else (some false))
theorem spec_StmOK.mono_l : ∀ k, (∀ y0 y1 y2 y3 y4 y5 y6 y7 y8 y9, LeO (spec_StmOK.j0 k y0 y1 y2 y3 y4 y5 y6 y7 y8 y9) (spec_StmOK.j0 (k + 1) y0 y1 y2 y3 y4 y5 y6 y7 y8 y9)) ∧ (∀ y0 y1 y2 y3 y4 y5 y6 y7 y8 y9, LeO (spec_StmOK.j1 k y0 y1 y2 y3 y4 y5 y6 y7 y8 y9) (spec_StmOK.j1 (k + 1) y0 y1 y2 y3 y4 y5 y6 y7 y8 y9)) ∧ (∀ y0 y1 y2 y3 y4 y5 y6 y7 y8 y9 y10, LeO (spec_StmOK.l0 k y0 y1 y2 y3 y4 y5 y6 y7 y8 y9 y10) (spec_StmOK.l0 (k + 1) y0 y1 y2 y3 y4 y5 y6 y7 y8 y9 y10)) ∧ (∀ y0 y1 y2 y3 y4 y5 y6 y7 y8 y9 y10, LeO (spec_StmOK.l1 k y0 y1 y2 y3 y4 y5 y6 y7 y8 y9 y10) (spec_StmOK.l1 (k + 1) y0 y1 y2 y3 y4 y5 y6 y7 y8 y9 y10)) ∧ (∀ y0 y1 y2 y3 y4 y5 y6 y7 y8 y9 y10, LeO (spec_StmOK.l2 k y0 y1 y2 y3 y4 y5 y6 y7 y8 y9 y10) (spec_StmOK.l2 (k + 1) y0 y1 y2 y3 y4 y5 y6 y7 y8 y9 y10))
  | 0 => ⟨fun _ _ _ _ _ _ _ _ _ _ r h => by simp [spec_StmOK.j0] at h, fun _ _ _ _ _ _ _ _ _ _ r h => by simp [spec_StmOK.j1] at h, fun _ _ _ _ _ _ _ _ _ _ _ r h => by simp [spec_StmOK.l0] at h, fun _ _ _ _ _ _ _ _ _ _ _ r h => by simp [spec_StmOK.l1] at h, fun _ _ _ _ _ _ _ _ _ _ _ r h => by simp [spec_StmOK.l2] at h⟩
  | k + 1 => by
    obtain ⟨ih0, ih1, ih2, ih3, ih4⟩ := spec_StmOK.mono_l k
    refine ⟨?_, ?_, ?_, ?_, ?_⟩
    · intro y0 y1 y2 y3 y4 y5 y6 y7 y8 y9
      unfold spec_StmOK.j0
      repeat' first
      | (with_reducible exact ih0 _ _ _ _ _ _ _ _ _ _)
      | (with_reducible exact ih1 _ _ _ _ _ _ _ _ _ _)
      | (with_reducible exact ih2 _ _ _ _ _ _ _ _ _ _ _)
      | (with_reducible exact ih3 _ _ _ _ _ _ _ _ _ _ _)
      | (with_reducible exact ih4 _ _ _ _ _ _ _ _ _ _ _)
      | (with_reducible exact spec_l4Exp.mono _ _)
      | (with_reducible exact spec_l4Name.mono _ _)
      | (with_reducible exact spec_l4Value.mono _ _ _ _)
      | (with_reducible exact spec_l4Where.mono _ _)
      | (with_reducible exact LeO.refl _)
      | (with_reducible exact LeO.none _)
      | (with_reducible refine LeO.ite ?_ ?_)
      | (with_reducible refine LeO.bind ?_ (fun _ => ?_))
      | exact ih0 _ _ _ _ _ _ _ _ _ _
      | exact ih1 _ _ _ _ _ _ _ _ _ _
      | exact ih2 _ _ _ _ _ _ _ _ _ _ _
      | exact ih3 _ _ _ _ _ _ _ _ _ _ _
      | exact ih4 _ _ _ _ _ _ _ _ _ _ _
      | exact spec_l4Exp.mono _ _
      | exact spec_l4Name.mono _ _
      | exact spec_l4Value.mono _ _ _ _
      | exact spec_l4Where.mono _ _
      | exact LeO.none _
      | refine LeO.ite ?_ ?_
      | refine LeO.bind ?_ (fun _ => ?_)
    · intro y0 y1 y2 y3 y4 y5 y6 y7 y8 y9
      unfold spec_StmOK.j1
      repeat' first
      | (with_reducible exact ih0 _ _ _ _ _ _ _ _ _ _)
      | (with_reducible exact ih1 _ _ _ _ _ _ _ _ _ _)
      | (with_reducible exact ih2 _ _ _ _ _ _ _ _ _ _ _)
      | (with_reducible exact ih3 _ _ _ _ _ _ _ _ _ _ _)
      | (with_reducible exact ih4 _ _ _ _ _ _ _ _ _ _ _)
      | (with_reducible exact spec_l4Exp.mono _ _)
      | (with_reducible exact spec_l4Name.mono _ _)
      | (with_reducible exact spec_l4Value.mono _ _ _ _)
      | (with_reducible exact spec_l4Where.mono _ _)
      | (with_reducible exact LeO.refl _)
      | (with_reducible exact LeO.none _)
      | (with_reducible refine LeO.ite ?_ ?_)
      | (with_reducible refine LeO.bind ?_ (fun _ => ?_))
      | exact ih0 _ _ _ _ _ _ _ _ _ _
      | exact ih1 _ _ _ _ _ _ _ _ _ _
      | exact ih2 _ _ _ _ _ _ _ _ _ _ _
      | exact ih3 _ _ _ _ _ _ _ _ _ _ _
      | exact ih4 _ _ _ _ _ _ _ _ _ _ _
      | exact spec_l4Exp.mono _ _
      | exact spec_l4Name.mono _ _
      | exact spec_l4Value.mono _ _ _ _
      | exact spec_l4Where.mono _ _
      | exact LeO.none _
      | refine LeO.ite ?_ ?_
      | refine LeO.bind ?_ (fun _ => ?_)
    · intro y0 y1 y2 y3 y4 y5 y6 y7 y8 y9 y10
      unfold spec_StmOK.l0
      repeat' first
      | (with_reducible exact ih0 _ _ _ _ _ _ _ _ _ _)
      | (with_reducible exact ih1 _ _ _ _ _ _ _ _ _ _)
      | (with_reducible exact ih2 _ _ _ _ _ _ _ _ _ _ _)
      | (with_reducible exact ih3 _ _ _ _ _ _ _ _ _ _ _)
      | (with_reducible exact ih4 _ _ _ _ _ _ _ _ _ _ _)
      | (with_reducible exact spec_l4Exp.mono _ _)
      | (with_reducible exact spec_l4Name.mono _ _)
      | (with_reducible exact spec_l4Value.mono _ _ _ _)
      | (with_reducible exact spec_l4Where.mono _ _)
      | (with_reducible exact LeO.refl _)
      | (with_reducible exact LeO.none _)
      | (with_reducible refine LeO.ite ?_ ?_)
      | (with_reducible refine LeO.bind ?_ (fun _ => ?_))
      | exact ih0 _ _ _ _ _ _ _ _ _ _
      | exact ih1 _ _ _ _ _ _ _ _ _ _
      | exact ih2 _ _ _ _ _ _ _ _ _ _ _
      | exact ih3 _ _ _ _ _ _ _ _ _ _ _
      | exact ih4 _ _ _ _ _ _ _ _ _ _ _
      | exact spec_l4Exp.mono _ _
      | exact spec_l4Name.mono _ _
      | exact spec_l4Value.mono _ _ _ _
      | exact spec_l4Where.mono _ _
      | exact LeO.none _
      | refine LeO.ite ?_ ?_
      | refine LeO.bind ?_ (fun _ => ?_)
    · intro y0 y1 y2 y3 y4 y5 y6 y7 y8 y9 y10
      unfold spec_StmOK.l1
      repeat' first
      | (with_reducible exact ih0 _ _ _ _ _ _ _ _ _ _)
      | (with_reducible exact ih1 _ _ _ _ _ _ _ _ _ _)
      | (with_reducible exact ih2 _ _ _ _ _ _ _ _ _ _ _)
      | (with_reducible exact ih3 _ _ _ _ _ _ _ _ _ _ _)
      | (with_reducible exact ih4 _ _ _ _ _ _ _ _ _ _ _)
      | (with_reducible exact spec_l4Exp.mono _ _)
      | (with_reducible exact spec_l4Name.mono _ _)
      | (with_reducible exact spec_l4Value.mono _ _ _ _)
      | (with_reducible exact spec_l4Where.mono _ _)
      | (with_reducible exact LeO.refl _)
      | (with_reducible exact LeO.none _)
      | (with_reducible refine LeO.ite ?_ ?_)
      | (with_reducible refine LeO.bind ?_ (fun _ => ?_))
      | exact ih0 _ _ _ _ _ _ _ _ _ _
      | exact ih1 _ _ _ _ _ _ _ _ _ _
      | exact ih2 _ _ _ _ _ _ _ _ _ _ _
      | exact ih3 _ _ _ _ _ _ _ _ _ _ _
      | exact ih4 _ _ _ _ _ _ _ _ _ _ _
      | exact spec_l4Exp.mono _ _
      | exact spec_l4Name.mono _ _
      | exact spec_l4Value.mono _ _ _ _
      | exact spec_l4Where.mono _ _
      | exact LeO.none _
      | refine LeO.ite ?_ ?_
      | refine LeO.bind ?_ (fun _ => ?_)
    · intro y0 y1 y2 y3 y4 y5 y6 y7 y8 y9 y10
      unfold spec_StmOK.l2
      repeat' first
      | (with_reducible exact ih0 _ _ _ _ _ _ _ _ _ _)
      | (with_reducible exact ih1 _ _ _ _ _ _ _ _ _ _)
      | (with_reducible exact ih2 _ _ _ _ _ _ _ _ _ _ _)
      | (with_reducible exact ih3 _ _ _ _ _ _ _ _ _ _ _)
      | (with_reducible exact ih4 _ _ _ _ _ _ _ _ _ _ _)
      | (with_reducible exact spec_l4Exp.mono _ _)
      | (with_reducible exact spec_l4Name.mono _ _)
      | (with_reducible exact spec_l4Value.mono _ _ _ _)
      | (with_reducible exact spec_l4Where.mono _ _)
      | (with_reducible exact LeO.refl _)
      | (with_reducible exact LeO.none _)
      | (with_reducible refine LeO.ite ?_ ?_)
      | (with_reducible refine LeO.bind ?_ (fun _ => ?_))
      | exact ih0 _ _ _ _ _ _ _ _ _ _
      | exact ih1 _ _ _ _ _ _ _ _ _ _
      | exact ih2 _ _ _ _ _ _ _ _ _ _ _
      | exact ih3 _ _ _ _ _ _ _ _ _ _ _
      | exact ih4 _ _ _ _ _ _ _ _ _ _ _
      | exact spec_l4Exp.mono _ _
      | exact spec_l4Name.mono _ _
      | exact spec_l4Value.mono _ _ _ _
      | exact spec_l4Where.mono _ _
      | exact LeO.none _
      | refine LeO.ite ?_ ?_
      | refine LeO.bind ?_ (fun _ => ?_)
theorem spec_StmOK.mono : ∀ a0 a1 a2 a3 a4 a5 a6 a7 k, LeO (spec_StmOK.f k a0 a1 a2 a3 a4 a5 a6 a7) (spec_StmOK.f (k + 1) a0 a1 a2 a3 a4 a5 a6 a7) := by
  intro a0 a1 a2 a3 a4 a5 a6 a7 k
  obtain ⟨ih0, ih1, ih2, ih3, ih4⟩ := spec_StmOK.mono_l k
  unfold spec_StmOK.f
  repeat' first
      | (with_reducible exact ih0 _ _ _ _ _ _ _ _ _ _)
      | (with_reducible exact ih1 _ _ _ _ _ _ _ _ _ _)
      | (with_reducible exact ih2 _ _ _ _ _ _ _ _ _ _ _)
      | (with_reducible exact ih3 _ _ _ _ _ _ _ _ _ _ _)
      | (with_reducible exact ih4 _ _ _ _ _ _ _ _ _ _ _)
      | (with_reducible exact spec_l4Exp.mono _ _)
      | (with_reducible exact spec_l4Name.mono _ _)
      | (with_reducible exact spec_l4Value.mono _ _ _ _)
      | (with_reducible exact spec_l4Where.mono _ _)
      | (with_reducible exact LeO.refl _)
      | (with_reducible exact LeO.none _)
      | (with_reducible refine LeO.ite ?_ ?_)
      | (with_reducible refine LeO.bind ?_ (fun _ => ?_))
      | exact ih0 _ _ _ _ _ _ _ _ _ _
      | exact ih1 _ _ _ _ _ _ _ _ _ _
      | exact ih2 _ _ _ _ _ _ _ _ _ _ _
      | exact ih3 _ _ _ _ _ _ _ _ _ _ _
      | exact ih4 _ _ _ _ _ _ _ _ _ _ _
      | exact spec_l4Exp.mono _ _
      | exact spec_l4Name.mono _ _
      | exact spec_l4Value.mono _ _ _ _
      | exact spec_l4Where.mono _ _
      | exact LeO.none _
      | refine LeO.ite ?_ ?_
      | refine LeO.bind ?_ (fun _ => ?_)
set_option maxHeartbeats 8000000 in
set_option maxRecDepth 100000 in
theorem spec_StmOK.calls (k : Nat) (a0_0 : Int) (a0_1 : ByteArray) (A0_2 : Option Addr) (c0_2 : Nat) (l0_2 : List (S46)) (A0_3 : Option Addr) (c0_3 : Nat) (l0_3 : List (S49)) (a0_4 : ByteArray) (A0_5 : Option Addr) (c0_5 : Nat) (l0_5 : List (S75)) (A0_6 : Option Addr) (c0_6 : Nat) (l0_6 : List (S75)) (A0_7 : Option Addr) (c0_7 : Nat) (l0_7 : List (List (S75))) (r : Bool) (w : World) (hr0_2 : Kd.C k46 w A0_2 l0_2.length l0_2) (hc0_2 : l0_2.length ≤ c0_2) (hr0_3 : Kd.C k49 w A0_3 l0_3.length l0_3) (hc0_3 : l0_3.length ≤ c0_3) (hr0_5 : Kd.C k75 w A0_5 l0_5.length l0_5) (hc0_5 : l0_5.length ≤ c0_5) (hr0_6 : Kd.C k75 w A0_6 l0_6.length l0_6) (hc0_6 : l0_6.length ≤ c0_6) (hr0_7 : Kd.C (Kd.slice 75 k75) w A0_7 l0_7.length l0_7) (hc0_7 : l0_7.length ≤ c0_7) (h : spec_StmOK.f k a0_0 a0_1 l0_2 l0_3 a0_4 l0_5 l0_6 l0_7 = some r) :
    Calls Tryz.prog 13 #[.agg #[.int .i64 a0_0, .string a0_1, .slice A0_2 l0_2.length c0_2, .slice A0_3 l0_3.length c0_3, .string a0_4, .slice A0_5 l0_5.length c0_5, .slice A0_6 l0_6.length c0_6, .slice A0_7 l0_7.length c0_7]] w fun e w' => e = .returned (.bool r) ∧ Below w.heap.size w w' := by
  have hu35 := Tryz.underlying35; have hu46 := Tryz.underlying46; have hu49 := Tryz.underlying49; have HR0_2 := qK hr0_2; have HC0_2 := qK hc0_2; clear hr0_2 hc0_2; have HR0_3 := qK hr0_3; have HC0_3 := qK hc0_3; clear hr0_3 hc0_3; have HR0_5 := qK hr0_5; have HC0_5 := qK hc0_5; clear hr0_5 hc0_5; have HR0_6 := qK hr0_6; have HC0_6 := qK hc0_6; clear hr0_6 hc0_6; have HR0_7 := qK hr0_7; have HC0_7 := qK hc0_7; clear hr0_7 hc0_7; have HB := qK (Below.refl w.heap.size w); have H : ((spec_l4Name.f k a0_1).bind fun t147 => (if t147 = true then (if a0_0 = 1 then (if a0_0 = 2 then (if a0_0 = 3 then (if a0_0 = 5 then (spec_StmOK.j0 k a0_0 false a0_0 a0_1 l0_2 l0_3 a0_4 l0_5 l0_6 l0_7) else (spec_StmOK.j0 k a0_0 ((l0_7.length : Int) != 0) a0_0 a0_1 l0_2 l0_3 a0_4 l0_5 l0_6 l0_7)) else (if a0_4.toList = ([] : List UInt8) then (if (l0_5.length : Int) = 0 then (if a0_0 = 5 then (spec_StmOK.j0 k a0_0 false a0_0 a0_1 l0_2 l0_3 a0_4 l0_5 l0_6 l0_7) else (spec_StmOK.j0 k a0_0 ((l0_7.length : Int) != 0) a0_0 a0_1 l0_2 l0_3 a0_4 l0_5 l0_6 l0_7)) else (spec_StmOK.j0 k a0_0 true a0_0 a0_1 l0_2 l0_3 a0_4 l0_5 l0_6 l0_7)) else (spec_StmOK.j0 k a0_0 true a0_0 a0_1 l0_2 l0_3 a0_4 l0_5 l0_6 l0_7))) else (if (l0_3.length : Int) = 0 then (if a0_0 = 3 then (if a0_0 = 5 then (spec_StmOK.j0 k a0_0 false a0_0 a0_1 l0_2 l0_3 a0_4 l0_5 l0_6 l0_7) else (spec_StmOK.j0 k a0_0 ((l0_7.length : Int) != 0) a0_0 a0_1 l0_2 l0_3 a0_4 l0_5 l0_6 l0_7)) else (if a0_4.toList = ([] : List UInt8) then (if (l0_5.length : Int) = 0 then (if a0_0 = 5 then (spec_StmOK.j0 k a0_0 false a0_0 a0_1 l0_2 l0_3 a0_4 l0_5 l0_6 l0_7) else (spec_StmOK.j0 k a0_0 ((l0_7.length : Int) != 0) a0_0 a0_1 l0_2 l0_3 a0_4 l0_5 l0_6 l0_7)) else (spec_StmOK.j0 k a0_0 true a0_0 a0_1 l0_2 l0_3 a0_4 l0_5 l0_6 l0_7)) else (spec_StmOK.j0 k a0_0 true a0_0 a0_1 l0_2 l0_3 a0_4 l0_5 l0_6 l0_7))) else (spec_StmOK.j0 k a0_0 true a0_0 a0_1 l0_2 l0_3 a0_4 l0_5 l0_6 l0_7))) else (if (l0_2.length : Int) = 0 then (if a0_0 = 2 then (if a0_0 = 3 then (if a0_0 = 5 then (spec_StmOK.j0 k a0_0 false a0_0 a0_1 l0_2 l0_3 a0_4 l0_5 l0_6 l0_7) else (spec_StmOK.j0 k a0_0 ((l0_7.length : Int) != 0) a0_0 a0_1 l0_2 l0_3 a0_4 l0_5 l0_6 l0_7)) else (if a0_4.toList = ([] : List UInt8) then (if (l0_5.length : Int) = 0 then (if a0_0 = 5 then (spec_StmOK.j0 k a0_0 false a0_0 a0_1 l0_2 l0_3 a0_4 l0_5 l0_6 l0_7) else (spec_StmOK.j0 k a0_0 ((l0_7.length : Int) != 0) a0_0 a0_1 l0_2 l0_3 a0_4 l0_5 l0_6 l0_7)) else (spec_StmOK.j0 k a0_0 true a0_0 a0_1 l0_2 l0_3 a0_4 l0_5 l0_6 l0_7)) else (spec_StmOK.j0 k a0_0 true a0_0 a0_1 l0_2 l0_3 a0_4 l0_5 l0_6 l0_7))) else (if (l0_3.length : Int) = 0 then (if a0_0 = 3 then (if a0_0 = 5 then (spec_StmOK.j0 k a0_0 false a0_0 a0_1 l0_2 l0_3 a0_4 l0_5 l0_6 l0_7) else (spec_StmOK.j0 k a0_0 ((l0_7.length : Int) != 0) a0_0 a0_1 l0_2 l0_3 a0_4 l0_5 l0_6 l0_7)) else (if a0_4.toList = ([] : List UInt8) then (if (l0_5.length : Int) = 0 then (if a0_0 = 5 then (spec_StmOK.j0 k a0_0 false a0_0 a0_1 l0_2 l0_3 a0_4 l0_5 l0_6 l0_7) else (spec_StmOK.j0 k a0_0 ((l0_7.length : Int) != 0) a0_0 a0_1 l0_2 l0_3 a0_4 l0_5 l0_6 l0_7)) else (spec_StmOK.j0 k a0_0 true a0_0 a0_1 l0_2 l0_3 a0_4 l0_5 l0_6 l0_7)) else (spec_StmOK.j0 k a0_0 true a0_0 a0_1 l0_2 l0_3 a0_4 l0_5 l0_6 l0_7))) else (spec_StmOK.j0 k a0_0 true a0_0 a0_1 l0_2 l0_3 a0_4 l0_5 l0_6 l0_7))) else (spec_StmOK.j0 k a0_0 true a0_0 a0_1 l0_2 l0_3 a0_4 l0_5 l0_6 l0_7))) else (some false))) = some r := h; clear h; replace H := Option.bind_eq_some_iff.mp H; obtain ⟨t147, A20, H⟩ := H; have A2 := qK A20; clear A20; by_cases c3 : t147 = true
  · subst c3; rw [if_pos rfl] at H; have HC4 := qK H; clear H; go_enter Tryz.func13, Tryz.ntmps13; go_upto_region 4 with (first | ((with_reducible refine gds (N := 1) rfl ?_); (try (refine gate_guard (by rfl) ?_; dsimp only)); refine qbx 1 #[.int .i64 a0_0, .string a0_1, .slice A0_2 l0_2.length c0_2, .slice A0_3 l0_3.length c0_3, .string a0_4, .slice A0_5 l0_5.length c0_5, .slice A0_6 l0_6.length c0_6, .slice A0_7 l0_7.length c0_7] 35 ?_; intro gb146 hg w5 hbox hb; have BK146 := qK (hbox); have GW146 := qK ((qW : w.heap.size ≤ gb146)); have GE146 := GW146; replace HB := qHB HB hb; clear hb hbox hg; have hz6 := qz8 BK146.out) | ((with_reducible refine gcl (f := 33) rfl ?_); refine goesL_ (some 12) rfl rfl Tryz.func33 (by kernel_rfl) rfl #[.string a0_1] rfl qA ?_; (with_reducible refine (spec_l4Name.calls k a0_1 true _ A2.out).mono ?_); rintro e w7 ⟨rfl, hb⟩; refine ⟨_, rfl, ?_⟩; replace BK146 := qbb BK146 hb; replace HB := qHB HB hb; (try clear hb); (try clear hb2); (try clear hk); (try clear hi); have hz8 := qz8 BK146.out)); (try simp only [Act.put, List.setIfInBounds_toArray, List.set_cons_zero, List.set_cons_succ]); go_cut [58] (fun v58 wc => ∃ (kq : Nat) (x58_3 : Bool), v58 = .bool x58_3 ∧ Aside0 (spec_StmOK.j0 kq a0_0 x58_3 a0_0 a0_1 l0_2 l0_3 a0_4 l0_5 l0_6 l0_7 = some r) ∧ Aside0 (kq ≤ k) ∧ Aside0 (wc.heap[gb146]? = some (.cells #[.int .i64 a0_0, .string a0_1, (.slice A0_2 l0_2.length c0_2), (.slice A0_3 l0_3.length c0_3), .string a0_4, (.slice A0_5 l0_5.length c0_5), (.slice A0_6 l0_6.length c0_6), (.slice A0_7 l0_7.length c0_7)] 35 (0, 0))) ∧ Aside0 (Below w.heap.size w wc))
    case first =>
      have H := HC4.out; clear HC4; by_cases c9 : a0_0 = 1
      · rw [if_pos c9] at H; have c9b0 : (a0_0 == 1) = true := beq_iff_eq.mpr c9; have c9b1 : (a0_0 != 1) = false := bne_eq_false_iff_eq.mpr c9; clear c9; (first | rw [c9b0] | (simp only [i64_w, i32_w]; rw [c9b0]) | skip); by_cases c10 : a0_0 = 2
        · rw [if_pos c10] at H; have c10b0 : (a0_0 == 2) = true := beq_iff_eq.mpr c10; have c10b1 : (a0_0 != 2) = false := bne_eq_false_iff_eq.mpr c10; clear c10; by_cases c11 : a0_0 = 3
          · rw [if_pos c11] at H; have c11b0 : (a0_0 == 3) = true := beq_iff_eq.mpr c11; have c11b1 : (a0_0 != 3) = false := bne_eq_false_iff_eq.mpr c11; clear c11; by_cases c12 : a0_0 = 5
            · rw [if_pos c12] at H; have c12b0 : (a0_0 == 5) = true := beq_iff_eq.mpr c12; have c12b1 : (a0_0 != 5) = false := bne_eq_false_iff_eq.mpr c12; clear c12; have H' := qK H; clear H; go_wp2; go_meet
              case rel => exact ⟨_, (false), qS, H', ⟨by first | omega | exact Nat.le_refl _⟩, ⟨by (with_reducible repeat (first | refine bdN ?_ _ | refine bkD ?_ | refine bkA ?_ _)); exact BK146.out⟩, ⟨qB⟩⟩
            · rw [if_neg c12] at H; have c12b0 : (a0_0 == 5) = false := beq_eq_false_iff_ne.mpr c12; have c12b1 : (a0_0 != 5) = true := bne_iff_ne.mpr c12; have H' := qK H; clear H; obtain ⟨hcz13_0, hcz13_1, hcz13_2, hcz13_3, hcz13_4, hcz13_5, hcz13_6, hcz13_7⟩ := zC8 BK146.out; obtain ⟨hfz13_0, hfz13_1, hfz13_2, hfz13_3, hfz13_4, hfz13_5, hfz13_6, hfz13_7⟩ := zF8 BK146.out; go_wp2; go_meet
              case rel => exact ⟨_, (((l0_7.length : Int) != 0)), qS, H', ⟨by first | omega | exact Nat.le_refl _⟩, ⟨by (with_reducible repeat (first | refine bdN ?_ _ | refine bkD ?_ | refine bkA ?_ _)); exact BK146.out⟩, ⟨qB⟩⟩
          · rw [if_neg c11] at H; have c11b0 : (a0_0 == 3) = false := beq_eq_false_iff_ne.mpr c11; have c11b1 : (a0_0 != 3) = true := bne_iff_ne.mpr c11; by_cases c14 : a0_4.toList = ([] : List UInt8)
            · rw [if_pos c14] at H; have c14b0 : (a0_4.toList == ([] : List UInt8)) = true := beq_iff_eq.mpr c14; have c14b1 : (a0_4.toList != ([] : List UInt8)) = false := bne_eq_false_iff_eq.mpr c14; clear c14; by_cases c15 : (l0_5.length : Int) = 0
              · rw [if_pos c15] at H; have c15b0 : ((l0_5.length : Int) == 0) = true := beq_iff_eq.mpr c15; have c15b1 : ((l0_5.length : Int) != 0) = false := bne_eq_false_iff_eq.mpr c15; clear c15; by_cases c16 : a0_0 = 5
                · rw [if_pos c16] at H; have c16b0 : (a0_0 == 5) = true := beq_iff_eq.mpr c16; have c16b1 : (a0_0 != 5) = false := bne_eq_false_iff_eq.mpr c16; clear c16; have H' := qK H; clear H; obtain ⟨hcz17_0, hcz17_1, hcz17_2, hcz17_3, hcz17_4, hcz17_5, hcz17_6, hcz17_7⟩ := zC8 BK146.out; obtain ⟨hfz17_0, hfz17_1, hfz17_2, hfz17_3, hfz17_4, hfz17_5, hfz17_6, hfz17_7⟩ := zF8 BK146.out; go_wp2; go_meet
                  case rel => exact ⟨_, (false), qS, H', ⟨by first | omega | exact Nat.le_refl _⟩, ⟨by (with_reducible repeat (first | refine bdN ?_ _ | refine bkD ?_ | refine bkA ?_ _)); exact BK146.out⟩, ⟨qB⟩⟩
                · rw [if_neg c16] at H; have c16b0 : (a0_0 == 5) = false := beq_eq_false_iff_ne.mpr c16; have c16b1 : (a0_0 != 5) = true := bne_iff_ne.mpr c16; have H' := qK H; clear H; obtain ⟨hcz18_0, hcz18_1, hcz18_2, hcz18_3, hcz18_4, hcz18_5, hcz18_6, hcz18_7⟩ := zC8 BK146.out; obtain ⟨hfz18_0, hfz18_1, hfz18_2, hfz18_3, hfz18_4, hfz18_5, hfz18_6, hfz18_7⟩ := zF8 BK146.out; go_wp2; go_meet
                  case rel => exact ⟨_, (((l0_7.length : Int) != 0)), qS, H', ⟨by first | omega | exact Nat.le_refl _⟩, ⟨by (with_reducible repeat (first | refine bdN ?_ _ | refine bkD ?_ | refine bkA ?_ _)); exact BK146.out⟩, ⟨qB⟩⟩
              · rw [if_neg c15] at H; have c15b0 : ((l0_5.length : Int) == 0) = false := beq_eq_false_iff_ne.mpr c15; have c15b1 : ((l0_5.length : Int) != 0) = true := bne_iff_ne.mpr c15; have c15b2 : ¬ (l0_5 = []) := fun h_ => c15 (by rw [h_]; rfl); have H' := qK H; clear H; obtain ⟨hcz19_0, hcz19_1, hcz19_2, hcz19_3, hcz19_4, hcz19_5, hcz19_6, hcz19_7⟩ := zC8 BK146.out; obtain ⟨hfz19_0, hfz19_1, hfz19_2, hfz19_3, hfz19_4, hfz19_5, hfz19_6, hfz19_7⟩ := zF8 BK146.out; go_wp2; go_meet
                case rel => exact ⟨_, (true), qS, H', ⟨by first | omega | exact Nat.le_refl _⟩, ⟨by (with_reducible repeat (first | refine bdN ?_ _ | refine bkD ?_ | refine bkA ?_ _)); exact BK146.out⟩, ⟨qB⟩⟩
            · rw [if_neg c14] at H; have c14b0 : (a0_4.toList == ([] : List UInt8)) = false := beq_eq_false_iff_ne.mpr c14; have c14b1 : (a0_4.toList != ([] : List UInt8)) = true := bne_iff_ne.mpr c14; have H' := qK H; clear H; obtain ⟨hcz20_0, hcz20_1, hcz20_2, hcz20_3, hcz20_4, hcz20_5, hcz20_6, hcz20_7⟩ := zC8 BK146.out; obtain ⟨hfz20_0, hfz20_1, hfz20_2, hfz20_3, hfz20_4, hfz20_5, hfz20_6, hfz20_7⟩ := zF8 BK146.out; go_wp2; go_meet
              case rel => exact ⟨_, (true), qS, H', ⟨by first | omega | exact Nat.le_refl _⟩, ⟨by (with_reducible repeat (first | refine bdN ?_ _ | refine bkD ?_ | refine bkA ?_ _)); exact BK146.out⟩, ⟨qB⟩⟩
        · rw [if_neg c10] at H; have c10b0 : (a0_0 == 2) = false := beq_eq_false_iff_ne.mpr c10; have c10b1 : (a0_0 != 2) = true := bne_iff_ne.mpr c10; by_cases c21 : (l0_3.length : Int) = 0
          · rw [if_pos c21] at H; have c21b0 : ((l0_3.length : Int) == 0) = true := beq_iff_eq.mpr c21; have c21b1 : ((l0_3.length : Int) != 0) = false := bne_eq_false_iff_eq.mpr c21; clear c21; by_cases c22 : a0_0 = 3
            · rw [if_pos c22] at H; have c22b0 : (a0_0 == 3) = true := beq_iff_eq.mpr c22; have c22b1 : (a0_0 != 3) = false := bne_eq_false_iff_eq.mpr c22; clear c22; by_cases c23 : a0_0 = 5
              · rw [if_pos c23] at H; have c23b0 : (a0_0 == 5) = true := beq_iff_eq.mpr c23; have c23b1 : (a0_0 != 5) = false := bne_eq_false_iff_eq.mpr c23; clear c23; have H' := qK H; clear H; obtain ⟨hcz24_0, hcz24_1, hcz24_2, hcz24_3, hcz24_4, hcz24_5, hcz24_6, hcz24_7⟩ := zC8 BK146.out; obtain ⟨hfz24_0, hfz24_1, hfz24_2, hfz24_3, hfz24_4, hfz24_5, hfz24_6, hfz24_7⟩ := zF8 BK146.out; go_wp2; go_meet
                case rel => exact ⟨_, (false), qS, H', ⟨by first | omega | exact Nat.le_refl _⟩, ⟨by (with_reducible repeat (first | refine bdN ?_ _ | refine bkD ?_ | refine bkA ?_ _)); exact BK146.out⟩, ⟨qB⟩⟩
              · rw [if_neg c23] at H; have c23b0 : (a0_0 == 5) = false := beq_eq_false_iff_ne.mpr c23; have c23b1 : (a0_0 != 5) = true := bne_iff_ne.mpr c23; have H' := qK H; clear H; obtain ⟨hcz25_0, hcz25_1, hcz25_2, hcz25_3, hcz25_4, hcz25_5, hcz25_6, hcz25_7⟩ := zC8 BK146.out; obtain ⟨hfz25_0, hfz25_1, hfz25_2, hfz25_3, hfz25_4, hfz25_5, hfz25_6, hfz25_7⟩ := zF8 BK146.out; go_wp2; go_meet
                case rel => exact ⟨_, (((l0_7.length : Int) != 0)), qS, H', ⟨by first | omega | exact Nat.le_refl _⟩, ⟨by (with_reducible repeat (first | refine bdN ?_ _ | refine bkD ?_ | refine bkA ?_ _)); exact BK146.out⟩, ⟨qB⟩⟩
            · rw [if_neg c22] at H; have c22b0 : (a0_0 == 3) = false := beq_eq_false_iff_ne.mpr c22; have c22b1 : (a0_0 != 3) = true := bne_iff_ne.mpr c22; by_cases c26 : a0_4.toList = ([] : List UInt8)
              · rw [if_pos c26] at H; have c26b0 : (a0_4.toList == ([] : List UInt8)) = true := beq_iff_eq.mpr c26; have c26b1 : (a0_4.toList != ([] : List UInt8)) = false := bne_eq_false_iff_eq.mpr c26; clear c26; by_cases c27 : (l0_5.length : Int) = 0
                · rw [if_pos c27] at H; have c27b0 : ((l0_5.length : Int) == 0) = true := beq_iff_eq.mpr c27; have c27b1 : ((l0_5.length : Int) != 0) = false := bne_eq_false_iff_eq.mpr c27; clear c27; by_cases c28 : a0_0 = 5
                  · rw [if_pos c28] at H; have c28b0 : (a0_0 == 5) = true := beq_iff_eq.mpr c28; have c28b1 : (a0_0 != 5) = false := bne_eq_false_iff_eq.mpr c28; clear c28; have H' := qK H; clear H; obtain ⟨hcz29_0, hcz29_1, hcz29_2, hcz29_3, hcz29_4, hcz29_5, hcz29_6, hcz29_7⟩ := zC8 BK146.out; obtain ⟨hfz29_0, hfz29_1, hfz29_2, hfz29_3, hfz29_4, hfz29_5, hfz29_6, hfz29_7⟩ := zF8 BK146.out; go_wp2; go_meet
                    case rel => exact ⟨_, (false), qS, H', ⟨by first | omega | exact Nat.le_refl _⟩, ⟨by (with_reducible repeat (first | refine bdN ?_ _ | refine bkD ?_ | refine bkA ?_ _)); exact BK146.out⟩, ⟨qB⟩⟩
                  · rw [if_neg c28] at H; have c28b0 : (a0_0 == 5) = false := beq_eq_false_iff_ne.mpr c28; have c28b1 : (a0_0 != 5) = true := bne_iff_ne.mpr c28; have H' := qK H; clear H; obtain ⟨hcz30_0, hcz30_1, hcz30_2, hcz30_3, hcz30_4, hcz30_5, hcz30_6, hcz30_7⟩ := zC8 BK146.out; obtain ⟨hfz30_0, hfz30_1, hfz30_2, hfz30_3, hfz30_4, hfz30_5, hfz30_6, hfz30_7⟩ := zF8 BK146.out; go_wp2; go_meet
                    case rel => exact ⟨_, (((l0_7.length : Int) != 0)), qS, H', ⟨by first | omega | exact Nat.le_refl _⟩, ⟨by (with_reducible repeat (first | refine bdN ?_ _ | refine bkD ?_ | refine bkA ?_ _)); exact BK146.out⟩, ⟨qB⟩⟩
                · rw [if_neg c27] at H; have c27b0 : ((l0_5.length : Int) == 0) = false := beq_eq_false_iff_ne.mpr c27; have c27b1 : ((l0_5.length : Int) != 0) = true := bne_iff_ne.mpr c27; have c27b2 : ¬ (l0_5 = []) := fun h_ => c27 (by rw [h_]; rfl); have H' := qK H; clear H; obtain ⟨hcz31_0, hcz31_1, hcz31_2, hcz31_3, hcz31_4, hcz31_5, hcz31_6, hcz31_7⟩ := zC8 BK146.out; obtain ⟨hfz31_0, hfz31_1, hfz31_2, hfz31_3, hfz31_4, hfz31_5, hfz31_6, hfz31_7⟩ := zF8 BK146.out; go_wp2; go_meet
                  case rel => exact ⟨_, (true), qS, H', ⟨by first | omega | exact Nat.le_refl _⟩, ⟨by (with_reducible repeat (first | refine bdN ?_ _ | refine bkD ?_ | refine bkA ?_ _)); exact BK146.out⟩, ⟨qB⟩⟩
              · rw [if_neg c26] at H; have c26b0 : (a0_4.toList == ([] : List UInt8)) = false := beq_eq_false_iff_ne.mpr c26; have c26b1 : (a0_4.toList != ([] : List UInt8)) = true := bne_iff_ne.mpr c26; have H' := qK H; clear H; obtain ⟨hcz32_0, hcz32_1, hcz32_2, hcz32_3, hcz32_4, hcz32_5, hcz32_6, hcz32_7⟩ := zC8 BK146.out; obtain ⟨hfz32_0, hfz32_1, hfz32_2, hfz32_3, hfz32_4, hfz32_5, hfz32_6, hfz32_7⟩ := zF8 BK146.out; go_wp2; go_meet
                case rel => exact ⟨_, (true), qS, H', ⟨by first | omega | exact Nat.le_refl _⟩, ⟨by (with_reducible repeat (first | refine bdN ?_ _ | refine bkD ?_ | refine bkA ?_ _)); exact BK146.out⟩, ⟨qB⟩⟩
          · rw [if_neg c21] at H; have c21b0 : ((l0_3.length : Int) == 0) = false := beq_eq_false_iff_ne.mpr c21; have c21b1 : ((l0_3.length : Int) != 0) = true := bne_iff_ne.mpr c21; have c21b2 : ¬ (l0_3 = []) := fun h_ => c21 (by rw [h_]; rfl); have H' := qK H; clear H; obtain ⟨hcz33_0, hcz33_1, hcz33_2, hcz33_3, hcz33_4, hcz33_5, hcz33_6, hcz33_7⟩ := zC8 BK146.out; obtain ⟨hfz33_0, hfz33_1, hfz33_2, hfz33_3, hfz33_4, hfz33_5, hfz33_6, hfz33_7⟩ := zF8 BK146.out; go_wp2; go_meet
            case rel => exact ⟨_, (true), qS, H', ⟨by first | omega | exact Nat.le_refl _⟩, ⟨by (with_reducible repeat (first | refine bdN ?_ _ | refine bkD ?_ | refine bkA ?_ _)); exact BK146.out⟩, ⟨qB⟩⟩
      · rw [if_neg c9] at H; have c9b0 : (a0_0 == 1) = false := beq_eq_false_iff_ne.mpr c9; have c9b1 : (a0_0 != 1) = true := bne_iff_ne.mpr c9; (first | rw [c9b0] | (simp only [i64_w, i32_w]; rw [c9b0]) | skip); by_cases c34 : (l0_2.length : Int) = 0
        · rw [if_pos c34] at H; have c34b0 : ((l0_2.length : Int) == 0) = true := beq_iff_eq.mpr c34; have c34b1 : ((l0_2.length : Int) != 0) = false := bne_eq_false_iff_eq.mpr c34; clear c34; by_cases c35 : a0_0 = 2
          · rw [if_pos c35] at H; have c35b0 : (a0_0 == 2) = true := beq_iff_eq.mpr c35; have c35b1 : (a0_0 != 2) = false := bne_eq_false_iff_eq.mpr c35; clear c35; by_cases c36 : a0_0 = 3
            · rw [if_pos c36] at H; have c36b0 : (a0_0 == 3) = true := beq_iff_eq.mpr c36; have c36b1 : (a0_0 != 3) = false := bne_eq_false_iff_eq.mpr c36; clear c36; by_cases c37 : a0_0 = 5
              · rw [if_pos c37] at H; have c37b0 : (a0_0 == 5) = true := beq_iff_eq.mpr c37; have c37b1 : (a0_0 != 5) = false := bne_eq_false_iff_eq.mpr c37; clear c37; have H' := qK H; clear H; obtain ⟨hcz38_0, hcz38_1, hcz38_2, hcz38_3, hcz38_4, hcz38_5, hcz38_6, hcz38_7⟩ := zC8 BK146.out; obtain ⟨hfz38_0, hfz38_1, hfz38_2, hfz38_3, hfz38_4, hfz38_5, hfz38_6, hfz38_7⟩ := zF8 BK146.out; go_wp2; go_meet
                case rel => exact ⟨_, (false), qS, H', ⟨by first | omega | exact Nat.le_refl _⟩, ⟨by (with_reducible repeat (first | refine bdN ?_ _ | refine bkD ?_ | refine bkA ?_ _)); exact BK146.out⟩, ⟨qB⟩⟩
              · rw [if_neg c37] at H; have c37b0 : (a0_0 == 5) = false := beq_eq_false_iff_ne.mpr c37; have c37b1 : (a0_0 != 5) = true := bne_iff_ne.mpr c37; have H' := qK H; clear H; obtain ⟨hcz39_0, hcz39_1, hcz39_2, hcz39_3, hcz39_4, hcz39_5, hcz39_6, hcz39_7⟩ := zC8 BK146.out; obtain ⟨hfz39_0, hfz39_1, hfz39_2, hfz39_3, hfz39_4, hfz39_5, hfz39_6, hfz39_7⟩ := zF8 BK146.out; go_wp2; go_meet
                case rel => exact ⟨_, (((l0_7.length : Int) != 0)), qS, H', ⟨by first | omega | exact Nat.le_refl _⟩, ⟨by (with_reducible repeat (first | refine bdN ?_ _ | refine bkD ?_ | refine bkA ?_ _)); exact BK146.out⟩, ⟨qB⟩⟩
            · rw [if_neg c36] at H; have c36b0 : (a0_0 == 3) = false := beq_eq_false_iff_ne.mpr c36; have c36b1 : (a0_0 != 3) = true := bne_iff_ne.mpr c36; by_cases c40 : a0_4.toList = ([] : List UInt8)
              · rw [if_pos c40] at H; have c40b0 : (a0_4.toList == ([] : List UInt8)) = true := beq_iff_eq.mpr c40; have c40b1 : (a0_4.toList != ([] : List UInt8)) = false := bne_eq_false_iff_eq.mpr c40; clear c40; by_cases c41 : (l0_5.length : Int) = 0
                · rw [if_pos c41] at H; have c41b0 : ((l0_5.length : Int) == 0) = true := beq_iff_eq.mpr c41; have c41b1 : ((l0_5.length : Int) != 0) = false := bne_eq_false_iff_eq.mpr c41; clear c41; by_cases c42 : a0_0 = 5
                  · rw [if_pos c42] at H; have c42b0 : (a0_0 == 5) = true := beq_iff_eq.mpr c42; have c42b1 : (a0_0 != 5) = false := bne_eq_false_iff_eq.mpr c42; clear c42; have H' := qK H; clear H; obtain ⟨hcz43_0, hcz43_1, hcz43_2, hcz43_3, hcz43_4, hcz43_5, hcz43_6, hcz43_7⟩ := zC8 BK146.out; obtain ⟨hfz43_0, hfz43_1, hfz43_2, hfz43_3, hfz43_4, hfz43_5, hfz43_6, hfz43_7⟩ := zF8 BK146.out; go_wp2; go_meet
                    case rel => exact ⟨_, (false), qS, H', ⟨by first | omega | exact Nat.le_refl _⟩, ⟨by (with_reducible repeat (first | refine bdN ?_ _ | refine bkD ?_ | refine bkA ?_ _)); exact BK146.out⟩, ⟨qB⟩⟩
                  · rw [if_neg c42] at H; have c42b0 : (a0_0 == 5) = false := beq_eq_false_iff_ne.mpr c42; have c42b1 : (a0_0 != 5) = true := bne_iff_ne.mpr c42; have H' := qK H; clear H; obtain ⟨hcz44_0, hcz44_1, hcz44_2, hcz44_3, hcz44_4, hcz44_5, hcz44_6, hcz44_7⟩ := zC8 BK146.out; obtain ⟨hfz44_0, hfz44_1, hfz44_2, hfz44_3, hfz44_4, hfz44_5, hfz44_6, hfz44_7⟩ := zF8 BK146.out; go_wp2; go_meet
                    case rel => exact ⟨_, (((l0_7.length : Int) != 0)), qS, H', ⟨by first | omega | exact Nat.le_refl _⟩, ⟨by (with_reducible repeat (first | refine bdN ?_ _ | refine bkD ?_ | refine bkA ?_ _)); exact BK146.out⟩, ⟨qB⟩⟩
                · rw [if_neg c41] at H; have c41b0 : ((l0_5.length : Int) == 0) = false := beq_eq_false_iff_ne.mpr c41; have c41b1 : ((l0_5.length : Int) != 0) = true := bne_iff_ne.mpr c41; have c41b2 : ¬ (l0_5 = []) := fun h_ => c41 (by rw [h_]; rfl); have H' := qK H; clear H; obtain ⟨hcz45_0, hcz45_1, hcz45_2, hcz45_3, hcz45_4, hcz45_5, hcz45_6, hcz45_7⟩ := zC8 BK146.out; obtain ⟨hfz45_0, hfz45_1, hfz45_2, hfz45_3, hfz45_4, hfz45_5, hfz45_6, hfz45_7⟩ := zF8 BK146.out; go_wp2; go_meet
                  case rel => exact ⟨_, (true), qS, H', ⟨by first | omega | exact Nat.le_refl _⟩, ⟨by (with_reducible repeat (first | refine bdN ?_ _ | refine bkD ?_ | refine bkA ?_ _)); exact BK146.out⟩, ⟨qB⟩⟩
              · rw [if_neg c40] at H; have c40b0 : (a0_4.toList == ([] : List UInt8)) = false := beq_eq_false_iff_ne.mpr c40; have c40b1 : (a0_4.toList != ([] : List UInt8)) = true := bne_iff_ne.mpr c40; have H' := qK H; clear H; obtain ⟨hcz46_0, hcz46_1, hcz46_2, hcz46_3, hcz46_4, hcz46_5, hcz46_6, hcz46_7⟩ := zC8 BK146.out; obtain ⟨hfz46_0, hfz46_1, hfz46_2, hfz46_3, hfz46_4, hfz46_5, hfz46_6, hfz46_7⟩ := zF8 BK146.out; go_wp2; go_meet
                case rel => exact ⟨_, (true), qS, H', ⟨by first | omega | exact Nat.le_refl _⟩, ⟨by (with_reducible repeat (first | refine bdN ?_ _ | refine bkD ?_ | refine bkA ?_ _)); exact BK146.out⟩, ⟨qB⟩⟩
          · rw [if_neg c35] at H; have c35b0 : (a0_0 == 2) = false := beq_eq_false_iff_ne.mpr c35; have c35b1 : (a0_0 != 2) = true := bne_iff_ne.mpr c35; by_cases c47 : (l0_3.length : Int) = 0
            · rw [if_pos c47] at H; have c47b0 : ((l0_3.length : Int) == 0) = true := beq_iff_eq.mpr c47; have c47b1 : ((l0_3.length : Int) != 0) = false := bne_eq_false_iff_eq.mpr c47; clear c47; by_cases c48 : a0_0 = 3
              · rw [if_pos c48] at H; have c48b0 : (a0_0 == 3) = true := beq_iff_eq.mpr c48; have c48b1 : (a0_0 != 3) = false := bne_eq_false_iff_eq.mpr c48; clear c48; by_cases c49 : a0_0 = 5
                · rw [if_pos c49] at H; have c49b0 : (a0_0 == 5) = true := beq_iff_eq.mpr c49; have c49b1 : (a0_0 != 5) = false := bne_eq_false_iff_eq.mpr c49; clear c49; have H' := qK H; clear H; obtain ⟨hcz50_0, hcz50_1, hcz50_2, hcz50_3, hcz50_4, hcz50_5, hcz50_6, hcz50_7⟩ := zC8 BK146.out; obtain ⟨hfz50_0, hfz50_1, hfz50_2, hfz50_3, hfz50_4, hfz50_5, hfz50_6, hfz50_7⟩ := zF8 BK146.out; go_wp2; go_meet
                  case rel => exact ⟨_, (false), qS, H', ⟨by first | omega | exact Nat.le_refl _⟩, ⟨by (with_reducible repeat (first | refine bdN ?_ _ | refine bkD ?_ | refine bkA ?_ _)); exact BK146.out⟩, ⟨qB⟩⟩
                · rw [if_neg c49] at H; have c49b0 : (a0_0 == 5) = false := beq_eq_false_iff_ne.mpr c49; have c49b1 : (a0_0 != 5) = true := bne_iff_ne.mpr c49; have H' := qK H; clear H; obtain ⟨hcz51_0, hcz51_1, hcz51_2, hcz51_3, hcz51_4, hcz51_5, hcz51_6, hcz51_7⟩ := zC8 BK146.out; obtain ⟨hfz51_0, hfz51_1, hfz51_2, hfz51_3, hfz51_4, hfz51_5, hfz51_6, hfz51_7⟩ := zF8 BK146.out; go_wp2; go_meet
                  case rel => exact ⟨_, (((l0_7.length : Int) != 0)), qS, H', ⟨by first | omega | exact Nat.le_refl _⟩, ⟨by (with_reducible repeat (first | refine bdN ?_ _ | refine bkD ?_ | refine bkA ?_ _)); exact BK146.out⟩, ⟨qB⟩⟩
              · rw [if_neg c48] at H; have c48b0 : (a0_0 == 3) = false := beq_eq_false_iff_ne.mpr c48; have c48b1 : (a0_0 != 3) = true := bne_iff_ne.mpr c48; by_cases c52 : a0_4.toList = ([] : List UInt8)
                · rw [if_pos c52] at H; have c52b0 : (a0_4.toList == ([] : List UInt8)) = true := beq_iff_eq.mpr c52; have c52b1 : (a0_4.toList != ([] : List UInt8)) = false := bne_eq_false_iff_eq.mpr c52; clear c52; by_cases c53 : (l0_5.length : Int) = 0
                  · rw [if_pos c53] at H; have c53b0 : ((l0_5.length : Int) == 0) = true := beq_iff_eq.mpr c53; have c53b1 : ((l0_5.length : Int) != 0) = false := bne_eq_false_iff_eq.mpr c53; clear c53; by_cases c54 : a0_0 = 5
                    · rw [if_pos c54] at H; have c54b0 : (a0_0 == 5) = true := beq_iff_eq.mpr c54; have c54b1 : (a0_0 != 5) = false := bne_eq_false_iff_eq.mpr c54; clear c54; have H' := qK H; clear H; obtain ⟨hcz55_0, hcz55_1, hcz55_2, hcz55_3, hcz55_4, hcz55_5, hcz55_6, hcz55_7⟩ := zC8 BK146.out; obtain ⟨hfz55_0, hfz55_1, hfz55_2, hfz55_3, hfz55_4, hfz55_5, hfz55_6, hfz55_7⟩ := zF8 BK146.out; go_wp2; go_meet
                      case rel => exact ⟨_, (false), qS, H', ⟨by first | omega | exact Nat.le_refl _⟩, ⟨by (with_reducible repeat (first | refine bdN ?_ _ | refine bkD ?_ | refine bkA ?_ _)); exact BK146.out⟩, ⟨qB⟩⟩
                    · rw [if_neg c54] at H; have c54b0 : (a0_0 == 5) = false := beq_eq_false_iff_ne.mpr c54; have c54b1 : (a0_0 != 5) = true := bne_iff_ne.mpr c54; have H' := qK H; clear H; obtain ⟨hcz56_0, hcz56_1, hcz56_2, hcz56_3, hcz56_4, hcz56_5, hcz56_6, hcz56_7⟩ := zC8 BK146.out; obtain ⟨hfz56_0, hfz56_1, hfz56_2, hfz56_3, hfz56_4, hfz56_5, hfz56_6, hfz56_7⟩ := zF8 BK146.out; go_wp2; go_meet
                      case rel => exact ⟨_, (((l0_7.length : Int) != 0)), qS, H', ⟨by first | omega | exact Nat.le_refl _⟩, ⟨by (with_reducible repeat (first | refine bdN ?_ _ | refine bkD ?_ | refine bkA ?_ _)); exact BK146.out⟩, ⟨qB⟩⟩
                  · rw [if_neg c53] at H; have c53b0 : ((l0_5.length : Int) == 0) = false := beq_eq_false_iff_ne.mpr c53; have c53b1 : ((l0_5.length : Int) != 0) = true := bne_iff_ne.mpr c53; have c53b2 : ¬ (l0_5 = []) := fun h_ => c53 (by rw [h_]; rfl); have H' := qK H; clear H; obtain ⟨hcz57_0, hcz57_1, hcz57_2, hcz57_3, hcz57_4, hcz57_5, hcz57_6, hcz57_7⟩ := zC8 BK146.out; obtain ⟨hfz57_0, hfz57_1, hfz57_2, hfz57_3, hfz57_4, hfz57_5, hfz57_6, hfz57_7⟩ := zF8 BK146.out; go_wp2; go_meet
                    case rel => exact ⟨_, (true), qS, H', ⟨by first | omega | exact Nat.le_refl _⟩, ⟨by (with_reducible repeat (first | refine bdN ?_ _ | refine bkD ?_ | refine bkA ?_ _)); exact BK146.out⟩, ⟨qB⟩⟩
                · rw [if_neg c52] at H; have c52b0 : (a0_4.toList == ([] : List UInt8)) = false := beq_eq_false_iff_ne.mpr c52; have c52b1 : (a0_4.toList != ([] : List UInt8)) = true := bne_iff_ne.mpr c52; have H' := qK H; clear H; obtain ⟨hcz58_0, hcz58_1, hcz58_2, hcz58_3, hcz58_4, hcz58_5, hcz58_6, hcz58_7⟩ := zC8 BK146.out; obtain ⟨hfz58_0, hfz58_1, hfz58_2, hfz58_3, hfz58_4, hfz58_5, hfz58_6, hfz58_7⟩ := zF8 BK146.out; go_wp2; go_meet
                  case rel => exact ⟨_, (true), qS, H', ⟨by first | omega | exact Nat.le_refl _⟩, ⟨by (with_reducible repeat (first | refine bdN ?_ _ | refine bkD ?_ | refine bkA ?_ _)); exact BK146.out⟩, ⟨qB⟩⟩
            · rw [if_neg c47] at H; have c47b0 : ((l0_3.length : Int) == 0) = false := beq_eq_false_iff_ne.mpr c47; have c47b1 : ((l0_3.length : Int) != 0) = true := bne_iff_ne.mpr c47; have c47b2 : ¬ (l0_3 = []) := fun h_ => c47 (by rw [h_]; rfl); have H' := qK H; clear H; obtain ⟨hcz59_0, hcz59_1, hcz59_2, hcz59_3, hcz59_4, hcz59_5, hcz59_6, hcz59_7⟩ := zC8 BK146.out; obtain ⟨hfz59_0, hfz59_1, hfz59_2, hfz59_3, hfz59_4, hfz59_5, hfz59_6, hfz59_7⟩ := zF8 BK146.out; go_wp2; go_meet
              case rel => exact ⟨_, (true), qS, H', ⟨by first | omega | exact Nat.le_refl _⟩, ⟨by (with_reducible repeat (first | refine bdN ?_ _ | refine bkD ?_ | refine bkA ?_ _)); exact BK146.out⟩, ⟨qB⟩⟩
        · rw [if_neg c34] at H; have c34b0 : ((l0_2.length : Int) == 0) = false := beq_eq_false_iff_ne.mpr c34; have c34b1 : ((l0_2.length : Int) != 0) = true := bne_iff_ne.mpr c34; have c34b2 : ¬ (l0_2 = []) := fun h_ => c34 (by rw [h_]; rfl); have H' := qK H; clear H; obtain ⟨hcz60_0, hcz60_1, hcz60_2, hcz60_3, hcz60_4, hcz60_5, hcz60_6, hcz60_7⟩ := zC8 BK146.out; obtain ⟨hfz60_0, hfz60_1, hfz60_2, hfz60_3, hfz60_4, hfz60_5, hfz60_6, hfz60_7⟩ := zF8 BK146.out; go_wp2; go_meet
          case rel => exact ⟨_, (true), qS, H', ⟨by first | omega | exact Nat.le_refl _⟩, ⟨by (with_reducible repeat (first | refine bdN ?_ _ | refine bkD ?_ | refine bkA ?_ _)); exact BK146.out⟩, ⟨qB⟩⟩
    case rest =>
      clear HC4; (try clear c2); (try clear p2); (try clear c3); (try clear c4); (try clear c5); (try clear c9); (try clear c9b0); (try clear c9b1); (try clear c21); (try clear c21b0); (try clear c21b1); (try clear c21b2); (try clear c22); (try clear c22b0); (try clear c22b1); (try clear c23); (try clear c23b0); (try clear c23b1); (try clear c26); (try clear c26b0); (try clear c26b1); (try clear c27); (try clear c27b0); (try clear c27b1); (try clear c27b2); (try clear c28); (try clear c28b0); (try clear c28b1); (try clear c34); (try clear c34b0); (try clear c34b1); (try clear c34b2); (try clear c35); (try clear c35b0); (try clear c35b1); (try clear c36); (try clear c36b0); (try clear c36b1); (try clear c37); (try clear c37b0); (try clear c37b1); (try clear c40); (try clear c40b0); (try clear c40b1); (try clear c41); (try clear c41b0); (try clear c41b1); (try clear c41b2); (try clear c42); (try clear c42b0); (try clear c42b1); (try clear c47); (try clear c47b0); (try clear c47b1); (try clear c47b2); (try clear c48); (try clear c48b0); (try clear c48b1); (try clear c49); (try clear c49b0); (try clear c49b1); (try clear c52); (try clear c52b0); (try clear c52b1); (try clear c53); (try clear c53b0); (try clear c53b1); (try clear c53b2); (try clear c54); (try clear c54b0); (try clear c54b1); (try clear hcz24_0); (try clear hcz24_1); (try clear hcz24_2); (try clear hcz24_3); (try clear hcz24_4); (try clear hcz24_5); (try clear hcz24_6); (try clear hcz24_7); (try clear hcz25_0); (try clear hcz25_1); (try clear hcz25_2); (try clear hcz25_3); (try clear hcz25_4); (try clear hcz25_5); (try clear hcz25_6); (try clear hcz25_7); (try clear hcz29_0); (try clear hcz29_1); (try clear hcz29_2); (try clear hcz29_3); (try clear hcz29_4); (try clear hcz29_5); (try clear hcz29_6); (try clear hcz29_7); (try clear hcz30_0); (try clear hcz30_1); (try clear hcz30_2); (try clear hcz30_3); (try clear hcz30_4); (try clear hcz30_5); (try clear hcz30_6); (try clear hcz30_7); (try clear hcz31_0); (try clear hcz31_1); (try clear hcz31_2); (try clear hcz31_3); (try clear hcz31_4); (try clear hcz31_5); (try clear hcz31_6); (try clear hcz31_7); (try clear hcz32_0); (try clear hcz32_1); (try clear hcz32_2); (try clear hcz32_3); (try clear hcz32_4); (try clear hcz32_5); (try clear hcz32_6); (try clear hcz32_7); (try clear hcz33_0); (try clear hcz33_1); (try clear hcz33_2); (try clear hcz33_3); (try clear hcz33_4); (try clear hcz33_5); (try clear hcz33_6); (try clear hcz33_7); (try clear hcz38_0); (try clear hcz38_1); (try clear hcz38_2); (try clear hcz38_3); (try clear hcz38_4); (try clear hcz38_5); (try clear hcz38_6); (try clear hcz38_7); (try clear hcz39_0); (try clear hcz39_1); (try clear hcz39_2); (try clear hcz39_3); (try clear hcz39_4); (try clear hcz39_5); (try clear hcz39_6); (try clear hcz39_7); (try clear hcz43_0); (try clear hcz43_1); (try clear hcz43_2); (try clear hcz43_3); (try clear hcz43_4); (try clear hcz43_5); (try clear hcz43_6); (try clear hcz43_7); (try clear hcz44_0); (try clear hcz44_1); (try clear hcz44_2); (try clear hcz44_3); (try clear hcz44_4); (try clear hcz44_5); (try clear hcz44_6); (try clear hcz44_7); (try clear hcz45_0); (try clear hcz45_1); (try clear hcz45_2); (try clear hcz45_3); (try clear hcz45_4); (try clear hcz45_5); (try clear hcz45_6); (try clear hcz45_7); (try clear hcz46_0); (try clear hcz46_1); (try clear hcz46_2); (try clear hcz46_3); (try clear hcz46_4); (try clear hcz46_5); (try clear hcz46_6); (try clear hcz46_7); (try clear hcz50_0); (try clear hcz50_1); (try clear hcz50_2); (try clear hcz50_3); (try clear hcz50_4); (try clear hcz50_5); (try clear hcz50_6); (try clear hcz50_7); (try clear hcz51_0); (try clear hcz51_1); (try clear hcz51_2); (try clear hcz51_3); (try clear hcz51_4); (try clear hcz51_5); (try clear hcz51_6); (try clear hcz51_7); (try clear hcz55_0); (try clear hcz55_1); (try clear hcz55_2); (try clear hcz55_3); (try clear hcz55_4); (try clear hcz55_5); (try clear hcz55_6); (try clear hcz55_7); (try clear hcz56_0); (try clear hcz56_1); (try clear hcz56_2); (try clear hcz56_3); (try clear hcz56_4); (try clear hcz56_5); (try clear hcz56_6); (try clear hcz56_7); (try clear hcz57_0); (try clear hcz57_1); (try clear hcz57_2); (try clear hcz57_3); (try clear hcz57_4); (try clear hcz57_5); (try clear hcz57_6); (try clear hcz57_7); (try clear hcz58_0); (try clear hcz58_1); (try clear hcz58_2); (try clear hcz58_3); (try clear hcz58_4); (try clear hcz58_5); (try clear hcz58_6); (try clear hcz58_7); (try clear hcz59_0); (try clear hcz59_1); (try clear hcz59_2); (try clear hcz59_3); (try clear hcz59_4); (try clear hcz59_5); (try clear hcz59_6); (try clear hcz59_7); (try clear hcz60_0); (try clear hcz60_1); (try clear hcz60_2); (try clear hcz60_3); (try clear hcz60_4); (try clear hcz60_5); (try clear hcz60_6); (try clear hcz60_7); (try clear hfz24_0); (try clear hfz24_1); (try clear hfz24_2); (try clear hfz24_3); (try clear hfz24_4); (try clear hfz24_5); (try clear hfz24_6); (try clear hfz24_7); (try clear hfz25_0); (try clear hfz25_1); (try clear hfz25_2); (try clear hfz25_3); (try clear hfz25_4); (try clear hfz25_5); (try clear hfz25_6); (try clear hfz25_7); (try clear hfz29_0); (try clear hfz29_1); (try clear hfz29_2); (try clear hfz29_3); (try clear hfz29_4); (try clear hfz29_5); (try clear hfz29_6); (try clear hfz29_7); (try clear hfz30_0); (try clear hfz30_1); (try clear hfz30_2); (try clear hfz30_3); (try clear hfz30_4); (try clear hfz30_5); (try clear hfz30_6); (try clear hfz30_7); (try clear hfz31_0); (try clear hfz31_1); (try clear hfz31_2); (try clear hfz31_3); (try clear hfz31_4); (try clear hfz31_5); (try clear hfz31_6); (try clear hfz31_7); (try clear hfz32_0); (try clear hfz32_1); (try clear hfz32_2); (try clear hfz32_3); (try clear hfz32_4); (try clear hfz32_5); (try clear hfz32_6); (try clear hfz32_7); (try clear hfz33_0); (try clear hfz33_1); (try clear hfz33_2); (try clear hfz33_3); (try clear hfz33_4); (try clear hfz33_5); (try clear hfz33_6); (try clear hfz33_7); (try clear hfz38_0); (try clear hfz38_1); (try clear hfz38_2); (try clear hfz38_3); (try clear hfz38_4); (try clear hfz38_5); (try clear hfz38_6); (try clear hfz38_7); (try clear hfz39_0); (try clear hfz39_1); (try clear hfz39_2); (try clear hfz39_3); (try clear hfz39_4); (try clear hfz39_5); (try clear hfz39_6); (try clear hfz39_7); (try clear hfz43_0); (try clear hfz43_1); (try clear hfz43_2); (try clear hfz43_3); (try clear hfz43_4); (try clear hfz43_5); (try clear hfz43_6); (try clear hfz43_7); (try clear hfz44_0); (try clear hfz44_1); (try clear hfz44_2); (try clear hfz44_3); (try clear hfz44_4); (try clear hfz44_5); (try clear hfz44_6); (try clear hfz44_7); (try clear hfz45_0); (try clear hfz45_1); (try clear hfz45_2); (try clear hfz45_3); (try clear hfz45_4); (try clear hfz45_5); (try clear hfz45_6); (try clear hfz45_7); (try clear hfz46_0); (try clear hfz46_1); (try clear hfz46_2); (try clear hfz46_3); (try clear hfz46_4); (try clear hfz46_5); (try clear hfz46_6); (try clear hfz46_7); (try clear hfz50_0); (try clear hfz50_1); (try clear hfz50_2); (try clear hfz50_3); (try clear hfz50_4); (try clear hfz50_5); (try clear hfz50_6); (try clear hfz50_7); (try clear hfz51_0); (try clear hfz51_1); (try clear hfz51_2); (try clear hfz51_3); (try clear hfz51_4); (try clear hfz51_5); (try clear hfz51_6); (try clear hfz51_7); (try clear hfz55_0); (try clear hfz55_1); (try clear hfz55_2); (try clear hfz55_3); (try clear hfz55_4); (try clear hfz55_5); (try clear hfz55_6); (try clear hfz55_7); (try clear hfz56_0); (try clear hfz56_1); (try clear hfz56_2); (try clear hfz56_3); (try clear hfz56_4); (try clear hfz56_5); (try clear hfz56_6); (try clear hfz56_7); (try clear hfz57_0); (try clear hfz57_1); (try clear hfz57_2); (try clear hfz57_3); (try clear hfz57_4); (try clear hfz57_5); (try clear hfz57_6); (try clear hfz57_7); (try clear hfz58_0); (try clear hfz58_1); (try clear hfz58_2); (try clear hfz58_3); (try clear hfz58_4); (try clear hfz58_5); (try clear hfz58_6); (try clear hfz58_7); (try clear hfz59_0); (try clear hfz59_1); (try clear hfz59_2); (try clear hfz59_3); (try clear hfz59_4); (try clear hfz59_5); (try clear hfz59_6); (try clear hfz59_7); (try clear hfz60_0); (try clear hfz60_1); (try clear hfz60_2); (try clear hfz60_3); (try clear hfz60_4); (try clear hfz60_5); (try clear hfz60_6); (try clear hfz60_7); obtain ⟨kq, x58_3, rfl, HA, HJ3, BK146, HB⟩ := hcut
      cases kq with
      | zero => exact absurd HA.out (by simp [spec_StmOK.j0])
      | succ kj3 =>
        have H := HA.out; clear HA; simp only [spec_StmOK.j0] at H; by_cases c61 : x58_3 = true
        · subst c61; rw [if_pos rfl] at H; obtain rfl := Option.some.inj H; go_wp2; go_ret; exact ⟨qR, qB⟩
        · replace c61 := Bool.eq_false_iff.mpr c61; subst c61; rw [if_neg qff] at H; have HC62 := qK H; clear H; go_upto_region 6 with (fail); go_cut [66] (fun v66 wc => ∃ (kq : Nat) (x66_61 : Bool), v66 = .bool x66_61 ∧ Aside0 (spec_StmOK.j1 kq a0_0 x66_61 a0_0 a0_1 l0_2 l0_3 a0_4 l0_5 l0_6 l0_7 = some r) ∧ Aside0 (kq ≤ kj3) ∧ Aside0 (wc.heap[gb146]? = some (.cells #[.int .i64 a0_0, .string a0_1, (.slice A0_2 l0_2.length c0_2), (.slice A0_3 l0_3.length c0_3), .string a0_4, (.slice A0_5 l0_5.length c0_5), (.slice A0_6 l0_6.length c0_6), (.slice A0_7 l0_7.length c0_7)] 35 (0, 0))) ∧ Aside0 (Below w.heap.size w wc))
          case first =>
            have H := HC62.out; clear HC62; by_cases c63 : a0_0 < 3
            · rw [if_pos c63] at H; have c63b0 : decide (a0_0 < 3) = true := decide_eq_true c63; clear c63; (first | rw [c63b0] | (simp only [i64_w, i32_w]; rw [c63b0]) | skip); have H' := qK H; clear H; obtain ⟨hcz64_0, hcz64_1, hcz64_2, hcz64_3, hcz64_4, hcz64_5, hcz64_6, hcz64_7⟩ := zC8 BK146.out; obtain ⟨hfz64_0, hfz64_1, hfz64_2, hfz64_3, hfz64_4, hfz64_5, hfz64_6, hfz64_7⟩ := zF8 BK146.out; go_wp2; go_meet
              case rel => exact ⟨_, (((l0_6.length : Int) != 0)), qS, H', ⟨by have := HJ3.out; first | omega | exact Nat.le_refl _⟩, ⟨by (with_reducible repeat (first | refine bdN ?_ _ | refine bkD ?_ | refine bkA ?_ _)); exact BK146.out⟩, ⟨qB⟩⟩
            · rw [if_neg c63] at H; have c63b0 : decide (a0_0 < 3) = false := decide_eq_false c63; clear c63; (first | rw [c63b0] | (simp only [i64_w, i32_w]; rw [c63b0]) | skip); have H' := qK H; clear H; go_wp2; go_meet
              case rel => exact ⟨_, (false), qS, H', ⟨by have := HJ3.out; first | omega | exact Nat.le_refl _⟩, ⟨by (with_reducible repeat (first | refine bdN ?_ _ | refine bkD ?_ | refine bkA ?_ _)); exact BK146.out⟩, ⟨qB⟩⟩
          case rest =>
            clear HC62; (try clear c2); (try clear p2); (try clear c3); (try clear c4); (try clear c5); (try clear c6); (try clear c9); (try clear c9b0); (try clear c9b1); (try clear c21); (try clear c21b0); (try clear c21b1); (try clear c21b2); (try clear c22); (try clear c22b0); (try clear c22b1); (try clear c23); (try clear c23b0); (try clear c23b1); (try clear c26); (try clear c26b0); (try clear c26b1); (try clear c27); (try clear c27b0); (try clear c27b1); (try clear c27b2); (try clear c28); (try clear c28b0); (try clear c28b1); (try clear c34); (try clear c34b0); (try clear c34b1); (try clear c34b2); (try clear c35); (try clear c35b0); (try clear c35b1); (try clear c36); (try clear c36b0); (try clear c36b1); (try clear c37); (try clear c37b0); (try clear c37b1); (try clear c40); (try clear c40b0); (try clear c40b1); (try clear c41); (try clear c41b0); (try clear c41b1); (try clear c41b2); (try clear c42); (try clear c42b0); (try clear c42b1); (try clear c47); (try clear c47b0); (try clear c47b1); (try clear c47b2); (try clear c48); (try clear c48b0); (try clear c48b1); (try clear c49); (try clear c49b0); (try clear c49b1); (try clear c52); (try clear c52b0); (try clear c52b1); (try clear c53); (try clear c53b0); (try clear c53b1); (try clear c53b2); (try clear c54); (try clear c54b0); (try clear c54b1); (try clear c61); (try clear c63); (try clear c63b0); (try clear hcz24_0); (try clear hcz24_1); (try clear hcz24_2); (try clear hcz24_3); (try clear hcz24_4); (try clear hcz24_5); (try clear hcz24_6); (try clear hcz24_7); (try clear hcz25_0); (try clear hcz25_1); (try clear hcz25_2); (try clear hcz25_3); (try clear hcz25_4); (try clear hcz25_5); (try clear hcz25_6); (try clear hcz25_7); (try clear hcz29_0); (try clear hcz29_1); (try clear hcz29_2); (try clear hcz29_3); (try clear hcz29_4); (try clear hcz29_5); (try clear hcz29_6); (try clear hcz29_7); (try clear hcz30_0); (try clear hcz30_1); (try clear hcz30_2); (try clear hcz30_3); (try clear hcz30_4); (try clear hcz30_5); (try clear hcz30_6); (try clear hcz30_7); (try clear hcz31_0); (try clear hcz31_1); (try clear hcz31_2); (try clear hcz31_3); (try clear hcz31_4); (try clear hcz31_5); (try clear hcz31_6); (try clear hcz31_7); (try clear hcz32_0); (try clear hcz32_1); (try clear hcz32_2); (try clear hcz32_3); (try clear hcz32_4); (try clear hcz32_5); (try clear hcz32_6); (try clear hcz32_7); (try clear hcz33_0); (try clear hcz33_1); (try clear hcz33_2); (try clear hcz33_3); (try clear hcz33_4); (try clear hcz33_5); (try clear hcz33_6); (try clear hcz33_7); (try clear hcz38_0); (try clear hcz38_1); (try clear hcz38_2); (try clear hcz38_3); (try clear hcz38_4); (try clear hcz38_5); (try clear hcz38_6); (try clear hcz38_7); (try clear hcz39_0); (try clear hcz39_1); (try clear hcz39_2); (try clear hcz39_3); (try clear hcz39_4); (try clear hcz39_5); (try clear hcz39_6); (try clear hcz39_7); (try clear hcz43_0); (try clear hcz43_1); (try clear hcz43_2); (try clear hcz43_3); (try clear hcz43_4); (try clear hcz43_5); (try clear hcz43_6); (try clear hcz43_7); (try clear hcz44_0); (try clear hcz44_1); (try clear hcz44_2); (try clear hcz44_3); (try clear hcz44_4); (try clear hcz44_5); (try clear hcz44_6); (try clear hcz44_7); (try clear hcz45_0); (try clear hcz45_1); (try clear hcz45_2); (try clear hcz45_3); (try clear hcz45_4); (try clear hcz45_5); (try clear hcz45_6); (try clear hcz45_7); (try clear hcz46_0); (try clear hcz46_1); (try clear hcz46_2); (try clear hcz46_3); (try clear hcz46_4); (try clear hcz46_5); (try clear hcz46_6); (try clear hcz46_7); (try clear hcz50_0); (try clear hcz50_1); (try clear hcz50_2); (try clear hcz50_3); (try clear hcz50_4); (try clear hcz50_5); (try clear hcz50_6); (try clear hcz50_7); (try clear hcz51_0); (try clear hcz51_1); (try clear hcz51_2); (try clear hcz51_3); (try clear hcz51_4); (try clear hcz51_5); (try clear hcz51_6); (try clear hcz51_7); (try clear hcz55_0); (try clear hcz55_1); (try clear hcz55_2); (try clear hcz55_3); (try clear hcz55_4); (try clear hcz55_5); (try clear hcz55_6); (try clear hcz55_7); (try clear hcz56_0); (try clear hcz56_1); (try clear hcz56_2); (try clear hcz56_3); (try clear hcz56_4); (try clear hcz56_5); (try clear hcz56_6); (try clear hcz56_7); (try clear hcz57_0); (try clear hcz57_1); (try clear hcz57_2); (try clear hcz57_3); (try clear hcz57_4); (try clear hcz57_5); (try clear hcz57_6); (try clear hcz57_7); (try clear hcz58_0); (try clear hcz58_1); (try clear hcz58_2); (try clear hcz58_3); (try clear hcz58_4); (try clear hcz58_5); (try clear hcz58_6); (try clear hcz58_7); (try clear hcz59_0); (try clear hcz59_1); (try clear hcz59_2); (try clear hcz59_3); (try clear hcz59_4); (try clear hcz59_5); (try clear hcz59_6); (try clear hcz59_7); (try clear hcz60_0); (try clear hcz60_1); (try clear hcz60_2); (try clear hcz60_3); (try clear hcz60_4); (try clear hcz60_5); (try clear hcz60_6); (try clear hcz60_7); (try clear hcz64_0); (try clear hcz64_1); (try clear hcz64_2); (try clear hcz64_3); (try clear hcz64_4); (try clear hcz64_5); (try clear hcz64_6); (try clear hcz64_7); (try clear hfz24_0); (try clear hfz24_1); (try clear hfz24_2); (try clear hfz24_3); (try clear hfz24_4); (try clear hfz24_5); (try clear hfz24_6); (try clear hfz24_7); (try clear hfz25_0); (try clear hfz25_1); (try clear hfz25_2); (try clear hfz25_3); (try clear hfz25_4); (try clear hfz25_5); (try clear hfz25_6); (try clear hfz25_7); (try clear hfz29_0); (try clear hfz29_1); (try clear hfz29_2); (try clear hfz29_3); (try clear hfz29_4); (try clear hfz29_5); (try clear hfz29_6); (try clear hfz29_7); (try clear hfz30_0); (try clear hfz30_1); (try clear hfz30_2); (try clear hfz30_3); (try clear hfz30_4); (try clear hfz30_5); (try clear hfz30_6); (try clear hfz30_7); (try clear hfz31_0); (try clear hfz31_1); (try clear hfz31_2); (try clear hfz31_3); (try clear hfz31_4); (try clear hfz31_5); (try clear hfz31_6); (try clear hfz31_7); (try clear hfz32_0); (try clear hfz32_1); (try clear hfz32_2); (try clear hfz32_3); (try clear hfz32_4); (try clear hfz32_5); (try clear hfz32_6); (try clear hfz32_7); (try clear hfz33_0); (try clear hfz33_1); (try clear hfz33_2); (try clear hfz33_3); (try clear hfz33_4); (try clear hfz33_5); (try clear hfz33_6); (try clear hfz33_7); (try clear hfz38_0); (try clear hfz38_1); (try clear hfz38_2); (try clear hfz38_3); (try clear hfz38_4); (try clear hfz38_5); (try clear hfz38_6); (try clear hfz38_7); (try clear hfz39_0); (try clear hfz39_1); (try clear hfz39_2); (try clear hfz39_3); (try clear hfz39_4); (try clear hfz39_5); (try clear hfz39_6); (try clear hfz39_7); (try clear hfz43_0); (try clear hfz43_1); (try clear hfz43_2); (try clear hfz43_3); (try clear hfz43_4); (try clear hfz43_5); (try clear hfz43_6); (try clear hfz43_7); (try clear hfz44_0); (try clear hfz44_1); (try clear hfz44_2); (try clear hfz44_3); (try clear hfz44_4); (try clear hfz44_5); (try clear hfz44_6); (try clear hfz44_7); (try clear hfz45_0); (try clear hfz45_1); (try clear hfz45_2); (try clear hfz45_3); (try clear hfz45_4); (try clear hfz45_5); (try clear hfz45_6); (try clear hfz45_7); (try clear hfz46_0); (try clear hfz46_1); (try clear hfz46_2); (try clear hfz46_3); (try clear hfz46_4); (try clear hfz46_5); (try clear hfz46_6); (try clear hfz46_7); (try clear hfz50_0); (try clear hfz50_1); (try clear hfz50_2); (try clear hfz50_3); (try clear hfz50_4); (try clear hfz50_5); (try clear hfz50_6); (try clear hfz50_7); (try clear hfz51_0); (try clear hfz51_1); (try clear hfz51_2); (try clear hfz51_3); (try clear hfz51_4); (try clear hfz51_5); (try clear hfz51_6); (try clear hfz51_7); (try clear hfz55_0); (try clear hfz55_1); (try clear hfz55_2); (try clear hfz55_3); (try clear hfz55_4); (try clear hfz55_5); (try clear hfz55_6); (try clear hfz55_7); (try clear hfz56_0); (try clear hfz56_1); (try clear hfz56_2); (try clear hfz56_3); (try clear hfz56_4); (try clear hfz56_5); (try clear hfz56_6); (try clear hfz56_7); (try clear hfz57_0); (try clear hfz57_1); (try clear hfz57_2); (try clear hfz57_3); (try clear hfz57_4); (try clear hfz57_5); (try clear hfz57_6); (try clear hfz57_7); (try clear hfz58_0); (try clear hfz58_1); (try clear hfz58_2); (try clear hfz58_3); (try clear hfz58_4); (try clear hfz58_5); (try clear hfz58_6); (try clear hfz58_7); (try clear hfz59_0); (try clear hfz59_1); (try clear hfz59_2); (try clear hfz59_3); (try clear hfz59_4); (try clear hfz59_5); (try clear hfz59_6); (try clear hfz59_7); (try clear hfz60_0); (try clear hfz60_1); (try clear hfz60_2); (try clear hfz60_3); (try clear hfz60_4); (try clear hfz60_5); (try clear hfz60_6); (try clear hfz60_7); (try clear hfz64_0); (try clear hfz64_1); (try clear hfz64_2); (try clear hfz64_3); (try clear hfz64_4); (try clear hfz64_5); (try clear hfz64_6); (try clear hfz64_7); obtain ⟨kq, x66_61, rfl, HA, HJ61, BK146, HB⟩ := hcut
            cases kq with
            | zero => exact absurd HA.out (by simp [spec_StmOK.j1])
            | succ kj61 =>
              have H := HA.out; clear HA; simp only [spec_StmOK.j1] at H; by_cases c65 : x66_61 = true
              · subst c65; rw [if_pos rfl] at H; obtain rfl := Option.some.inj H; go_wp2; go_ret; exact ⟨qR, qB⟩
              · replace c65 := Bool.eq_false_iff.mpr c65; subst c65; rw [if_neg qff] at H; by_cases c66 : a0_0 = 1
                · rw [if_pos c66] at H; have c66b0 : (a0_0 == 1) = true := beq_iff_eq.mpr c66; have c66b1 : (a0_0 != 1) = false := bne_eq_false_iff_eq.mpr c66; clear c66; have H' := qK H; clear H; obtain ⟨hcz67_0, hcz67_1, hcz67_2, hcz67_3, hcz67_4, hcz67_5, hcz67_6, hcz67_7⟩ := zC8 BK146.out; obtain ⟨hfz67_0, hfz67_1, hfz67_2, hfz67_3, hfz67_4, hfz67_5, hfz67_6, hfz67_7⟩ := zF8 BK146.out; go_wp2; go_loopg [73] kj61 (fun kq v73 w' => ∃ (x73_3 : Int), v73 = .int .i64 x73_3 ∧ Aside0 (spec_StmOK.l0 kq l0_2 (l0_2.length : Int) x73_3 a0_0 a0_1 l0_2 l0_3 a0_4 l0_5 l0_6 l0_7 = some r) ∧ Aside0 (kq ≤ kj61) ∧ Aside0 (w'.heap[gb146]? = some (.cells #[.int .i64 a0_0, .string a0_1, (.slice A0_2 l0_2.length c0_2), (.slice A0_3 l0_3.length c0_3), .string a0_4, (.slice A0_5 l0_5.length c0_5), (.slice A0_6 l0_6.length c0_6), (.slice A0_7 l0_7.length c0_7)] 35 (0, 0))) ∧ Aside0 (Below w.heap.size w w'))
                  case atStart => exact ⟨(0), qS, H', ⟨Nat.le_refl _⟩, ⟨by (with_reducible repeat (first | refine bdN ?_ _ | refine bkD ?_ | refine bkA ?_ _)); exact BK146.out⟩, ⟨qB⟩⟩
                  case round =>
                    clear H'; (try clear c2); (try clear p2); (try clear c3); (try clear c4); (try clear c5); (try clear c6); (try clear c9); (try clear c9b0); (try clear c9b1); (try clear c21); (try clear c21b0); (try clear c21b1); (try clear c21b2); (try clear c22); (try clear c22b0); (try clear c22b1); (try clear c23); (try clear c23b0); (try clear c23b1); (try clear c26); (try clear c26b0); (try clear c26b1); (try clear c27); (try clear c27b0); (try clear c27b1); (try clear c27b2); (try clear c28); (try clear c28b0); (try clear c28b1); (try clear c34); (try clear c34b0); (try clear c34b1); (try clear c34b2); (try clear c35); (try clear c35b0); (try clear c35b1); (try clear c36); (try clear c36b0); (try clear c36b1); (try clear c37); (try clear c37b0); (try clear c37b1); (try clear c40); (try clear c40b0); (try clear c40b1); (try clear c41); (try clear c41b0); (try clear c41b1); (try clear c41b2); (try clear c42); (try clear c42b0); (try clear c42b1); (try clear c47); (try clear c47b0); (try clear c47b1); (try clear c47b2); (try clear c48); (try clear c48b0); (try clear c48b1); (try clear c49); (try clear c49b0); (try clear c49b1); (try clear c52); (try clear c52b0); (try clear c52b1); (try clear c53); (try clear c53b0); (try clear c53b1); (try clear c53b2); (try clear c54); (try clear c54b0); (try clear c54b1); (try clear c61); (try clear c63); (try clear c63b0); (try clear c65); (try clear c66); (try clear c66b0); (try clear c66b1); (try clear hcz24_0); (try clear hcz24_1); (try clear hcz24_2); (try clear hcz24_3); (try clear hcz24_4); (try clear hcz24_5); (try clear hcz24_6); (try clear hcz24_7); (try clear hcz25_0); (try clear hcz25_1); (try clear hcz25_2); (try clear hcz25_3); (try clear hcz25_4); (try clear hcz25_5); (try clear hcz25_6); (try clear hcz25_7); (try clear hcz29_0); (try clear hcz29_1); (try clear hcz29_2); (try clear hcz29_3); (try clear hcz29_4); (try clear hcz29_5); (try clear hcz29_6); (try clear hcz29_7); (try clear hcz30_0); (try clear hcz30_1); (try clear hcz30_2); (try clear hcz30_3); (try clear hcz30_4); (try clear hcz30_5); (try clear hcz30_6); (try clear hcz30_7); (try clear hcz31_0); (try clear hcz31_1); (try clear hcz31_2); (try clear hcz31_3); (try clear hcz31_4); (try clear hcz31_5); (try clear hcz31_6); (try clear hcz31_7); (try clear hcz32_0); (try clear hcz32_1); (try clear hcz32_2); (try clear hcz32_3); (try clear hcz32_4); (try clear hcz32_5); (try clear hcz32_6); (try clear hcz32_7); (try clear hcz33_0); (try clear hcz33_1); (try clear hcz33_2); (try clear hcz33_3); (try clear hcz33_4); (try clear hcz33_5); (try clear hcz33_6); (try clear hcz33_7); (try clear hcz38_0); (try clear hcz38_1); (try clear hcz38_2); (try clear hcz38_3); (try clear hcz38_4); (try clear hcz38_5); (try clear hcz38_6); (try clear hcz38_7); (try clear hcz39_0); (try clear hcz39_1); (try clear hcz39_2); (try clear hcz39_3); (try clear hcz39_4); (try clear hcz39_5); (try clear hcz39_6); (try clear hcz39_7); (try clear hcz43_0); (try clear hcz43_1); (try clear hcz43_2); (try clear hcz43_3); (try clear hcz43_4); (try clear hcz43_5); (try clear hcz43_6); (try clear hcz43_7); (try clear hcz44_0); (try clear hcz44_1); (try clear hcz44_2); (try clear hcz44_3); (try clear hcz44_4); (try clear hcz44_5); (try clear hcz44_6); (try clear hcz44_7); (try clear hcz45_0); (try clear hcz45_1); (try clear hcz45_2); (try clear hcz45_3); (try clear hcz45_4); (try clear hcz45_5); (try clear hcz45_6); (try clear hcz45_7); (try clear hcz46_0); (try clear hcz46_1); (try clear hcz46_2); (try clear hcz46_3); (try clear hcz46_4); (try clear hcz46_5); (try clear hcz46_6); (try clear hcz46_7); (try clear hcz50_0); (try clear hcz50_1); (try clear hcz50_2); (try clear hcz50_3); (try clear hcz50_4); (try clear hcz50_5); (try clear hcz50_6); (try clear hcz50_7); (try clear hcz51_0); (try clear hcz51_1); (try clear hcz51_2); (try clear hcz51_3); (try clear hcz51_4); (try clear hcz51_5); (try clear hcz51_6); (try clear hcz51_7); (try clear hcz55_0); (try clear hcz55_1); (try clear hcz55_2); (try clear hcz55_3); (try clear hcz55_4); (try clear hcz55_5); (try clear hcz55_6); (try clear hcz55_7); (try clear hcz56_0); (try clear hcz56_1); (try clear hcz56_2); (try clear hcz56_3); (try clear hcz56_4); (try clear hcz56_5); (try clear hcz56_6); (try clear hcz56_7); (try clear hcz57_0); (try clear hcz57_1); (try clear hcz57_2); (try clear hcz57_3); (try clear hcz57_4); (try clear hcz57_5); (try clear hcz57_6); (try clear hcz57_7); (try clear hcz58_0); (try clear hcz58_1); (try clear hcz58_2); (try clear hcz58_3); (try clear hcz58_4); (try clear hcz58_5); (try clear hcz58_6); (try clear hcz58_7); (try clear hcz59_0); (try clear hcz59_1); (try clear hcz59_2); (try clear hcz59_3); (try clear hcz59_4); (try clear hcz59_5); (try clear hcz59_6); (try clear hcz59_7); (try clear hcz60_0); (try clear hcz60_1); (try clear hcz60_2); (try clear hcz60_3); (try clear hcz60_4); (try clear hcz60_5); (try clear hcz60_6); (try clear hcz60_7); (try clear hcz64_0); (try clear hcz64_1); (try clear hcz64_2); (try clear hcz64_3); (try clear hcz64_4); (try clear hcz64_5); (try clear hcz64_6); (try clear hcz64_7); (try clear hcz67_0); (try clear hcz67_1); (try clear hcz67_2); (try clear hcz67_3); (try clear hcz67_4); (try clear hcz67_5); (try clear hcz67_6); (try clear hcz67_7); (try clear hfz24_0); (try clear hfz24_1); (try clear hfz24_2); (try clear hfz24_3); (try clear hfz24_4); (try clear hfz24_5); (try clear hfz24_6); (try clear hfz24_7); (try clear hfz25_0); (try clear hfz25_1); (try clear hfz25_2); (try clear hfz25_3); (try clear hfz25_4); (try clear hfz25_5); (try clear hfz25_6); (try clear hfz25_7); (try clear hfz29_0); (try clear hfz29_1); (try clear hfz29_2); (try clear hfz29_3); (try clear hfz29_4); (try clear hfz29_5); (try clear hfz29_6); (try clear hfz29_7); (try clear hfz30_0); (try clear hfz30_1); (try clear hfz30_2); (try clear hfz30_3); (try clear hfz30_4); (try clear hfz30_5); (try clear hfz30_6); (try clear hfz30_7); (try clear hfz31_0); (try clear hfz31_1); (try clear hfz31_2); (try clear hfz31_3); (try clear hfz31_4); (try clear hfz31_5); (try clear hfz31_6); (try clear hfz31_7); (try clear hfz32_0); (try clear hfz32_1); (try clear hfz32_2); (try clear hfz32_3); (try clear hfz32_4); (try clear hfz32_5); (try clear hfz32_6); (try clear hfz32_7); (try clear hfz33_0); (try clear hfz33_1); (try clear hfz33_2); (try clear hfz33_3); (try clear hfz33_4); (try clear hfz33_5); (try clear hfz33_6); (try clear hfz33_7); (try clear hfz38_0); (try clear hfz38_1); (try clear hfz38_2); (try clear hfz38_3); (try clear hfz38_4); (try clear hfz38_5); (try clear hfz38_6); (try clear hfz38_7); (try clear hfz39_0); (try clear hfz39_1); (try clear hfz39_2); (try clear hfz39_3); (try clear hfz39_4); (try clear hfz39_5); (try clear hfz39_6); (try clear hfz39_7); (try clear hfz43_0); (try clear hfz43_1); (try clear hfz43_2); (try clear hfz43_3); (try clear hfz43_4); (try clear hfz43_5); (try clear hfz43_6); (try clear hfz43_7); (try clear hfz44_0); (try clear hfz44_1); (try clear hfz44_2); (try clear hfz44_3); (try clear hfz44_4); (try clear hfz44_5); (try clear hfz44_6); (try clear hfz44_7); (try clear hfz45_0); (try clear hfz45_1); (try clear hfz45_2); (try clear hfz45_3); (try clear hfz45_4); (try clear hfz45_5); (try clear hfz45_6); (try clear hfz45_7); (try clear hfz46_0); (try clear hfz46_1); (try clear hfz46_2); (try clear hfz46_3); (try clear hfz46_4); (try clear hfz46_5); (try clear hfz46_6); (try clear hfz46_7); (try clear hfz50_0); (try clear hfz50_1); (try clear hfz50_2); (try clear hfz50_3); (try clear hfz50_4); (try clear hfz50_5); (try clear hfz50_6); (try clear hfz50_7); (try clear hfz51_0); (try clear hfz51_1); (try clear hfz51_2); (try clear hfz51_3); (try clear hfz51_4); (try clear hfz51_5); (try clear hfz51_6); (try clear hfz51_7); (try clear hfz55_0); (try clear hfz55_1); (try clear hfz55_2); (try clear hfz55_3); (try clear hfz55_4); (try clear hfz55_5); (try clear hfz55_6); (try clear hfz55_7); (try clear hfz56_0); (try clear hfz56_1); (try clear hfz56_2); (try clear hfz56_3); (try clear hfz56_4); (try clear hfz56_5); (try clear hfz56_6); (try clear hfz56_7); (try clear hfz57_0); (try clear hfz57_1); (try clear hfz57_2); (try clear hfz57_3); (try clear hfz57_4); (try clear hfz57_5); (try clear hfz57_6); (try clear hfz57_7); (try clear hfz58_0); (try clear hfz58_1); (try clear hfz58_2); (try clear hfz58_3); (try clear hfz58_4); (try clear hfz58_5); (try clear hfz58_6); (try clear hfz58_7); (try clear hfz59_0); (try clear hfz59_1); (try clear hfz59_2); (try clear hfz59_3); (try clear hfz59_4); (try clear hfz59_5); (try clear hfz59_6); (try clear hfz59_7); (try clear hfz60_0); (try clear hfz60_1); (try clear hfz60_2); (try clear hfz60_3); (try clear hfz60_4); (try clear hfz60_5); (try clear hfz60_6); (try clear hfz60_7); (try clear hfz64_0); (try clear hfz64_1); (try clear hfz64_2); (try clear hfz64_3); (try clear hfz64_4); (try clear hfz64_5); (try clear hfz64_6); (try clear hfz64_7); (try clear hfz67_0); (try clear hfz67_1); (try clear hfz67_2); (try clear hfz67_3); (try clear hfz67_4); (try clear hfz67_5); (try clear hfz67_6); (try clear hfz67_7); obtain ⟨x73_3, rfl, HA, HK3, BK146, HB⟩ := hrel
                    cases gk with
                    | zero => exact absurd HA.out (by simp [spec_StmOK.l0])
                    | succ k3 =>
                      have H := HA.out; clear HA; simp only [spec_StmOK.l0] at H; by_cases c68 : x73_3 < (l0_2.length : Int)
                      · rw [if_pos c68] at H; have c68b0 : decide (x73_3 < (l0_2.length : Int)) = true := decide_eq_true c68; clear c68; by_cases c69 : 0 ≤ x73_3
                        · rw [if_pos c69] at H; have c69b0 : decide (0 ≤ x73_3) = true := decide_eq_true c69; clear c69; by_cases c70 : x73_3 < (l0_2.length : Int)
                          · rw [if_pos c70] at H; have c70b0 : decide (x73_3 < (l0_2.length : Int)) = true := decide_eq_true c70; clear c70; by_cases c71 : (l0_2.length : Int) > 20
                            · rw [if_pos c71] at H; have c71b0 : decide (20 < (l0_2.length : Int)) = true := decide_eq_true c71; have c71b1 : decide (20 < l0_2.length) = true := decide_eq_true (by omega); clear c71; obtain rfl := Option.some.inj H; have p148 : 0 ≤ (x73_3 : Int) := of_decide_eq_true qa; have q148 : x73_3 < (l0_2.length : Int) := of_decide_eq_true qa; obtain ⟨ad148, e148, hx148_0, hx148_1⟩ := at_T46 HR0_2.out x73_3 p148 q148; cases e148; replace hx148_0 := (HB.out.cell (World.block_lt_of_cell? w _ hx148_0)).trans hx148_0; replace hx148_1 := (HB.out.cell (World.block_lt_of_cell? w _ hx148_1)).trans hx148_1; replace p148 := eq_true p148; replace q148 := eq_true q148; go_wp2_with (first | ((with_reducible refine gds (N := 5) rfl ?_); (try (refine gate_guard (by rfl) ?_; dsimp only)); refine qbx 5 #[.string (⟨#[]⟩ : ByteArray), .int .i64 0] 46 ?_; intro gb149 hg w72 hbox hb; have BK149 := qK (hbox); have GW149 := qK ((qW : w.heap.size ≤ gb149)); have GE149 := GW149; replace HB := qHB HB hb; have NB146_149 := qK (qlt BK146 hg); have NB149_146 := qK (qgt BK146 hg); replace BK146 := qbb BK146 hb; clear hb hbox hg; have hnb73 := NB149_146.out; have hnc73 := NB146_149.out; have hz74 := qz2 BK149.out; have hz75 := qz8 BK146.out)); go_ret; exact ⟨qR, qB⟩
                            · rw [if_neg c71] at H; have c71b0 : decide (20 < (l0_2.length : Int)) = false := decide_eq_false c71; have c71b1 : decide (20 < l0_2.length) = false := decide_eq_false (by omega); clear c71; replace H := Option.bind_eq_some_iff.mp H; obtain ⟨t150, A760, H⟩ := H; have A76 := qK A760; clear A760; by_cases c77 : t150 = true
                              · subst c77; rw [if_pos rfl] at H; replace H := Option.bind_eq_some_iff.mp H; obtain ⟨t151, A780, H⟩ := H; have A78 := qK A780; clear A780; by_cases c79 : t151 = true
                                · subst c79; rw [if_pos rfl] at H; have H' := qK H; clear H; have p148 : 0 ≤ (x73_3 : Int) := of_decide_eq_true qa; have q148 : x73_3 < (l0_2.length : Int) := of_decide_eq_true qa; obtain ⟨ad148, e148, hx148_0, hx148_1⟩ := at_T46 HR0_2.out x73_3 p148 q148; cases e148; replace hx148_0 := (HB.out.cell (World.block_lt_of_cell? w _ hx148_0)).trans hx148_0; replace hx148_1 := (HB.out.cell (World.block_lt_of_cell? w _ hx148_1)).trans hx148_1; replace p148 := eq_true p148; replace q148 := eq_true q148; go_wp2_with (first | ((with_reducible refine gds (N := 5) rfl ?_); (try (refine gate_guard (by rfl) ?_; dsimp only)); refine qbx 5 #[.string (⟨#[]⟩ : ByteArray), .int .i64 0] 46 ?_; intro gb149 hg w80 hbox hb; have BK149 := qK (hbox); have GW149 := qK ((qW : w.heap.size ≤ gb149)); have GE149 := GW149; replace HB := qHB HB hb; have NB146_149 := qK (qlt BK146 hg); have NB149_146 := qK (qgt BK146 hg); replace BK146 := qbb BK146 hb; clear hb hbox hg; have hnb81 := NB149_146.out; have hnc81 := NB146_149.out; have hz82 := qz2 BK149.out; have hz83 := qz8 BK146.out) | (go_at_call 33; (with_reducible refine (spec_l4Name.calls k3 ((rd_T46 l0_2 x73_3).f0) true _ A76.out).mono ?_); rintro e w84 ⟨rfl, hb⟩; replace BK146 := qK (bbe (g := gb146) (o := .cells #[.int .i64 a0_0, .string a0_1, .slice (some ad148) l0_2.length c0_2, .slice A0_3 l0_3.length c0_3, .string a0_4, .slice A0_5 l0_5.length c0_5, .slice A0_6 l0_6.length c0_6, .slice A0_7 l0_7.length c0_7] 35 (0, 0)) (by (with_reducible repeat (first | refine bdN ?_ _ | refine bkD ?_ | refine bkA ?_ _)); refine bfa ?_ NB146_149.out _; refine bfa ?_ NB146_149.out _; exact BK146.out) hb); replace BK149 := qK (bbe (g := gb149) (o := .cells #[.string ((rd_T46 l0_2 x73_3).f0), .int .i64 ((rd_T46 l0_2 x73_3).f1)] 46 (0, 0)) (by (with_reducible repeat (first | refine bdN ?_ _ | refine bkD ?_ | refine bkA ?_ _)); refine bpu (cs := #[.string ((rd_T46 l0_2 x73_3).f0), .int .i64 0]) ?_ 1 _ rfl; refine bpu (cs := #[.string (⟨#[]⟩ : ByteArray), .int .i64 0]) ?_ 0 _ rfl; exact BK149.out) hb); replace HB := qHB HB hb; (try clear hb); (try clear hb2); (try clear hk); (try clear hi); have hz85 := qz2 BK149.out) | (go_at_call 34; (with_reducible refine (spec_l4Type.calls ((rd_T46 l0_2 x73_3).f1) true _ A78.out).mono ?_); rintro e w' ⟨rfl, ⟨nd, rfl⟩⟩)); go_roundg k3
                                  case measure => have := HJ3.out; have := HJ61.out; have := HK3.out; omega
                                  case rel => exact ⟨(wrap64 (x73_3 + 1)), qS, H', ⟨by have := HJ3.out; have := HJ61.out; have := HK3.out; omega⟩, ⟨by (with_reducible repeat (first | refine bdN ?_ _ | refine bkD ?_ | refine bkA ?_ _)); exact BK146.out⟩, ⟨qB⟩⟩
                                · replace c79 := Bool.eq_false_iff.mpr c79; subst c79; rw [if_neg qff] at H; obtain rfl := Option.some.inj H; have p148 : 0 ≤ (x73_3 : Int) := of_decide_eq_true qa; have q148 : x73_3 < (l0_2.length : Int) := of_decide_eq_true qa; obtain ⟨ad148, e148, hx148_0, hx148_1⟩ := at_T46 HR0_2.out x73_3 p148 q148; cases e148; replace hx148_0 := (HB.out.cell (World.block_lt_of_cell? w _ hx148_0)).trans hx148_0; replace hx148_1 := (HB.out.cell (World.block_lt_of_cell? w _ hx148_1)).trans hx148_1; replace p148 := eq_true p148; replace q148 := eq_true q148; go_wp2_with (first | ((with_reducible refine gds (N := 5) rfl ?_); (try (refine gate_guard (by rfl) ?_; dsimp only)); refine qbx 5 #[.string (⟨#[]⟩ : ByteArray), .int .i64 0] 46 ?_; intro gb149 hg w86 hbox hb; have BK149 := qK (hbox); have GW149 := qK ((qW : w.heap.size ≤ gb149)); have GE149 := GW149; replace HB := qHB HB hb; have NB146_149 := qK (qlt BK146 hg); have NB149_146 := qK (qgt BK146 hg); replace BK146 := qbb BK146 hb; clear hb hbox hg; have hnb87 := NB149_146.out; have hnc87 := NB146_149.out; have hz88 := qz2 BK149.out; have hz89 := qz8 BK146.out) | (go_at_call 33; (with_reducible refine (spec_l4Name.calls k3 ((rd_T46 l0_2 x73_3).f0) true _ A76.out).mono ?_); rintro e w90 ⟨rfl, hb⟩; replace BK146 := qK (bbe (g := gb146) (o := .cells #[.int .i64 a0_0, .string a0_1, .slice (some ad148) l0_2.length c0_2, .slice A0_3 l0_3.length c0_3, .string a0_4, .slice A0_5 l0_5.length c0_5, .slice A0_6 l0_6.length c0_6, .slice A0_7 l0_7.length c0_7] 35 (0, 0)) (by (with_reducible repeat (first | refine bdN ?_ _ | refine bkD ?_ | refine bkA ?_ _)); refine bfa ?_ NB146_149.out _; refine bfa ?_ NB146_149.out _; exact BK146.out) hb); replace BK149 := qK (bbe (g := gb149) (o := .cells #[.string ((rd_T46 l0_2 x73_3).f0), .int .i64 ((rd_T46 l0_2 x73_3).f1)] 46 (0, 0)) (by (with_reducible repeat (first | refine bdN ?_ _ | refine bkD ?_ | refine bkA ?_ _)); refine bpu (cs := #[.string ((rd_T46 l0_2 x73_3).f0), .int .i64 0]) ?_ 1 _ rfl; refine bpu (cs := #[.string (⟨#[]⟩ : ByteArray), .int .i64 0]) ?_ 0 _ rfl; exact BK149.out) hb); replace HB := qHB HB hb; (try clear hb); (try clear hb2); (try clear hk); (try clear hi); have hz91 := qz2 BK149.out) | (go_at_call 34; (with_reducible refine (spec_l4Type.calls ((rd_T46 l0_2 x73_3).f1) false _ A78.out).mono ?_); rintro e w' ⟨rfl, ⟨nd, rfl⟩⟩)); go_ret; exact ⟨qR, qB⟩
                              · replace c77 := Bool.eq_false_iff.mpr c77; subst c77; rw [if_neg qff] at H; obtain rfl := Option.some.inj H; have p148 : 0 ≤ (x73_3 : Int) := of_decide_eq_true qa; have q148 : x73_3 < (l0_2.length : Int) := of_decide_eq_true qa; obtain ⟨ad148, e148, hx148_0, hx148_1⟩ := at_T46 HR0_2.out x73_3 p148 q148; cases e148; replace hx148_0 := (HB.out.cell (World.block_lt_of_cell? w _ hx148_0)).trans hx148_0; replace hx148_1 := (HB.out.cell (World.block_lt_of_cell? w _ hx148_1)).trans hx148_1; replace p148 := eq_true p148; replace q148 := eq_true q148; go_wp2_with (first | ((with_reducible refine gds (N := 5) rfl ?_); (try (refine gate_guard (by rfl) ?_; dsimp only)); refine qbx 5 #[.string (⟨#[]⟩ : ByteArray), .int .i64 0] 46 ?_; intro gb149 hg w92 hbox hb; have BK149 := qK (hbox); have GW149 := qK ((qW : w.heap.size ≤ gb149)); have GE149 := GW149; replace HB := qHB HB hb; have NB146_149 := qK (qlt BK146 hg); have NB149_146 := qK (qgt BK146 hg); replace BK146 := qbb BK146 hb; clear hb hbox hg; have hnb93 := NB149_146.out; have hnc93 := NB146_149.out; have hz94 := qz2 BK149.out; have hz95 := qz8 BK146.out) | (go_at_call 33; (with_reducible refine (spec_l4Name.calls k3 ((rd_T46 l0_2 x73_3).f0) false _ A76.out).mono ?_); rintro e w96 ⟨rfl, hb⟩; replace BK146 := qK (bbe (g := gb146) (o := .cells #[.int .i64 a0_0, .string a0_1, .slice (some ad148) l0_2.length c0_2, .slice A0_3 l0_3.length c0_3, .string a0_4, .slice A0_5 l0_5.length c0_5, .slice A0_6 l0_6.length c0_6, .slice A0_7 l0_7.length c0_7] 35 (0, 0)) (by (with_reducible repeat (first | refine bdN ?_ _ | refine bkD ?_ | refine bkA ?_ _)); refine bfa ?_ NB146_149.out _; refine bfa ?_ NB146_149.out _; exact BK146.out) hb); replace BK149 := qK (bbe (g := gb149) (o := .cells #[.string ((rd_T46 l0_2 x73_3).f0), .int .i64 ((rd_T46 l0_2 x73_3).f1)] 46 (0, 0)) (by (with_reducible repeat (first | refine bdN ?_ _ | refine bkD ?_ | refine bkA ?_ _)); refine bpu (cs := #[.string ((rd_T46 l0_2 x73_3).f0), .int .i64 0]) ?_ 1 _ rfl; refine bpu (cs := #[.string (⟨#[]⟩ : ByteArray), .int .i64 0]) ?_ 0 _ rfl; exact BK149.out) hb); replace HB := qHB HB hb; (try clear hb); (try clear hb2); (try clear hk); (try clear hi))); go_ret; exact ⟨qR, qB⟩
                          · rw [if_neg c70] at H; exact absurd H (by simp)
                        · rw [if_neg c69] at H; exact absurd H (by simp)
                      · rw [if_neg c68] at H; have c68b0 : decide (x73_3 < (l0_2.length : Int)) = false := decide_eq_false c68; clear c68; obtain rfl := Option.some.inj H; obtain ⟨hcz97_0, hcz97_1, hcz97_2, hcz97_3, hcz97_4, hcz97_5, hcz97_6, hcz97_7⟩ := zC8 BK146.out; obtain ⟨hfz97_0, hfz97_1, hfz97_2, hfz97_3, hfz97_4, hfz97_5, hfz97_6, hfz97_7⟩ := zF8 BK146.out; go_wp2; go_ret; exact ⟨qR, qB⟩
                · rw [if_neg c66] at H; have c66b0 : (a0_0 == 1) = false := beq_eq_false_iff_ne.mpr c66; have c66b1 : (a0_0 != 1) = true := bne_iff_ne.mpr c66; by_cases c98 : a0_0 = 2
                  · rw [if_pos c98] at H; have c98b0 : (a0_0 == 2) = true := beq_iff_eq.mpr c98; have c98b1 : (a0_0 != 2) = false := bne_eq_false_iff_eq.mpr c98; clear c98; have H' := qK H; clear H; obtain ⟨hcz99_0, hcz99_1, hcz99_2, hcz99_3, hcz99_4, hcz99_5, hcz99_6, hcz99_7⟩ := zC8 BK146.out; obtain ⟨hfz99_0, hfz99_1, hfz99_2, hfz99_3, hfz99_4, hfz99_5, hfz99_6, hfz99_7⟩ := zF8 BK146.out; go_wp2; go_loopg [103] kj61 (fun kq v103 w' => ∃ (x103_3 : Int), v103 = .int .i64 x103_3 ∧ Aside0 (spec_StmOK.l1 kq l0_3 (l0_3.length : Int) x103_3 a0_0 a0_1 l0_2 l0_3 a0_4 l0_5 l0_6 l0_7 = some r) ∧ Aside0 (kq ≤ kj61) ∧ Aside0 (w'.heap[gb146]? = some (.cells #[.int .i64 a0_0, .string a0_1, (.slice A0_2 l0_2.length c0_2), (.slice A0_3 l0_3.length c0_3), .string a0_4, (.slice A0_5 l0_5.length c0_5), (.slice A0_6 l0_6.length c0_6), (.slice A0_7 l0_7.length c0_7)] 35 (0, 0))) ∧ Aside0 (Below w.heap.size w w'))
                    case atStart => exact ⟨(0), qS, H', ⟨Nat.le_refl _⟩, ⟨by (with_reducible repeat (first | refine bdN ?_ _ | refine bkD ?_ | refine bkA ?_ _)); exact BK146.out⟩, ⟨qB⟩⟩
                    case round =>
                      clear H'; (try clear p1); (try clear q1); (try clear hx1); (try clear c2); (try clear p2); (try clear c3); (try clear c4); (try clear c5); (try clear c6); (try clear p6); (try clear c7); (try clear c8); (try clear c9); (try clear p14); (try clear q14); (try clear hx14); (try clear c23); (try clear c23b1); (try clear c26); (try clear c26b0); (try clear c26b1); (try clear c27); (try clear c27b0); (try clear c27b1); (try clear c27b2); (try clear c28); (try clear c28b0); (try clear c28b1); (try clear c34); (try clear c34b0); (try clear c34b1); (try clear c34b2); (try clear c35); (try clear c35b0); (try clear c35b1); (try clear c36); (try clear c36b0); (try clear c36b1); (try clear c37); (try clear c37b0); (try clear c37b1); (try clear c40); (try clear c40b0); (try clear c40b1); (try clear c41); (try clear c41b0); (try clear c41b1); (try clear c41b2); (try clear c42); (try clear c42b0); (try clear c42b1); (try clear c47); (try clear c47b0); (try clear c47b1); (try clear c47b2); (try clear c48); (try clear c48b0); (try clear c48b1); (try clear c49); (try clear c49b0); (try clear c49b1); (try clear c52); (try clear c52b0); (try clear c52b1); (try clear c53); (try clear c53b0); (try clear c53b1); (try clear c53b2); (try clear c54); (try clear c54b0); (try clear c54b1); (try clear c61); (try clear c63); (try clear c63b0); (try clear p64); (try clear c65); (try clear c66); (try clear c66b0); (try clear c66b1); (try clear c68); (try clear c68b0); (try clear c69); (try clear c69b0); (try clear c70); (try clear c70b0); (try clear c71); (try clear c71b0); (try clear c71b1); (try clear c73); (try clear c77); (try clear c79); (try clear c81); (try clear c87); (try clear c93); (try clear c98); (try clear c98b0); (try clear c98b1); (try clear hcz24_0); (try clear hcz24_1); (try clear hcz24_2); (try clear hcz24_3); (try clear hcz24_4); (try clear hcz24_5); (try clear hcz24_6); (try clear hcz24_7); (try clear hcz25_0); (try clear hcz25_1); (try clear hcz25_2); (try clear hcz25_3); (try clear hcz25_4); (try clear hcz25_5); (try clear hcz25_6); (try clear hcz25_7); (try clear hcz29_0); (try clear hcz29_1); (try clear hcz29_2); (try clear hcz29_3); (try clear hcz29_4); (try clear hcz29_5); (try clear hcz29_6); (try clear hcz29_7); (try clear hcz30_0); (try clear hcz30_1); (try clear hcz30_2); (try clear hcz30_3); (try clear hcz30_4); (try clear hcz30_5); (try clear hcz30_6); (try clear hcz30_7); (try clear hcz31_0); (try clear hcz31_1); (try clear hcz31_2); (try clear hcz31_3); (try clear hcz31_4); (try clear hcz31_5); (try clear hcz31_6); (try clear hcz31_7); (try clear hcz32_0); (try clear hcz32_1); (try clear hcz32_2); (try clear hcz32_3); (try clear hcz32_4); (try clear hcz32_5); (try clear hcz32_6); (try clear hcz32_7); (try clear hcz33_0); (try clear hcz33_1); (try clear hcz33_2); (try clear hcz33_3); (try clear hcz33_4); (try clear hcz33_5); (try clear hcz33_6); (try clear hcz33_7); (try clear hcz38_0); (try clear hcz38_1); (try clear hcz38_2); (try clear hcz38_3); (try clear hcz38_4); (try clear hcz38_5); (try clear hcz38_6); (try clear hcz38_7); (try clear hcz39_0); (try clear hcz39_1); (try clear hcz39_2); (try clear hcz39_3); (try clear hcz39_4); (try clear hcz39_5); (try clear hcz39_6); (try clear hcz39_7); (try clear hcz43_0); (try clear hcz43_1); (try clear hcz43_2); (try clear hcz43_3); (try clear hcz43_4); (try clear hcz43_5); (try clear hcz43_6); (try clear hcz43_7); (try clear hcz44_0); (try clear hcz44_1); (try clear hcz44_2); (try clear hcz44_3); (try clear hcz44_4); (try clear hcz44_5); (try clear hcz44_6); (try clear hcz44_7); (try clear hcz45_0); (try clear hcz45_1); (try clear hcz45_2); (try clear hcz45_3); (try clear hcz45_4); (try clear hcz45_5); (try clear hcz45_6); (try clear hcz45_7); (try clear hcz46_0); (try clear hcz46_1); (try clear hcz46_2); (try clear hcz46_3); (try clear hcz46_4); (try clear hcz46_5); (try clear hcz46_6); (try clear hcz46_7); (try clear hcz50_0); (try clear hcz50_1); (try clear hcz50_2); (try clear hcz50_3); (try clear hcz50_4); (try clear hcz50_5); (try clear hcz50_6); (try clear hcz50_7); (try clear hcz51_0); (try clear hcz51_1); (try clear hcz51_2); (try clear hcz51_3); (try clear hcz51_4); (try clear hcz51_5); (try clear hcz51_6); (try clear hcz51_7); (try clear hcz55_0); (try clear hcz55_1); (try clear hcz55_2); (try clear hcz55_3); (try clear hcz55_4); (try clear hcz55_5); (try clear hcz55_6); (try clear hcz55_7); (try clear hcz56_0); (try clear hcz56_1); (try clear hcz56_2); (try clear hcz56_3); (try clear hcz56_4); (try clear hcz56_5); (try clear hcz56_6); (try clear hcz56_7); (try clear hcz57_0); (try clear hcz57_1); (try clear hcz57_2); (try clear hcz57_3); (try clear hcz57_4); (try clear hcz57_5); (try clear hcz57_6); (try clear hcz57_7); (try clear hcz58_0); (try clear hcz58_1); (try clear hcz58_2); (try clear hcz58_3); (try clear hcz58_4); (try clear hcz58_5); (try clear hcz58_6); (try clear hcz58_7); (try clear hcz59_0); (try clear hcz59_1); (try clear hcz59_2); (try clear hcz59_3); (try clear hcz59_4); (try clear hcz59_5); (try clear hcz59_6); (try clear hcz59_7); (try clear hcz60_0); (try clear hcz60_1); (try clear hcz60_2); (try clear hcz60_3); (try clear hcz60_4); (try clear hcz60_5); (try clear hcz60_6); (try clear hcz60_7); (try clear hcz64_0); (try clear hcz64_1); (try clear hcz64_2); (try clear hcz64_3); (try clear hcz64_4); (try clear hcz64_5); (try clear hcz64_6); (try clear hcz64_7); (try clear hcz67_0); (try clear hcz67_1); (try clear hcz67_2); (try clear hcz67_3); (try clear hcz67_4); (try clear hcz67_5); (try clear hcz67_6); (try clear hcz67_7); (try clear hz74); (try clear hz75); (try clear hz82); (try clear hz83); (try clear hz85); (try clear hz88); (try clear hz89); (try clear hz91); (try clear hz94); (try clear hz95); (try clear hcz97_0); (try clear hcz97_1); (try clear hcz97_2); (try clear hcz97_3); (try clear hcz97_4); (try clear hcz97_5); (try clear hcz97_6); (try clear hcz97_7); (try clear hcz99_0); (try clear hcz99_1); (try clear hcz99_2); (try clear hcz99_3); (try clear hcz99_4); (try clear hcz99_5); (try clear hcz99_6); (try clear hcz99_7); (try clear hfz24_0); (try clear hfz24_1); (try clear hfz24_2); (try clear hfz24_3); (try clear hfz24_4); (try clear hfz24_5); (try clear hfz24_6); (try clear hfz24_7); (try clear hfz25_0); (try clear hfz25_1); (try clear hfz25_2); (try clear hfz25_3); (try clear hfz25_4); (try clear hfz25_5); (try clear hfz25_6); (try clear hfz25_7); (try clear hfz29_0); (try clear hfz29_1); (try clear hfz29_2); (try clear hfz29_3); (try clear hfz29_4); (try clear hfz29_5); (try clear hfz29_6); (try clear hfz29_7); (try clear hfz30_0); (try clear hfz30_1); (try clear hfz30_2); (try clear hfz30_3); (try clear hfz30_4); (try clear hfz30_5); (try clear hfz30_6); (try clear hfz30_7); (try clear hfz31_0); (try clear hfz31_1); (try clear hfz31_2); (try clear hfz31_3); (try clear hfz31_4); (try clear hfz31_5); (try clear hfz31_6); (try clear hfz31_7); (try clear hfz32_0); (try clear hfz32_1); (try clear hfz32_2); (try clear hfz32_3); (try clear hfz32_4); (try clear hfz32_5); (try clear hfz32_6); (try clear hfz32_7); (try clear hfz33_0); (try clear hfz33_1); (try clear hfz33_2); (try clear hfz33_3); (try clear hfz33_4); (try clear hfz33_5); (try clear hfz33_6); (try clear hfz33_7); (try clear hfz38_0); (try clear hfz38_1); (try clear hfz38_2); (try clear hfz38_3); (try clear hfz38_4); (try clear hfz38_5); (try clear hfz38_6); (try clear hfz38_7); (try clear hfz39_0); (try clear hfz39_1); (try clear hfz39_2); (try clear hfz39_3); (try clear hfz39_4); (try clear hfz39_5); (try clear hfz39_6); (try clear hfz39_7); (try clear hfz43_0); (try clear hfz43_1); (try clear hfz43_2); (try clear hfz43_3); (try clear hfz43_4); (try clear hfz43_5); (try clear hfz43_6); (try clear hfz43_7); (try clear hfz44_0); (try clear hfz44_1); (try clear hfz44_2); (try clear hfz44_3); (try clear hfz44_4); (try clear hfz44_5); (try clear hfz44_6); (try clear hfz44_7); (try clear hfz45_0); (try clear hfz45_1); (try clear hfz45_2); (try clear hfz45_3); (try clear hfz45_4); (try clear hfz45_5); (try clear hfz45_6); (try clear hfz45_7); (try clear hfz46_0); (try clear hfz46_1); (try clear hfz46_2); (try clear hfz46_3); (try clear hfz46_4); (try clear hfz46_5); (try clear hfz46_6); (try clear hfz46_7); (try clear hfz50_0); (try clear hfz50_1); (try clear hfz50_2); (try clear hfz50_3); (try clear hfz50_4); (try clear hfz50_5); (try clear hfz50_6); (try clear hfz50_7); (try clear hfz51_0); (try clear hfz51_1); (try clear hfz51_2); (try clear hfz51_3); (try clear hfz51_4); (try clear hfz51_5); (try clear hfz51_6); (try clear hfz51_7); (try clear hfz55_0); (try clear hfz55_1); (try clear hfz55_2); (try clear hfz55_3); (try clear hfz55_4); (try clear hfz55_5); (try clear hfz55_6); (try clear hfz55_7); (try clear hfz56_0); (try clear hfz56_1); (try clear hfz56_2); (try clear hfz56_3); (try clear hfz56_4); (try clear hfz56_5); (try clear hfz56_6); (try clear hfz56_7); (try clear hfz57_0); (try clear hfz57_1); (try clear hfz57_2); (try clear hfz57_3); (try clear hfz57_4); (try clear hfz57_5); (try clear hfz57_6); (try clear hfz57_7); (try clear hfz58_0); (try clear hfz58_1); (try clear hfz58_2); (try clear hfz58_3); (try clear hfz58_4); (try clear hfz58_5); (try clear hfz58_6); (try clear hfz58_7); (try clear hfz59_0); (try clear hfz59_1); (try clear hfz59_2); (try clear hfz59_3); (try clear hfz59_4); (try clear hfz59_5); (try clear hfz59_6); (try clear hfz59_7); (try clear hfz60_0); (try clear hfz60_1); (try clear hfz60_2); (try clear hfz60_3); (try clear hfz60_4); (try clear hfz60_5); (try clear hfz60_6); (try clear hfz60_7); (try clear hfz64_0); (try clear hfz64_1); (try clear hfz64_2); (try clear hfz64_3); (try clear hfz64_4); (try clear hfz64_5); (try clear hfz64_6); (try clear hfz64_7); (try clear hfz67_0); (try clear hfz67_1); (try clear hfz67_2); (try clear hfz67_3); (try clear hfz67_4); (try clear hfz67_5); (try clear hfz67_6); (try clear hfz67_7); (try clear hfz97_0); (try clear hfz97_1); (try clear hfz97_2); (try clear hfz97_3); (try clear hfz97_4); (try clear hfz97_5); (try clear hfz97_6); (try clear hfz97_7); (try clear hfz99_0); (try clear hfz99_1); (try clear hfz99_2); (try clear hfz99_3); (try clear hfz99_4); (try clear hfz99_5); (try clear hfz99_6); (try clear hfz99_7); (try clear hx148_0); (try clear hx148_1); (try clear p148); (try clear q148); obtain ⟨x103_3, rfl, HA, HK3, BK146, HB⟩ := hrel
                      cases gk with
                      | zero => exact absurd HA.out (by simp [spec_StmOK.l1])
                      | succ k3 =>
                        have H := HA.out; clear HA; simp only [spec_StmOK.l1] at H; by_cases c100 : x103_3 < (l0_3.length : Int)
                        · rw [if_pos c100] at H; have c100b0 : decide (x103_3 < (l0_3.length : Int)) = true := decide_eq_true c100; clear c100; by_cases c101 : 0 ≤ x103_3
                          · rw [if_pos c101] at H; have c101b0 : decide (0 ≤ x103_3) = true := decide_eq_true c101; clear c101; by_cases c102 : x103_3 < (l0_3.length : Int)
                            · rw [if_pos c102] at H; have c102b0 : decide (x103_3 < (l0_3.length : Int)) = true := decide_eq_true c102; clear c102; by_cases c103 : (l0_3.length : Int) > 20
                              · rw [if_pos c103] at H; have c103b0 : decide (20 < (l0_3.length : Int)) = true := decide_eq_true c103; have c103b1 : decide (20 < l0_3.length) = true := decide_eq_true (by omega); clear c103; obtain rfl := Option.some.inj H; have p152 : 0 ≤ (x103_3 : Int) := of_decide_eq_true qa; have q152 : x103_3 < (l0_3.length : Int) := of_decide_eq_true qa; obtain ⟨ad152, e152, hx152_0, hx152_1, hx152_2⟩ := at_T49 HR0_3.out x103_3 p152 q152; cases e152; replace hx152_0 := (HB.out.cell (World.block_lt_of_cell? w _ hx152_0)).trans hx152_0; replace hx152_1 := (HB.out.cell (World.block_lt_of_cell? w _ hx152_1)).trans hx152_1; replace hx152_2 := (HB.out.cell (World.block_lt_of_cell? w _ hx152_2)).trans hx152_2; replace p152 := eq_true p152; replace q152 := eq_true q152; go_wp2_with (first | ((with_reducible refine gds (N := 7) rfl ?_); (try (refine gate_guard (by rfl) ?_; dsimp only)); refine qbx 7 #[.int .i64 0, .int .i64 0, .string (⟨#[]⟩ : ByteArray)] 49 ?_; intro gb153 hg w104 hbox hb; have BK153 := qK (hbox); have GW153 := qK ((qW : w.heap.size ≤ gb153)); have GE153 := GW153; replace HB := qHB HB hb; have NB146_153 := qK (qlt BK146 hg); have NB153_146 := qK (qgt BK146 hg); replace BK146 := qbb BK146 hb; clear hb hbox hg; have hnb105 := NB153_146.out; have hnc105 := NB146_153.out; have hz106 := qz3 BK153.out; have hz107 := qz8 BK146.out)); go_ret; exact ⟨qR, qB⟩
                              · rw [if_neg c103] at H; have c103b0 : decide (20 < (l0_3.length : Int)) = false := decide_eq_false c103; have c103b1 : decide (20 < l0_3.length) = false := decide_eq_false (by omega); clear c103; replace H := Option.bind_eq_some_iff.mp H; obtain ⟨t154, A1080, H⟩ := H; have A108 := qK A1080; clear A1080; by_cases c109 : t154 = true
                                · subst c109; rw [if_pos rfl] at H; have H' := qK H; clear H; have p152 : 0 ≤ (x103_3 : Int) := of_decide_eq_true qa; have q152 : x103_3 < (l0_3.length : Int) := of_decide_eq_true qa; obtain ⟨ad152, e152, hx152_0, hx152_1, hx152_2⟩ := at_T49 HR0_3.out x103_3 p152 q152; cases e152; replace hx152_0 := (HB.out.cell (World.block_lt_of_cell? w _ hx152_0)).trans hx152_0; replace hx152_1 := (HB.out.cell (World.block_lt_of_cell? w _ hx152_1)).trans hx152_1; replace hx152_2 := (HB.out.cell (World.block_lt_of_cell? w _ hx152_2)).trans hx152_2; replace p152 := eq_true p152; replace q152 := eq_true q152; go_wp2_with (first | ((with_reducible refine gds (N := 7) rfl ?_); (try (refine gate_guard (by rfl) ?_; dsimp only)); refine qbx 7 #[.int .i64 0, .int .i64 0, .string (⟨#[]⟩ : ByteArray)] 49 ?_; intro gb153 hg w110 hbox hb; have BK153 := qK (hbox); have GW153 := qK ((qW : w.heap.size ≤ gb153)); have GE153 := GW153; replace HB := qHB HB hb; have NB146_153 := qK (qlt BK146 hg); have NB153_146 := qK (qgt BK146 hg); replace BK146 := qbb BK146 hb; clear hb hbox hg; have hnb111 := NB153_146.out; have hnc111 := NB146_153.out; have hz112 := qz3 BK153.out; have hz113 := qz8 BK146.out) | (go_at_call 35; (with_reducible refine (spec_l4Value.calls k3 ((rd_T49 l0_3 x103_3).f0) ((rd_T49 l0_3 x103_3).f1) ((rd_T49 l0_3 x103_3).f2) true _ A108.out).mono ?_); rintro e w114 ⟨rfl, hb⟩; replace BK146 := qK (bbe (g := gb146) (o := .cells #[.int .i64 a0_0, .string a0_1, .slice A0_2 l0_2.length c0_2, .slice (some ad152) l0_3.length c0_3, .string a0_4, .slice A0_5 l0_5.length c0_5, .slice A0_6 l0_6.length c0_6, .slice A0_7 l0_7.length c0_7] 35 (0, 0)) (by (with_reducible repeat (first | refine bdN ?_ _ | refine bkD ?_ | refine bkA ?_ _)); refine bfa ?_ NB146_153.out _; refine bfa ?_ NB146_153.out _; refine bfa ?_ NB146_153.out _; exact BK146.out) hb); replace BK153 := qK (bbe (g := gb153) (o := .cells #[.int .i64 ((rd_T49 l0_3 x103_3).f0), .int .i64 ((rd_T49 l0_3 x103_3).f1), .string ((rd_T49 l0_3 x103_3).f2)] 49 (0, 0)) (by (with_reducible repeat (first | refine bdN ?_ _ | refine bkD ?_ | refine bkA ?_ _)); refine bpu (cs := #[.int .i64 ((rd_T49 l0_3 x103_3).f0), .int .i64 ((rd_T49 l0_3 x103_3).f1), .string (⟨#[]⟩ : ByteArray)]) ?_ 2 _ rfl; refine bpu (cs := #[.int .i64 ((rd_T49 l0_3 x103_3).f0), .int .i64 0, .string (⟨#[]⟩ : ByteArray)]) ?_ 1 _ rfl; refine bpu (cs := #[.int .i64 0, .int .i64 0, .string (⟨#[]⟩ : ByteArray)]) ?_ 0 _ rfl; exact BK153.out) hb); replace HB := qHB HB hb; (try clear hb); (try clear hb2); (try clear hk); (try clear hi))); go_roundg k3
                                  case measure => have := HJ3.out; have := HJ61.out; have := HK3.out; omega
                                  case rel => exact ⟨(wrap64 (x103_3 + 1)), qS, H', ⟨by have := HJ3.out; have := HJ61.out; have := HK3.out; omega⟩, ⟨by (with_reducible repeat (first | refine bdN ?_ _ | refine bkD ?_ | refine bkA ?_ _)); exact BK146.out⟩, ⟨qB⟩⟩
                                · replace c109 := Bool.eq_false_iff.mpr c109; subst c109; rw [if_neg qff] at H; obtain rfl := Option.some.inj H; have p152 : 0 ≤ (x103_3 : Int) := of_decide_eq_true qa; have q152 : x103_3 < (l0_3.length : Int) := of_decide_eq_true qa; obtain ⟨ad152, e152, hx152_0, hx152_1, hx152_2⟩ := at_T49 HR0_3.out x103_3 p152 q152; cases e152; replace hx152_0 := (HB.out.cell (World.block_lt_of_cell? w _ hx152_0)).trans hx152_0; replace hx152_1 := (HB.out.cell (World.block_lt_of_cell? w _ hx152_1)).trans hx152_1; replace hx152_2 := (HB.out.cell (World.block_lt_of_cell? w _ hx152_2)).trans hx152_2; replace p152 := eq_true p152; replace q152 := eq_true q152; go_wp2_with (first | ((with_reducible refine gds (N := 7) rfl ?_); (try (refine gate_guard (by rfl) ?_; dsimp only)); refine qbx 7 #[.int .i64 0, .int .i64 0, .string (⟨#[]⟩ : ByteArray)] 49 ?_; intro gb153 hg w115 hbox hb; have BK153 := qK (hbox); have GW153 := qK ((qW : w.heap.size ≤ gb153)); have GE153 := GW153; replace HB := qHB HB hb; have NB146_153 := qK (qlt BK146 hg); have NB153_146 := qK (qgt BK146 hg); replace BK146 := qbb BK146 hb; clear hb hbox hg; have hnb116 := NB153_146.out; have hnc116 := NB146_153.out; have hz117 := qz3 BK153.out; have hz118 := qz8 BK146.out) | (go_at_call 35; (with_reducible refine (spec_l4Value.calls k3 ((rd_T49 l0_3 x103_3).f0) ((rd_T49 l0_3 x103_3).f1) ((rd_T49 l0_3 x103_3).f2) false _ A108.out).mono ?_); rintro e w119 ⟨rfl, hb⟩; replace BK146 := qK (bbe (g := gb146) (o := .cells #[.int .i64 a0_0, .string a0_1, .slice A0_2 l0_2.length c0_2, .slice (some ad152) l0_3.length c0_3, .string a0_4, .slice A0_5 l0_5.length c0_5, .slice A0_6 l0_6.length c0_6, .slice A0_7 l0_7.length c0_7] 35 (0, 0)) (by (with_reducible repeat (first | refine bdN ?_ _ | refine bkD ?_ | refine bkA ?_ _)); refine bfa ?_ NB146_153.out _; refine bfa ?_ NB146_153.out _; refine bfa ?_ NB146_153.out _; exact BK146.out) hb); replace BK153 := qK (bbe (g := gb153) (o := .cells #[.int .i64 ((rd_T49 l0_3 x103_3).f0), .int .i64 ((rd_T49 l0_3 x103_3).f1), .string ((rd_T49 l0_3 x103_3).f2)] 49 (0, 0)) (by (with_reducible repeat (first | refine bdN ?_ _ | refine bkD ?_ | refine bkA ?_ _)); refine bpu (cs := #[.int .i64 ((rd_T49 l0_3 x103_3).f0), .int .i64 ((rd_T49 l0_3 x103_3).f1), .string (⟨#[]⟩ : ByteArray)]) ?_ 2 _ rfl; refine bpu (cs := #[.int .i64 ((rd_T49 l0_3 x103_3).f0), .int .i64 0, .string (⟨#[]⟩ : ByteArray)]) ?_ 1 _ rfl; refine bpu (cs := #[.int .i64 0, .int .i64 0, .string (⟨#[]⟩ : ByteArray)]) ?_ 0 _ rfl; exact BK153.out) hb); replace HB := qHB HB hb; (try clear hb); (try clear hb2); (try clear hk); (try clear hi))); go_ret; exact ⟨qR, qB⟩
                            · rw [if_neg c102] at H; exact absurd H (by simp)
                          · rw [if_neg c101] at H; exact absurd H (by simp)
                        · rw [if_neg c100] at H; have c100b0 : decide (x103_3 < (l0_3.length : Int)) = false := decide_eq_false c100; clear c100; obtain rfl := Option.some.inj H; obtain ⟨hcz120_0, hcz120_1, hcz120_2, hcz120_3, hcz120_4, hcz120_5, hcz120_6, hcz120_7⟩ := zC8 BK146.out; obtain ⟨hfz120_0, hfz120_1, hfz120_2, hfz120_3, hfz120_4, hfz120_5, hfz120_6, hfz120_7⟩ := zF8 BK146.out; go_wp2; go_ret; exact ⟨qR, qB⟩
                  · rw [if_neg c98] at H; have c98b0 : (a0_0 == 2) = false := beq_eq_false_iff_ne.mpr c98; have c98b1 : (a0_0 != 2) = true := bne_iff_ne.mpr c98; by_cases c121 : a0_0 = 3
                    · rw [if_pos c121] at H; have c121b0 : (a0_0 == 3) = true := beq_iff_eq.mpr c121; have c121b1 : (a0_0 != 3) = false := bne_eq_false_iff_eq.mpr c121; clear c121; replace H := Option.bind_eq_some_iff.mp H; obtain ⟨t155, A1220, H⟩ := H; have A122 := qK A1220; clear A1220; by_cases c123 : t155 = true
                      · subst c123; rw [if_pos rfl] at H; replace H := Option.bind_eq_some_iff.mp H; obtain ⟨t156, A1240, H⟩ := H; have A124 := qK A1240; clear A1240; by_cases c125 : t156 = true
                        · subst c125; rw [if_pos rfl] at H; replace H := Option.bind_eq_some_iff.mp H; obtain ⟨t157, A1260, H⟩ := H; have A126 := qK A1260; clear A1260; obtain rfl := Option.some.inj H; obtain ⟨hcz127_0, hcz127_1, hcz127_2, hcz127_3, hcz127_4, hcz127_5, hcz127_6, hcz127_7⟩ := zC8 BK146.out; obtain ⟨hfz127_0, hfz127_1, hfz127_2, hfz127_3, hfz127_4, hfz127_5, hfz127_6, hfz127_7⟩ := zF8 BK146.out; go_wp2_with (first | ((with_reducible refine gcl (f := 33) rfl ?_); refine goesL_ (some 125) rfl rfl Tryz.func33 (by kernel_rfl) rfl #[.string a0_4] rfl qA ?_; (with_reducible refine (spec_l4Name.calls kj61 a0_4 true _ A122.out).mono ?_); rintro e w128 ⟨rfl, hb⟩; refine ⟨_, rfl, ?_⟩; replace BK146 := qbb BK146 hb; replace HB := qHB HB hb; (try clear hb); (try clear hb2); (try clear hk); (try clear hi); have hz129 := qz8 BK146.out) | (go_at_call 36; (with_reducible refine (spec_l4Exp.calls kj61 _ _ l0_5 true _ ?side1 ?side2 A124.out).mono ?_); (case side1 => exact qC HR0_5); (case side2 => exact HC0_5.out); rintro e w130 ⟨rfl, hb⟩; replace BK146 := qbb BK146 hb; replace HB := qHB HB hb; (try clear hb); (try clear hb2); (try clear hk); (try clear hi); have hz131 := qz8 BK146.out) | (go_at_call 37; (with_reducible refine (spec_l4Where.calls kj61 _ _ l0_6 t157 _ ?side1 ?side2 A126.out).mono ?_); (case side1 => exact qC HR0_6); (case side2 => exact HC0_6.out); rintro e w132 ⟨rfl, hb⟩; replace BK146 := qbb BK146 hb; replace HB := qHB HB hb; (try clear hb); (try clear hb2); (try clear hk); (try clear hi))); go_ret; exact ⟨qR, qB⟩
                        · replace c125 := Bool.eq_false_iff.mpr c125; subst c125; rw [if_neg qff] at H; obtain rfl := Option.some.inj H; obtain ⟨hcz133_0, hcz133_1, hcz133_2, hcz133_3, hcz133_4, hcz133_5, hcz133_6, hcz133_7⟩ := zC8 BK146.out; obtain ⟨hfz133_0, hfz133_1, hfz133_2, hfz133_3, hfz133_4, hfz133_5, hfz133_6, hfz133_7⟩ := zF8 BK146.out; go_wp2_with (first | ((with_reducible refine gcl (f := 33) rfl ?_); refine goesL_ (some 125) rfl rfl Tryz.func33 (by kernel_rfl) rfl #[.string a0_4] rfl qA ?_; (with_reducible refine (spec_l4Name.calls kj61 a0_4 true _ A122.out).mono ?_); rintro e w134 ⟨rfl, hb⟩; refine ⟨_, rfl, ?_⟩; replace BK146 := qbb BK146 hb; replace HB := qHB HB hb; (try clear hb); (try clear hb2); (try clear hk); (try clear hi); have hz135 := qz8 BK146.out) | (go_at_call 36; (with_reducible refine (spec_l4Exp.calls kj61 _ _ l0_5 false _ ?side1 ?side2 A124.out).mono ?_); (case side1 => exact qC HR0_5); (case side2 => exact HC0_5.out); rintro e w136 ⟨rfl, hb⟩; replace BK146 := qbb BK146 hb; replace HB := qHB HB hb; (try clear hb); (try clear hb2); (try clear hk); (try clear hi))); go_ret; exact ⟨qR, qB⟩
                      · replace c123 := Bool.eq_false_iff.mpr c123; subst c123; rw [if_neg qff] at H; obtain rfl := Option.some.inj H; obtain ⟨hcz137_0, hcz137_1, hcz137_2, hcz137_3, hcz137_4, hcz137_5, hcz137_6, hcz137_7⟩ := zC8 BK146.out; obtain ⟨hfz137_0, hfz137_1, hfz137_2, hfz137_3, hfz137_4, hfz137_5, hfz137_6, hfz137_7⟩ := zF8 BK146.out; go_wp2_with (first | ((with_reducible refine gcl (f := 33) rfl ?_); refine goesL_ (some 125) rfl rfl Tryz.func33 (by kernel_rfl) rfl #[.string a0_4] rfl qA ?_; (with_reducible refine (spec_l4Name.calls kj61 a0_4 false _ A122.out).mono ?_); rintro e w138 ⟨rfl, hb⟩; refine ⟨_, rfl, ?_⟩; replace BK146 := qbb BK146 hb; replace HB := qHB HB hb; (try clear hb); (try clear hb2); (try clear hk); (try clear hi))); go_ret; exact ⟨qR, qB⟩
                    · rw [if_neg c121] at H; have c121b0 : (a0_0 == 3) = false := beq_eq_false_iff_ne.mpr c121; have c121b1 : (a0_0 != 3) = true := bne_iff_ne.mpr c121; by_cases c139 : a0_0 = 4
                      · rw [if_pos c139] at H; have c139b0 : (a0_0 == 4) = true := beq_iff_eq.mpr c139; have c139b1 : (a0_0 != 4) = false := bne_eq_false_iff_eq.mpr c139; clear c139; replace H := Option.bind_eq_some_iff.mp H; obtain ⟨t158, A1400, H⟩ := H; have A140 := qK A1400; clear A1400; obtain rfl := Option.some.inj H; obtain ⟨hcz141_0, hcz141_1, hcz141_2, hcz141_3, hcz141_4, hcz141_5, hcz141_6, hcz141_7⟩ := zC8 BK146.out; obtain ⟨hfz141_0, hfz141_1, hfz141_2, hfz141_3, hfz141_4, hfz141_5, hfz141_6, hfz141_7⟩ := zF8 BK146.out; go_wp2_with (first | ((with_reducible refine gcl (f := 37) rfl ?_); refine goesL_ (some 140) rfl rfl Tryz.func37 (by kernel_rfl) rfl #[.slice A0_6 l0_6.length c0_6] rfl qA ?_; (with_reducible refine (spec_l4Where.calls kj61 _ _ l0_6 t158 _ ?side1 ?side2 A140.out).mono ?_); (case side1 => exact qC HR0_6); (case side2 => exact HC0_6.out); rintro e w142 ⟨rfl, hb⟩; refine ⟨_, rfl, ?_⟩; replace BK146 := qbb BK146 hb; replace HB := qHB HB hb; (try clear hb); (try clear hb2); (try clear hk); (try clear hi))); go_ret; exact ⟨qR, qB⟩
                      · rw [if_neg c139] at H; have c139b0 : (a0_0 == 4) = false := beq_eq_false_iff_ne.mpr c139; have c139b1 : (a0_0 != 4) = true := bne_iff_ne.mpr c139; by_cases c143 : a0_0 = 5
                        · rw [if_pos c143] at H; have c143b0 : (a0_0 == 5) = true := beq_iff_eq.mpr c143; have c143b1 : (a0_0 != 5) = false := bne_eq_false_iff_eq.mpr c143; clear c143; have H' := qK H; clear H; obtain ⟨hcz144_0, hcz144_1, hcz144_2, hcz144_3, hcz144_4, hcz144_5, hcz144_6, hcz144_7⟩ := zC8 BK146.out; obtain ⟨hfz144_0, hfz144_1, hfz144_2, hfz144_3, hfz144_4, hfz144_5, hfz144_6, hfz144_7⟩ := zF8 BK146.out; go_wp2; go_loopg [146] kj61 (fun kq v146 w' => ∃ (x146_3 : Int), v146 = .int .i64 x146_3 ∧ Aside0 (spec_StmOK.l2 kq l0_7 (l0_7.length : Int) x146_3 a0_0 a0_1 l0_2 l0_3 a0_4 l0_5 l0_6 l0_7 = some r) ∧ Aside0 (kq ≤ kj61) ∧ Aside0 (w'.heap[gb146]? = some (.cells #[.int .i64 a0_0, .string a0_1, (.slice A0_2 l0_2.length c0_2), (.slice A0_3 l0_3.length c0_3), .string a0_4, (.slice A0_5 l0_5.length c0_5), (.slice A0_6 l0_6.length c0_6), (.slice A0_7 l0_7.length c0_7)] 35 (0, 0))) ∧ Aside0 (Below w.heap.size w w'))
                          case atStart => exact ⟨(0), qS, H', ⟨Nat.le_refl _⟩, ⟨by (with_reducible repeat (first | refine bdN ?_ _ | refine bkD ?_ | refine bkA ?_ _)); exact BK146.out⟩, ⟨qB⟩⟩
                          case round =>
                            clear H'; (try clear c1); (try clear p1); (try clear q1); (try clear hx1); (try clear p2); (try clear c3); (try clear p6); (try clear c9); (try clear c10); (try clear c11); (try clear c12); (try clear c13); (try clear c14); (try clear p14); (try clear q14); (try clear hx14); (try clear p15); (try clear q15); (try clear hx15); (try clear c33); (try clear c37); (try clear p64); (try clear c98); (try clear c98b0); (try clear c98b1); (try clear c100); (try clear c100b0); (try clear c101); (try clear c101b0); (try clear c102); (try clear c102b0); (try clear c103); (try clear c103b0); (try clear c103b1); (try clear c105); (try clear c109); (try clear c111); (try clear c116); (try clear c121); (try clear c121b0); (try clear c121b1); (try clear c123); (try clear c125); (try clear c139); (try clear c139b0); (try clear c139b1); (try clear c143); (try clear c143b0); (try clear c143b1); (try clear hz106); (try clear hz107); (try clear hz112); (try clear hz113); (try clear hz117); (try clear hz118); (try clear hcz120_0); (try clear hcz120_1); (try clear hcz120_2); (try clear hcz120_3); (try clear hcz120_4); (try clear hcz120_5); (try clear hcz120_6); (try clear hcz120_7); (try clear hcz127_0); (try clear hcz127_1); (try clear hcz127_2); (try clear hcz127_3); (try clear hcz127_4); (try clear hcz127_5); (try clear hcz127_6); (try clear hcz127_7); (try clear hz129); (try clear hz131); (try clear hcz133_0); (try clear hcz133_1); (try clear hcz133_2); (try clear hcz133_3); (try clear hcz133_4); (try clear hcz133_5); (try clear hcz133_6); (try clear hcz133_7); (try clear hz135); (try clear hcz137_0); (try clear hcz137_1); (try clear hcz137_2); (try clear hcz137_3); (try clear hcz137_4); (try clear hcz137_5); (try clear hcz137_6); (try clear hcz137_7); (try clear hcz141_0); (try clear hcz141_1); (try clear hcz141_2); (try clear hcz141_3); (try clear hcz141_4); (try clear hcz141_5); (try clear hcz141_6); (try clear hcz141_7); (try clear hcz144_0); (try clear hcz144_1); (try clear hcz144_2); (try clear hcz144_3); (try clear hcz144_4); (try clear hcz144_5); (try clear hcz144_6); (try clear hcz144_7); (try clear hcz67_1); (try clear hcz67_2); (try clear hcz67_3); (try clear hcz67_4); (try clear hcz67_5); (try clear hcz67_6); (try clear hcz67_7); (try clear hz74); (try clear hz75); (try clear hz82); (try clear hz83); (try clear hz85); (try clear hz88); (try clear hz89); (try clear hz91); (try clear hz94); (try clear hz95); (try clear hcz97_0); (try clear hcz97_1); (try clear hcz97_2); (try clear hcz97_3); (try clear hcz97_4); (try clear hcz97_5); (try clear hcz97_6); (try clear hcz97_7); (try clear hcz99_0); (try clear hcz99_1); (try clear hcz99_2); (try clear hcz99_3); (try clear hcz99_4); (try clear hcz99_5); (try clear hcz99_6); (try clear hcz99_7); (try clear hfz120_0); (try clear hfz120_1); (try clear hfz120_2); (try clear hfz120_3); (try clear hfz120_4); (try clear hfz120_5); (try clear hfz120_6); (try clear hfz120_7); (try clear hfz127_0); (try clear hfz127_1); (try clear hfz127_2); (try clear hfz127_3); (try clear hfz127_4); (try clear hfz127_5); (try clear hfz127_6); (try clear hfz127_7); (try clear hfz133_0); (try clear hfz133_1); (try clear hfz133_2); (try clear hfz133_3); (try clear hfz133_4); (try clear hfz133_5); (try clear hfz133_6); (try clear hfz133_7); (try clear hfz137_0); (try clear hfz137_1); (try clear hfz137_2); (try clear hfz137_3); (try clear hfz137_4); (try clear hfz137_5); (try clear hfz137_6); (try clear hfz137_7); (try clear hfz141_0); (try clear hfz141_1); (try clear hfz141_2); (try clear hfz141_3); (try clear hfz141_4); (try clear hfz141_5); (try clear hfz141_6); (try clear hfz141_7); (try clear hfz144_0); (try clear hfz144_1); (try clear hfz144_2); (try clear hfz144_3); (try clear hfz144_4); (try clear hfz144_5); (try clear hfz144_6); (try clear hfz144_7); (try clear hfz24_0); (try clear hfz24_1); (try clear hfz24_2); (try clear hfz24_3); (try clear hfz24_4); (try clear hfz24_5); (try clear hfz24_6); (try clear hfz24_7); (try clear hfz25_0); (try clear hfz25_1); (try clear hfz25_2); (try clear hfz25_3); (try clear hfz25_4); (try clear hfz25_5); (try clear hfz25_6); (try clear hfz25_7); (try clear hfz29_0); (try clear hfz29_1); (try clear hfz29_2); (try clear hfz29_3); (try clear hfz29_4); (try clear hfz29_5); (try clear hfz29_6); (try clear hfz29_7); (try clear hfz30_0); (try clear hfz30_1); (try clear hfz30_2); (try clear hfz30_3); (try clear hfz30_4); (try clear hfz30_5); (try clear hfz30_6); (try clear hfz30_7); (try clear hfz31_0); (try clear hfz31_1); (try clear hfz31_2); (try clear hfz31_3); (try clear hfz31_4); (try clear hfz31_5); (try clear hfz31_6); (try clear hfz31_7); (try clear hfz32_0); (try clear hfz32_1); (try clear hfz32_2); (try clear hfz32_3); (try clear hfz32_4); (try clear hfz32_5); (try clear hfz32_6); (try clear hfz32_7); (try clear hfz33_0); (try clear hfz33_1); (try clear hfz33_2); (try clear hfz33_3); (try clear hfz33_4); (try clear hfz33_5); (try clear hfz33_6); (try clear hfz33_7); (try clear hfz38_0); (try clear hfz38_1); (try clear hfz38_2); (try clear hfz38_3); (try clear hfz38_4); (try clear hfz38_5); (try clear hfz38_6); (try clear hfz38_7); (try clear hfz39_0); (try clear hfz39_1); (try clear hfz39_2); (try clear hfz39_3); (try clear hfz39_4); (try clear hfz39_5); (try clear hfz39_6); (try clear hfz39_7); (try clear hfz43_0); (try clear hfz43_1); (try clear hfz43_2); (try clear hfz43_3); (try clear hfz43_4); (try clear hfz43_5); (try clear hfz43_6); (try clear hfz43_7); (try clear hfz44_0); (try clear hfz44_1); (try clear hfz44_2); (try clear hfz44_3); (try clear hfz44_4); (try clear hfz44_5); (try clear hfz44_6); (try clear hfz44_7); (try clear hfz45_0); (try clear hfz45_1); (try clear hfz45_2); (try clear hfz45_3); (try clear hfz45_4); (try clear hfz45_5); (try clear hfz45_6); (try clear hfz45_7); (try clear hfz46_0); (try clear hfz46_1); (try clear hfz46_2); (try clear hfz46_3); (try clear hfz46_4); (try clear hfz46_5); (try clear hfz46_6); (try clear hfz46_7); (try clear hfz50_0); (try clear hfz50_1); (try clear hfz50_2); (try clear hfz50_3); (try clear hfz50_4); (try clear hfz50_5); (try clear hfz50_6); (try clear hfz50_7); (try clear hfz51_0); (try clear hfz51_1); (try clear hfz51_2); (try clear hfz51_3); (try clear hfz51_4); (try clear hfz51_5); (try clear hfz51_6); (try clear hfz51_7); (try clear hfz55_0); (try clear hfz55_1); (try clear hfz55_2); (try clear hfz55_3); (try clear hfz55_4); (try clear hfz55_5); (try clear hfz55_6); (try clear hfz55_7); (try clear hfz56_0); (try clear hfz56_1); (try clear hfz56_2); (try clear hfz56_3); (try clear hfz56_4); (try clear hfz56_5); (try clear hfz56_6); (try clear hfz56_7); (try clear hfz57_0); (try clear hfz57_1); (try clear hfz57_2); (try clear hfz57_3); (try clear hfz57_4); (try clear hfz57_5); (try clear hfz57_6); (try clear hfz57_7); (try clear hfz58_0); (try clear hfz58_1); (try clear hfz58_2); (try clear hfz58_3); (try clear hfz58_4); (try clear hfz58_5); (try clear hfz58_6); (try clear hfz58_7); (try clear hfz59_0); (try clear hfz59_1); (try clear hfz59_2); (try clear hfz59_3); (try clear hfz59_4); (try clear hfz59_5); (try clear hfz59_6); (try clear hfz59_7); (try clear hfz60_0); (try clear hfz60_1); (try clear hfz60_2); (try clear hfz60_3); (try clear hfz60_4); (try clear hfz60_5); (try clear hfz60_6); (try clear hfz60_7); (try clear hfz64_0); (try clear hfz64_1); (try clear hfz64_2); (try clear hfz64_3); (try clear hfz64_4); (try clear hfz64_5); (try clear hfz64_6); (try clear hfz64_7); (try clear hfz67_0); (try clear hfz67_1); (try clear hfz67_2); (try clear hfz67_3); (try clear hfz67_4); (try clear hfz67_5); (try clear hfz67_6); (try clear hfz67_7); (try clear hfz97_0); (try clear hfz97_1); (try clear hfz97_2); (try clear hfz97_3); (try clear hfz97_4); (try clear hfz97_5); (try clear hfz97_6); (try clear hfz97_7); (try clear hfz99_0); (try clear hfz99_1); (try clear hfz99_2); (try clear hfz99_3); (try clear hfz99_4); (try clear hfz99_5); (try clear hfz99_6); (try clear hfz99_7); (try clear hx148_0); (try clear hx148_1); (try clear hx152_0); (try clear hx152_1); (try clear hx152_2); (try clear p148); (try clear p152); (try clear q148); (try clear q152); obtain ⟨x146_3, rfl, HA, HK3, BK146, HB⟩ := hrel
                            cases gk with
                            | zero => exact absurd HA.out (by simp [spec_StmOK.l2])
                            | succ k3 =>
                              have H := HA.out; clear HA; simp only [spec_StmOK.l2] at H; by_cases c145 : x146_3 < (l0_7.length : Int)
                              · rw [if_pos c145] at H; have c145b0 : decide (x146_3 < (l0_7.length : Int)) = true := decide_eq_true c145; clear c145; by_cases c146 : 0 ≤ x146_3
                                · rw [if_pos c146] at H; have c146b0 : decide (0 ≤ x146_3) = true := decide_eq_true c146; clear c146; by_cases c147 : x146_3 < (l0_7.length : Int)
                                  · rw [if_pos c147] at H; have c147b0 : decide (x146_3 < (l0_7.length : Int)) = true := decide_eq_true c147; clear c147; by_cases c148 : (l0_7.length : Int) > 20
                                    · rw [if_pos c148] at H; have c148b0 : decide (20 < (l0_7.length : Int)) = true := decide_eq_true c148; have c148b1 : decide (20 < l0_7.length) = true := decide_eq_true (by omega); clear c148; obtain rfl := Option.some.inj H; have p159 : 0 ≤ (x146_3 : Int) := of_decide_eq_true qa; have q159 : x146_3 < (l0_7.length : Int) := of_decide_eq_true qa; obtain ⟨ad159, A159_0, c159_0, e159, hx159_0, hl159_0, hi159_0⟩ := at_L9 HR0_7.out x146_3 p159 q159; cases e159; replace hx159_0 := (HB.out.cell (World.block_lt_of_cell? w _ hx159_0)).trans hx159_0; have HR159_0 := qK hi159_0; have HC159_0 := qK hl159_0; clear hi159_0 hl159_0; replace p159 := eq_true p159; replace q159 := eq_true q159; obtain ⟨hcz149_0, hcz149_1, hcz149_2, hcz149_3, hcz149_4, hcz149_5, hcz149_6, hcz149_7⟩ := zC8 BK146.out; obtain ⟨hfz149_0, hfz149_1, hfz149_2, hfz149_3, hfz149_4, hfz149_5, hfz149_6, hfz149_7⟩ := zF8 BK146.out; go_wp2; go_ret; exact ⟨qR, qB⟩
                                    · rw [if_neg c148] at H; have c148b0 : decide (20 < (l0_7.length : Int)) = false := decide_eq_false c148; have c148b1 : decide (20 < l0_7.length) = false := decide_eq_false (by omega); clear c148; replace H := Option.bind_eq_some_iff.mp H; obtain ⟨t160, A1500, H⟩ := H; have A150 := qK A1500; clear A1500; by_cases c151 : t160 = true
                                      · subst c151; rw [if_pos rfl] at H; have H' := qK H; clear H; have p159 : 0 ≤ (x146_3 : Int) := of_decide_eq_true qa; have q159 : x146_3 < (l0_7.length : Int) := of_decide_eq_true qa; obtain ⟨ad159, A159_0, c159_0, e159, hx159_0, hl159_0, hi159_0⟩ := at_L9 HR0_7.out x146_3 p159 q159; cases e159; replace hx159_0 := (HB.out.cell (World.block_lt_of_cell? w _ hx159_0)).trans hx159_0; have HR159_0 := qK hi159_0; have HC159_0 := qK hl159_0; clear hi159_0 hl159_0; replace p159 := eq_true p159; replace q159 := eq_true q159; obtain ⟨hcz152_0, hcz152_1, hcz152_2, hcz152_3, hcz152_4, hcz152_5, hcz152_6, hcz152_7⟩ := zC8 BK146.out; obtain ⟨hfz152_0, hfz152_1, hfz152_2, hfz152_3, hfz152_4, hfz152_5, hfz152_6, hfz152_7⟩ := zF8 BK146.out; go_wp2_with (first | (go_at_call 36; (with_reducible refine (spec_l4Exp.calls k3 _ _ (rd_L9 l0_7 x146_3) true _ ?side1 ?side2 A150.out).mono ?_); (case side1 => exact qC HR159_0); (case side2 => exact HC159_0.out); rintro e w153 ⟨rfl, hb⟩; replace BK146 := qbb BK146 hb; replace HB := qHB HB hb; (try clear hb); (try clear hb2); (try clear hk); (try clear hi))); go_roundg k3
                                        case measure => have := HJ3.out; have := HJ61.out; have := HK3.out; omega
                                        case rel => exact ⟨(wrap64 (x146_3 + 1)), qS, H', ⟨by have := HJ3.out; have := HJ61.out; have := HK3.out; omega⟩, ⟨by (with_reducible repeat (first | refine bdN ?_ _ | refine bkD ?_ | refine bkA ?_ _)); exact BK146.out⟩, ⟨qB⟩⟩
                                      · replace c151 := Bool.eq_false_iff.mpr c151; subst c151; rw [if_neg qff] at H; obtain rfl := Option.some.inj H; have p159 : 0 ≤ (x146_3 : Int) := of_decide_eq_true qa; have q159 : x146_3 < (l0_7.length : Int) := of_decide_eq_true qa; obtain ⟨ad159, A159_0, c159_0, e159, hx159_0, hl159_0, hi159_0⟩ := at_L9 HR0_7.out x146_3 p159 q159; cases e159; replace hx159_0 := (HB.out.cell (World.block_lt_of_cell? w _ hx159_0)).trans hx159_0; have HR159_0 := qK hi159_0; have HC159_0 := qK hl159_0; clear hi159_0 hl159_0; replace p159 := eq_true p159; replace q159 := eq_true q159; obtain ⟨hcz154_0, hcz154_1, hcz154_2, hcz154_3, hcz154_4, hcz154_5, hcz154_6, hcz154_7⟩ := zC8 BK146.out; obtain ⟨hfz154_0, hfz154_1, hfz154_2, hfz154_3, hfz154_4, hfz154_5, hfz154_6, hfz154_7⟩ := zF8 BK146.out; go_wp2_with (first | (go_at_call 36; (with_reducible refine (spec_l4Exp.calls k3 _ _ (rd_L9 l0_7 x146_3) false _ ?side1 ?side2 A150.out).mono ?_); (case side1 => exact qC HR159_0); (case side2 => exact HC159_0.out); rintro e w155 ⟨rfl, hb⟩; replace BK146 := qbb BK146 hb; replace HB := qHB HB hb; (try clear hb); (try clear hb2); (try clear hk); (try clear hi))); go_ret; exact ⟨qR, qB⟩
                                  · rw [if_neg c147] at H; exact absurd H (by simp)
                                · rw [if_neg c146] at H; exact absurd H (by simp)
                              · rw [if_neg c145] at H; have c145b0 : decide (x146_3 < (l0_7.length : Int)) = false := decide_eq_false c145; clear c145; by_cases c156 : (l0_7.length : Int) > 0
                                · rw [if_pos c156] at H; have c156b0 : decide (0 < (l0_7.length : Int)) = true := decide_eq_true c156; have c156b1 : decide (0 < l0_7.length) = true := decide_eq_true (by omega); clear c156; replace H := Option.bind_eq_some_iff.mp H; obtain ⟨t161, A1570, H⟩ := H; have A157 := qK A1570; clear A1570; obtain rfl := Option.some.inj H; obtain ⟨hcz158_0, hcz158_1, hcz158_2, hcz158_3, hcz158_4, hcz158_5, hcz158_6, hcz158_7⟩ := zC8 BK146.out; obtain ⟨hfz158_0, hfz158_1, hfz158_2, hfz158_3, hfz158_4, hfz158_5, hfz158_6, hfz158_7⟩ := zF8 BK146.out; go_wp2_with (first | (go_at_call 37; (with_reducible refine (spec_l4Where.calls k3 _ _ l0_6 t161 _ ?side1 ?side2 A157.out).mono ?_); (case side1 => exact qC HR0_6); (case side2 => exact HC0_6.out); rintro e w159 ⟨rfl, hb⟩; replace BK146 := qbb BK146 hb; replace HB := qHB HB hb; (try clear hb); (try clear hb2); (try clear hk); (try clear hi))); go_ret; exact ⟨qR, qB⟩
                                · rw [if_neg c156] at H; have c156b0 : decide (0 < (l0_7.length : Int)) = false := decide_eq_false c156; have c156b1 : decide (0 < l0_7.length) = false := decide_eq_false (by omega); clear c156; obtain rfl := Option.some.inj H; obtain ⟨hcz160_0, hcz160_1, hcz160_2, hcz160_3, hcz160_4, hcz160_5, hcz160_6, hcz160_7⟩ := zC8 BK146.out; obtain ⟨hfz160_0, hfz160_1, hfz160_2, hfz160_3, hfz160_4, hfz160_5, hfz160_6, hfz160_7⟩ := zF8 BK146.out; go_wp2; go_ret; exact ⟨qR, qB⟩
                        · rw [if_neg c143] at H; have c143b0 : (a0_0 == 5) = false := beq_eq_false_iff_ne.mpr c143; have c143b1 : (a0_0 != 5) = true := bne_iff_ne.mpr c143; obtain rfl := Option.some.inj H; go_wp2; go_ret; exact ⟨qR, qB⟩
  · replace c3 := Bool.eq_false_iff.mpr c3; subst c3; rw [if_neg qff] at H; obtain rfl := Option.some.inj H; go_enter Tryz.func13, Tryz.ntmps13; go_wp2_with (first | ((with_reducible refine gds (N := 1) rfl ?_); (try (refine gate_guard (by rfl) ?_; dsimp only)); refine qbx 1 #[.int .i64 a0_0, .string a0_1, .slice A0_2 l0_2.length c0_2, .slice A0_3 l0_3.length c0_3, .string a0_4, .slice A0_5 l0_5.length c0_5, .slice A0_6 l0_6.length c0_6, .slice A0_7 l0_7.length c0_7] 35 ?_; intro gb146 hg w161 hbox hb; have BK146 := qK (hbox); have GW146 := qK ((qW : w.heap.size ≤ gb146)); have GE146 := GW146; replace HB := qHB HB hb; clear hb hbox hg; have hz162 := qz8 BK146.out) | ((with_reducible refine gcl (f := 33) rfl ?_); refine goesL_ (some 12) rfl rfl Tryz.func33 (by kernel_rfl) rfl #[.string a0_1] rfl qA ?_; (with_reducible refine (spec_l4Name.calls k a0_1 false _ A2.out).mono ?_); rintro e w163 ⟨rfl, hb⟩; refine ⟨_, rfl, ?_⟩; replace BK146 := qbb BK146 hb; replace HB := qHB HB hb; (try clear hb); (try clear hb2); (try clear hk); (try clear hi))); go_ret; exact ⟨qR, qB⟩
end Go.Proofs.YtbpfdjbnfkclcaaGreatDoor.L
end
section
set_option linter.unusedVariables false
namespace Go.Proofs.YtbpfdjbnfkclcaaGreatDoor.L
open Go Go.RowKit Go.Proofs.YtbpfdjbnfkclcaaGreatDoor
def shF : Nat → Nat
  | 129 => 89
  | 138 => 85
  | 143 => 86
  | 154 => 78
  | 155 => 72
  | 156 => 24
  | 165 => 50
  | 166 => 51
  | 169 => 52
  | 171 => 48
  | 195 => 93
  | 197 => 87
  | 217 => 99
  | 218 => 94
  | 219 => 95
  | 224 => 101
  | 225 => 100
  | 240 => 73
  | 241 => 74
  | 243 => 71
  | 246 => 77
  | 260 => 96
  | 266 => 103
  | 267 => 102
  | 276 => 79
  | 277 => 80
  | 283 => 81
  | 284 => 82
  | 285 => 83
  | 286 => 84
  | 314 => 104
  | 317 => 88
  | 318 => 90
  | 319 => 91
  | 320 => 92
  | 337 => 97
  | 338 => 98
  | _ => 0
def shT : Nat → Nat
  | 0 => 0
  | 2 => 2
  | 3 => 3
  | 4 => 4
  | 5 => 5
  | 9 => 9
  | 20 => 20
  | 21 => 21
  | 31 => 44
  | 37 => 81
  | 46 => 120
  | 51 => 118
  | 53 => 108
  | 70 => 80
  | 72 => 83
  | 75 => 86
  | 76 => 87
  | 80 => 89
  | 105 => 114
  | 119 => 125
  | 127 => 101
  | 138 => 127
  | 139 => 128
  | 146 => 131
  | 164 => 104
  | 171 => 107
  | 173 => 111
  | 212 => 117
  | 213 => 119
  | 232 => 129
  | 233 => 130
  | _ => 0
def shG : Nat → Nat
  | 1 => 2
  | 3 => 4
  | 4 => 5
  | 17 => 3
  | 18 => 6
  | 19 => 7
  | _ => 0
noncomputable def shRen : Go.Shelf.Ren := ⟨shF, shT, shG⟩
set_option maxRecDepth 100000 in
theorem shItoa : LaysM.n171 Tryz.prog shRen := by
  constructor <;> first | kernel_rfl | (intro w; kernel_rfl) | decide | (constructor <;> first | kernel_rfl | (intro w; kernel_rfl) | decide)
set_option maxRecDepth 100000 in
theorem shReplace : Lays.n155 Tryz.prog shRen := by
  constructor <;> first | kernel_rfl | (intro w; kernel_rfl) | decide | (constructor <;> first | kernel_rfl | (intro w; kernel_rfl) | decide)
set_option maxRecDepth 100000 in
theorem shJoin : Lays.n156 Tryz.prog shRen := by
  constructor <;> first | kernel_rfl | (intro w; kernel_rfl) | decide | (constructor <;> first | kernel_rfl | (intro w; kernel_rfl) | decide)
set_option maxRecDepth 100000 in
theorem shExtra : Builder.Extra Tryz.prog shRen := by
  constructor <;> first | kernel_rfl | (intro w; kernel_rfl) | decide | (constructor <;> first | kernel_rfl | (intro w; kernel_rfl) | decide)
end Go.Proofs.YtbpfdjbnfkclcaaGreatDoor.L
end
section
set_option linter.unusedVariables false
set_option linter.unusedSimpArgs false
namespace Go.Proofs.YtbpfdjbnfkclcaaGreatDoor.L
open Go Go.RowKit Go.Proofs Go.Proofs.YtbpfdjbnfkclcaaGreatDoor Go.Proofs.YtbpfdjbnfkclcaaGreatDoorW.PrintWords Go.Proofs.YtbpfdjbnfkclcaaGreatDoorW.PrintLast Go.Proofs.YtbpfdjbnfkclcaaGreatDoorW.PrintMore
theorem itoa_any (n : Int) (w : World) (hG : GOK w) (h0 : -9223372036854775808 ≤ n) (h1 : n ≤ 9223372036854775807) : Calls Tryz.prog 48 #[.int .i64 n] w fun e w' => e = .returned (.string ⟨(Lib.itoa n).toArray⟩) ∧ Below w.heap.size w w' := by
  refine (Any.strconv_Itoa shItoa n h0 h1 w hG.2.2.1).mono ?_
  rintro e w' ⟨rfl, k, os, rfl⟩
  refine ⟨rfl, ?_⟩
  exact ⟨rfl, rfl, rfl, by simp [Sort.grow, World.drewN], fun k hk => by simp only [Sort.grow, World.drewN]; exact Array.getElem?_append_left hk⟩
theorem replace_any (s old new : ByteArray) (w : World) (hG : GOK w) (hs : s.size < 4294967281) (h1 : 1 ≤ old.size) (hlen : s.size + Lib.countB s old * new.size ≤ 140737488355328) :
    Calls Tryz.prog 72 #[.string s, .string old, .string new] w fun e w' => e = .returned (.string ⟨(Lib.replaceAll s.data.toList old.data.toList new.data.toList).toArray⟩) ∧ Below w.heap.size w w' := by
  obtain ⟨m, hm⟩ := hG.2.2.2
  exact Any.strings_ReplaceAll shReplace shExtra s old new m w hs hm h1 hlen
theorem join_any (A : Option Addr) (c : Nat) (l : List ByteArray) (sep : ByteArray) (w : World) (hr : Kd.C Kd.string w A l.length l) (hc : l.length ≤ c) (hl : l.length ≤ 1000000) (hz : (Lib.join (l.map (·.data.toList)) sep.data.toList).length ≤ 140737488355328) (h1 : 1 ≤ l.length) :
    Calls Tryz.prog 24 #[.slice A l.length c, .string sep] w fun e w' => e = .returned (.string ⟨(Lib.join (l.map (·.data.toList)) sep.data.toList).toArray⟩) ∧ Below w.heap.size w w' := by
  have get : ∀ j : Nat, j < l.length → ∃ ad : Addr, A = some ad ∧ w.cell? (ad.add j) = some (.string (l.getD j ByteArray.empty)) := by
    intro j hj
    obtain ⟨ad, cs, hA, hcl, hK, hcc⟩ := Kd.C_get hr ByteArray.empty (j : Int) (by omega) (by omega)
    have hcs : cs = [.string (l.getD j ByteArray.empty)] := hK
    have := hcc 0 (.string (l.getD j ByteArray.empty)) (by rw [hcs]; rfl)
    have e : (j : Int).toNat * Kd.string.sz + 0 = j := by show (j : Int).toNat * 1 + 0 = j; omega
    rw [e] at this
    exact ⟨ad, hA, this⟩
  obtain ⟨⟨b, o, sp⟩, hA, h0⟩ := get 0 (by omega)
  subst hA
  have h0' : w.cell? ⟨b, o, sp⟩ = some (.string (l.getD 0 ByteArray.empty)) := h0
  unfold World.cell? at h0'
  cases hb : w.heap[b]? with
  | none => simp [hb] at h0'
  | some ob =>
    have hbk : b < w.heap.size := (Array.getElem?_eq_some_iff.1 hb).1
    cases sp with
    | some q => simp only [hb] at h0'; cases ob <;> simp at h0'
    | none =>
      refine Any.strings_Join shJoin shExtra b o c l sep w ?_ hbk (by omega) hc hz
      intro j x hx
      obtain ⟨hj, hx'⟩ := List.getElem?_eq_some_iff.1 hx
      obtain ⟨ad, hA, hcell⟩ := get j hj
      obtain rfl := Option.some.inj hA
      have e1 : (⟨b, o, none⟩ : Addr).add j = ⟨b, o + j, none⟩ := by
        unfold Addr.add
        split
        · rename_i h; subst h; rfl
        · rfl
      rw [e1] at hcell
      rw [hcell, List.getD_eq_getElem?_getD, hx]
      rfl
end Go.Proofs.YtbpfdjbnfkclcaaGreatDoor.L
end
section
set_option linter.unusedVariables false
set_option linter.unusedSimpArgs false
namespace Go.Proofs.YtbpfdjbnfkclcaaGreatDoor.L
open Go Go.RowKit Go.Proofs Go.Proofs.YtbpfdjbnfkclcaaGreatDoor Go.Proofs.YtbpfdjbnfkclcaaGreatDoorW.PrintWords Go.Proofs.YtbpfdjbnfkclcaaGreatDoorW.PrintLast Go.Proofs.YtbpfdjbnfkclcaaGreatDoorW.PrintMore
abbrev IIt := S75
abbrev IIk := k75
def pushS {R : Type} (rest : List ByteArray → Option R) (s : List ByteArray) (u : ByteArray) : Option R := if s.length ≤ 1000000 ∧ u.size ≤ 1000000 then rest (s ++ [u]) else none
/-- The stack behind the items. -/
def stackGo (dec : Int → Option ByteArray) (quo : ByteArray → Option ByteArray) (sg : Int → Option ByteArray) : List IIt → List ByteArray → Option (List ByteArray)
  | [], s => some s
  | y :: l, s =>
    if y.f0 = 1 then (dec y.f1).bind fun u => pushS (stackGo dec quo sg l) s u
    else if y.f0 = 2 then (quo y.f2).bind fun u => pushS (stackGo dec quo sg l) s u
    else if y.f0 = 3 then pushS (stackGo dec quo sg l) s y.f2
    else if y.f0 = 11 then (if 1 ≤ s.length ∧ (s.getD (s.length - 1) ⟨#[]⟩).size ≤ 1000000 then pushS (stackGo dec quo sg l) (s.take (s.length - 1)) ((⟨#[40, 110, 111, 116, 32]⟩ : ByteArray) ++ s.getD (s.length - 1) ⟨#[]⟩ ++ (⟨#[41]⟩ : ByteArray)) else none)
    else if y.f0 = 13 then (if 1 ≤ s.length ∧ (s.getD (s.length - 1) ⟨#[]⟩).size ≤ 1000000 then pushS (stackGo dec quo sg l) (s.take (s.length - 1)) ((⟨#[108, 101, 110, 40]⟩ : ByteArray) ++ s.getD (s.length - 1) ⟨#[]⟩ ++ (⟨#[41]⟩ : ByteArray)) else none)
    else (if 2 ≤ s.length ∧ (s.getD (s.length - 2) ⟨#[]⟩).size ≤ 1000000 ∧ (s.getD (s.length - 1) ⟨#[]⟩).size ≤ 1000000 then (sg y.f0).bind fun g => if g.size ≤ 1000000 then pushS (stackGo dec quo sg l) (s.take (s.length - 2)) ((⟨#[40]⟩ : ByteArray) ++ s.getD (s.length - 2) ⟨#[]⟩ ++ g ++ s.getD (s.length - 1) ⟨#[]⟩ ++ (⟨#[41]⟩ : ByteArray)) else none else none)
theorem pushS_mono {R : Type} {f g : List ByteArray → Option R} (h : ∀ s, LeO (f s) (g s)) (s : List ByteArray) (u : ByteArray) : LeO (pushS f s u) (pushS g s u) := by
  unfold pushS
  exact LeO.ite (h _) (LeO.refl _)
theorem stackGo_mono {dec dec' : Int → Option ByteArray} {quo quo' : ByteArray → Option ByteArray} {sg sg' : Int → Option ByteArray} (h1 : ∀ n, LeO (dec n) (dec' n)) (h2 : ∀ n, LeO (quo n) (quo' n)) (h3 : ∀ n, LeO (sg n) (sg' n)) : ∀ l s, LeO (stackGo dec quo sg l s) (stackGo dec' quo' sg' l s)
  | [], s => LeO.refl _
  | y :: l, s => by
    have ih := stackGo_mono h1 h2 h3 l
    unfold stackGo
    exact LeO.ite (LeO.bind (h1 _) fun _ => pushS_mono ih _ _) (LeO.ite (LeO.bind (h2 _) fun _ => pushS_mono ih _ _) (LeO.ite (pushS_mono ih _ _) (LeO.ite (LeO.ite (pushS_mono ih _ _) (LeO.refl _)) (LeO.ite (LeO.ite (pushS_mono ih _ _) (LeO.refl _)) (LeO.ite (LeO.bind (h3 _) fun _ => LeO.ite (pushS_mono ih _ _) (LeO.refl _)) (LeO.refl _))))))
theorem infoStr : (Tryz.prog.info? 9).map (fun i => (i.zero, i.size, i.bytes)) = some (some (.string ⟨#[]⟩), 1, 16) := by kernel_rfl
theorem infoIt : (Tryz.prog.info? 75).map (·.size) = some 3 := by kernel_rfl
theorem heap_setRowS {w : World} {g : Nat} {cs cs' : Array Value} {t : TypeId} {fr : Nat × Nat} (h : w.heap[g]? = some (.cells cs t fr)) : (w.setRow g cs').heap[g]? = some (.cells cs' t fr) := by
  simp [World.setRow, Array.getElem?_modify, h]
theorem below_setRowS {B g : Nat} {w w' : World} (h : Below B w w') (hg : B ≤ g) (c : Array Value) : Below B w (w'.setRow g c) := by
  refine ⟨h.os, h.tape, h.output, ?_, fun k hk => ?_⟩
  · simpa [World.setRow] using h.size
  · rw [← h.block k hk]
    simp only [World.setRow, Array.getElem?_modify]
    rw [if_neg (by omega)]
theorem Kd.R_setS {w : World} {B g : Nat} {v : Value} {l : List ByteArray} {cs : Array Value} {t : TypeId} (h : Kd.R Kd.string 9 w B (fun _ => True) v l) (hX : w.heap[g]? = some (.cells cs t (0, 0))) (ht : ∀ q, q ∈ 9 :: Kd.string.E → q ≠ t) (row : Array Value) :
    Kd.R Kd.string 9 (w.setRow g row) B (fun _ => True) v l :=
  Kd.Rmo (Kd.R_step (Kd.Rty h hX ht) (fun k hk _ => by simp only [World.setRow, Array.getElem?_modify]; rw [if_neg (fun e => hk.2 e.symm)])) (fun _ _ => trivial)
theorem qL {P : Program} {md : Region.Mode} {ops : Array Oper} {Q : Exit → Act → World → Prop} {S : World → Prop} {ds : List Nat} {oi : Oper} {fuel : Nat} {l : Array Bool} {a : Act} {w : World} (i : Nat) (n : Tmp)
    (h : ∀ K : Act → World → Prop, Shut (∀ a' w', wpAnyLast P md ops Q S ds fuel (l.setIfInBounds i true) a' w' → K a' w') → if Region.wanted oi (yielded ops a.tmps) = true then Oper.wp P oi a w K Q else K (a.put (some n) undef) w)
    (hi : ops[i]? = some oi := by rfl) (hN : oi.dst = some n := by rfl) (hc : readyB md ops l (l.setIfInBounds i true) i = true := by kernel_rfl) (hd : i ∈ ds := by decide) :
    wpAnyLast P md ops Q S ds (fuel + 1) l a w := last_ _ hi hN hc hd h
/-- A text of the stack. -/
theorem stk_at {W : World} {B : Nat} {A : Option Addr} {n c : Nat} {s : List ByteArray} (h : Kd.R Kd.string 9 W B (fun _ => True) (.slice A n c) s) (i : Nat) (hi : i < s.length) :
    ∃ ad : Addr, A = some ad ∧ W.cell? (ad.add i) = some (.string (s.getD i ⟨#[]⟩)) := by
  obtain ⟨_, _, hr⟩ := Kd.R_reads' h
  obtain ⟨ad, cs, hA, hcl, hK, hcc⟩ := Kd.C_get hr (⟨#[]⟩ : ByteArray) (i : Int) (by omega) (by omega)
  have hcs : cs = [.string (s.getD i ⟨#[]⟩)] := hK
  have := hcc 0 (.string (s.getD i ⟨#[]⟩)) (by rw [hcs]; rfl)
  have e : (i : Int).toNat * Kd.string.sz + 0 = i := by show (i : Int).toNat * 1 + 0 = i; omega
  rw [e] at this
  exact ⟨ad, hA, this⟩
set_option maxHeartbeats 8000000 in
set_option maxRecDepth 100000 in
theorem spec_stack (A : Option Addr) (c : Nat) (l : List IIt) (w : World) (dec : Int → Option ByteArray) (quo : ByteArray → Option ByteArray) (sg : Int → Option ByteArray) (hr : Kd.C IIk w A l.length l) (hl : l.length ≤ 1000000)
    (hdec : ∀ n r, dec n = some r → ∀ w', Calls Tryz.prog 38 #[.int .i64 n] w' fun e w'' => e = .returned (.string r) ∧ Below w'.heap.size w' w'')
    (hquo : ∀ v r, quo v = some r → ∀ w', Calls Tryz.prog 39 #[.string v] w' fun e w'' => e = .returned (.string r) ∧ Below w'.heap.size w' w'')
    (hsg : ∀ n r, sg n = some r → ∀ w', Calls Tryz.prog 40 #[.int .i64 n] w' fun e w'' => e = .returned (.string r) ∧ Below w'.heap.size w' w'')
    (r : List ByteArray) (h : stackGo dec quo sg l [] = some r) (h1 : 1 ≤ r.length) :
    Calls Tryz.prog 16 #[.slice A l.length c] w fun e w' => e = .returned (.string (r.getD 0 ⟨#[]⟩)) ∧ Below w.heap.size w w' := by
  have HR0 := Aside0.mk hr
  have HL := Aside0.mk hl
  have HDEC := Aside0.mk hdec
  have HQUO := Aside0.mk hquo
  have HSG := Aside0.mk hsg
  have HG := Aside0.mk h
  have H1 := Aside0.mk h1
  clear hr hl hdec hquo hsg h h1
  go_enter Tryz.func16, Tryz.ntmps16
  go_wp2_with (first | ((with_reducible refine gds (N := 7) rfl ?_); refine Kd.R_lit Kd.string (w0 := w) w.heap.size 9 ?hgd (N := 7) ?hd (xs := []) (inner := []) (ok := fun _ => True) (okp := fun _ => True) ?hr ?hp (fun _ hk => hk) trivial ?hb ?hz (by simp) ?_; (case hd => rfl); (case hgd => rfl); (case hr => first | (go_simp; done) | (go_simp; rfl)); (case hp => exact (Reps.none _ _)); (case hb => exact Below.refl _ _); (case hz => exact Nat.le_refl _); intro v1 w6 ho1 hb1 hg1 hn1; have HS := Aside0.mk ho1; have HB := Aside0.mk hb1; clear ho1 hb1 hg1 hn1))
  go_loopg [3, 10] l.length (fun kq v3 v10 w' => ∃ (i : Nat) (s : List ByteArray), v3 = v3 ∧ v10 = .int .i64 (i : Int) ∧ Aside0 (kq + i = l.length) ∧ Aside0 (stackGo dec quo sg (l.drop i) s = some r) ∧ Aside0 (Kd.R Kd.string 9 w' w.heap.size (fun _ => True) v3 s) ∧ Aside0 (Below w.heap.size w w'))
  case atStart => exact ⟨0, [], rfl, rfl, ⟨by omega⟩, ⟨by rw [List.drop_zero]; exact HG.out⟩, HS, HB⟩
  case round =>
    clear HB HS HG
    obtain ⟨i, s, _, rfl, HI, HG, HS, HB⟩ := hrel
    obtain ⟨A3, c3, rfl⟩ := Kd.R_slice HS.out
    have HC3 := Aside0.mk (Kd.R_reads' HS.out).2.1
    have HSN := Aside0.mk (Kd.R_reads' HS.out).1
    cases gk with
    | zero =>
      have d1 : decide ((i : Int) < (l.length : Int)) = false := decide_eq_false (by have := HI.out; omega)
      have d2 : decide (i < l.length) = false := decide_eq_false (by have := HI.out; omega)
      have h3 := HG.out
      rw [List.drop_eq_nil_of_le (by have := HI.out; omega), stackGo] at h3
      obtain rfl := Option.some.inj h3
      obtain ⟨ad, hA, hc0⟩ := stk_at HS.out 0 (by have := H1.out; omega)
      subst hA
      replace hc0 : World.cell? _ ad = _ := hc0
      have q0 : ((0 : Int) < (s.length : Int)) = True := eq_true (by have := H1.out; omega)
      have q1 : (0 < s.length) = True := eq_true (by have := H1.out; omega)
      clear h3
      go_wp2
      go_ret
      exact ⟨rfl, HB.out⟩
    | succ k1 =>
      have hil : i < l.length := by have := HI.out; omega
      have d1 : decide ((i : Int) < (l.length : Int)) = true := decide_eq_true (by omega)
      have d2 : decide (i < l.length) = true := decide_eq_true hil
      have d3 : decide (0 ≤ (i : Int)) = true := decide_eq_true (by omega)
      have p128 : 0 ≤ (i : Int) := by omega
      have q128 : (i : Int) < (l.length : Int) := by omega
      obtain ⟨ad128, e128, hx128_0, hx128_1, hx128_2⟩ := at_T75 HR0.out i p128 q128
      obtain ⟨y, hy⟩ : ∃ y, rd_T75 l i = y := ⟨_, rfl⟩
      rw [hy] at hx128_0 hx128_1 hx128_2
      simp only [Int.toNat_natCast] at hx128_0 hx128_1 hx128_2
      have hyl : l.drop i = y :: l.drop (i + 1) := by
        rw [List.drop_eq_getElem_cons hil, ← hy]
        unfold rd_T75
        rw [Int.toNat_natCast, List.getD_eq_getElem?_getD, List.getElem?_eq_getElem hil]; rfl
      have h2 := HG.out
      rw [hyl, stackGo] at h2
      clear HG hyl hy
      cases e128
      replace hx128_0 := (HB.out.cell (World.block_lt_of_cell? w _ hx128_0)).trans hx128_0
      replace hx128_1 := (HB.out.cell (World.block_lt_of_cell? w _ hx128_1)).trans hx128_1
      replace hx128_2 := (HB.out.cell (World.block_lt_of_cell? w _ hx128_2)).trans hx128_2
      replace p128 := eq_true p128
      replace q128 := eq_true q128
      go_upto_region 5 with (first | ((with_reducible refine gds (N := 5) rfl ?_); refine qbx 5 #[.int .i64 0, .int .i64 0, .string (⟨#[]⟩ : ByteArray)] 75 ?_; intro gb hg w7 hbox hb; have GE := Aside0.mk (Nat.le_trans HB.out.size (Nat.le_of_eq hg.symm)); have BK := Aside0.mk hbox; replace HS := Aside0.mk (Kd.Rbe HS.out hb); replace HB := Aside0.mk (bst HB.out hb); clear hb hbox hg) | ((with_reducible refine gst (t := 75) (p := 5) rfl ?_); refine wpList_store_row rfl 75 (.tmp 5) (.tmp 13) rfl gb #[.int .i64 y.f0, .int .i64 y.f1, .string y.f2] ?hx ?hy 75 #[.int .i64 0, .int .i64 0, .string (⟨#[]⟩ : ByteArray)] ?hg ?hi ?ho ?h1 ?_; (case hx => rfl); (case hy => rfl); (case hg => exact BK.out); (case hi => exact infoIt); (case ho => rfl); (case h1 => simp [Value.oneCell'])))
      replace HS := Aside0.mk (Kd.R_setS HS.out BK.out (by decide) #[.int .i64 y.f0, .int .i64 y.f1, .string y.f2])
      replace HB := Aside0.mk (below_setRowS HB.out GE.out #[.int .i64 y.f0, .int .i64 y.f1, .string y.f2])
      replace BK := Aside0.mk (heap_setRowS (cs' := #[.int .i64 y.f0, .int .i64 y.f1, .string y.f2]) BK.out)
      generalize w7.setRow gb #[.int .i64 y.f0, .int .i64 y.f1, .string y.f2] = w8 at HS HB BK ⊢
      have hyc := qz3 BK.out
      clear hx128_0 hx128_1 hx128_2 p128 q128 d1 d2 d3
      by_cases c1 : y.f0 = 1
      case pos =>
        rw [if_pos c1] at h2
        have q1a : decide (y.f0 = 1) = true := decide_eq_true c1
        have q1b : (y.f0 == 1) = true := beq_iff_eq.mpr c1
        clear c1
        obtain ⟨u, hu, h3⟩ := Option.bind_eq_some_iff.mp h2
        have HU := Aside0.mk (HDEC.out _ u hu)
        clear h2 hu
        unfold pushS at h3
        by_cases hps : s.length ≤ 1000000 ∧ u.size ≤ 1000000
        case neg => rw [if_neg hps] at h3; cases h3
        case pos =>
        rw [if_pos hps] at h3
        have HSL := Aside0.mk hps.1
        have HG := Aside0.mk h3
        clear h3 hps
        go_wp2_with (first | (go_at_call 38; (with_reducible refine (HU.out _).mono ?_); rintro e w' ⟨rfl, hb⟩; replace HS := Aside0.mk (Kd.Rbe HS.out hb); replace BK := Aside0.mk (bbe BK.out hb); replace HB := Aside0.mk (bst HB.out hb); (try clear hyc); have hyc := qz3 BK.out; clear hb) | ((with_reducible refine gbu (b := .append) (xs := #[.tmp 43, .tmp 47]) rfl ?_); at_builtin; refine Kd.R_append Kd.string (w0 := w) w.heap.size rfl (.tmp 43) (.tmp 47) 44 9 (.string ⟨#[]⟩) 16 rfl Tryz.underlying44 infoStr rfl (by decide) (by omega) (.slice A3 s.length c3) s u [.string u] (fun _ => True) (fun _ => False) rfl (by first | (go_simp; done) | (go_simp; rfl)) ?aP (fun _ hk => hk.elim) ?aF ?aO ?aB ?aS ?aL ?_; (case aP => exact rfl); (case aB => exact HB.out); (case aF => exact fun _ _ => trivial); (case aO => exact HS.out); (case aS => exact HB.out.size); (case aL => have := HSL.out; omega); intro v4 w40 ho4 hb4 hg4 hat4; replace HS := Aside0.mk ho4; replace HB := Aside0.mk hb4; clear ho4 hb4 hg4 hat4))
        go_roundg k1
        case measure => have := HI.out; omega
        case rel => exact ⟨i + 1, s ++ [u], by trivial, by have e_ : wrap64 ((i : Int) + 1) = ((i + 1 : Nat) : Int) := (by have := HL.out; unfold wrap64; omega); rw [e_], ⟨by have := HI.out; omega⟩, HG, HS, HB⟩
      case neg =>
      rw [if_neg c1] at h2
      have q1a : decide (y.f0 = 1) = false := decide_eq_false c1
      have q1b : (y.f0 == 1) = false := beq_eq_false_iff_ne.mpr c1
      clear c1
      by_cases c2 : y.f0 = 2
      case pos =>
        rw [if_pos c2] at h2
        have q2a : decide (y.f0 = 2) = true := decide_eq_true c2
        have q2b : (y.f0 == 2) = true := beq_iff_eq.mpr c2
        clear c2
        obtain ⟨u, hu, h3⟩ := Option.bind_eq_some_iff.mp h2
        have HU := Aside0.mk (HQUO.out _ u hu)
        clear h2 hu
        unfold pushS at h3
        by_cases hps : s.length ≤ 1000000 ∧ u.size ≤ 1000000
        case neg => rw [if_neg hps] at h3; cases h3
        case pos =>
        rw [if_pos hps] at h3
        have HSL := Aside0.mk hps.1
        have HG := Aside0.mk h3
        clear h3 hps
        go_wp2_with (first | (go_at_call 39; (with_reducible refine (HU.out _).mono ?_); rintro e w' ⟨rfl, hb⟩; replace HS := Aside0.mk (Kd.Rbe HS.out hb); replace BK := Aside0.mk (bbe BK.out hb); replace HB := Aside0.mk (bst HB.out hb); (try clear hyc); have hyc := qz3 BK.out; clear hb) | ((with_reducible refine gbu (b := .append) (xs := #[.tmp 53, .tmp 57]) rfl ?_); at_builtin; refine Kd.R_append Kd.string (w0 := w) w.heap.size rfl (.tmp 53) (.tmp 57) 44 9 (.string ⟨#[]⟩) 16 rfl Tryz.underlying44 infoStr rfl (by decide) (by omega) (.slice A3 s.length c3) s u [.string u] (fun _ => True) (fun _ => False) rfl (by first | (go_simp; done) | (go_simp; rfl)) ?aP (fun _ hk => hk.elim) ?aF ?aO ?aB ?aS ?aL ?_; (case aP => exact rfl); (case aB => exact HB.out); (case aF => exact fun _ _ => trivial); (case aO => exact HS.out); (case aS => exact HB.out.size); (case aL => have := HSL.out; omega); intro v4 w40 ho4 hb4 hg4 hat4; replace HS := Aside0.mk ho4; replace HB := Aside0.mk hb4; clear ho4 hb4 hg4 hat4))
        go_roundg k1
        case measure => have := HI.out; omega
        case rel => exact ⟨i + 1, s ++ [u], by trivial, by have e_ : wrap64 ((i : Int) + 1) = ((i + 1 : Nat) : Int) := (by have := HL.out; unfold wrap64; omega); rw [e_], ⟨by have := HI.out; omega⟩, HG, HS, HB⟩
      case neg =>
      rw [if_neg c2] at h2
      have q2a : decide (y.f0 = 2) = false := decide_eq_false c2
      have q2b : (y.f0 == 2) = false := beq_eq_false_iff_ne.mpr c2
      clear c2
      by_cases c3_ : y.f0 = 3
      case pos =>
        rw [if_pos c3_] at h2
        have q3a : decide (y.f0 = 3) = true := decide_eq_true c3_
        have q3b : (y.f0 == 3) = true := beq_iff_eq.mpr c3_
        clear c3_
        unfold pushS at h2
        by_cases hps : s.length ≤ 1000000 ∧ y.f2.size ≤ 1000000
        case neg => rw [if_neg hps] at h2; cases h2
        case pos =>
        rw [if_pos hps] at h2
        have HSL := Aside0.mk hps.1
        have HG := Aside0.mk h2
        clear h2 hps
        go_wp2_with (first | ((with_reducible refine gbu (b := .append) (xs := #[.tmp 63, .tmp 66]) rfl ?_); at_builtin; refine Kd.R_append Kd.string (w0 := w) w.heap.size rfl (.tmp 63) (.tmp 66) 44 9 (.string ⟨#[]⟩) 16 rfl Tryz.underlying44 infoStr rfl (by decide) (by omega) (.slice A3 s.length c3) s y.f2 [.string y.f2] (fun _ => True) (fun _ => False) rfl (by first | (go_simp; done) | (go_simp; rfl)) ?aP (fun _ hk => hk.elim) ?aF ?aO ?aB ?aS ?aL ?_; (case aP => exact rfl); (case aB => exact HB.out); (case aF => exact fun _ _ => trivial); (case aO => exact HS.out); (case aS => exact HB.out.size); (case aL => have := HSL.out; omega); intro v4 w40 ho4 hb4 hg4 hat4; replace HS := Aside0.mk ho4; replace HB := Aside0.mk hb4; clear ho4 hb4 hg4 hat4))
        go_roundg k1
        case measure => have := HI.out; omega
        case rel => exact ⟨i + 1, s ++ [y.f2], by trivial, by have e_ : wrap64 ((i : Int) + 1) = ((i + 1 : Nat) : Int) := (by have := HL.out; unfold wrap64; omega); rw [e_], ⟨by have := HI.out; omega⟩, HG, HS, HB⟩
      case neg =>
      rw [if_neg c3_] at h2
      have q3a : decide (y.f0 = 3) = false := decide_eq_false c3_
      have q3b : (y.f0 == 3) = false := beq_eq_false_iff_ne.mpr c3_
      clear c3_
      by_cases c11 : y.f0 = 11
      case pos =>
        rw [if_pos c11] at h2
        have q11a : decide (y.f0 = 11) = true := decide_eq_true c11
        have q11b : (y.f0 == 11) = true := beq_iff_eq.mpr c11
        clear c11
        by_cases hk : 1 ≤ s.length ∧ (s.getD (s.length - 1) ⟨#[]⟩).size ≤ 1000000
        case neg => rw [if_neg hk] at h2; cases h2
        case pos =>
        rw [if_pos hk] at h2
        unfold pushS at h2
        by_cases hps : (s.take (s.length - 1)).length ≤ 1000000 ∧ ((⟨#[40, 110, 111, 116, 32]⟩ : ByteArray) ++ s.getD (s.length - 1) ⟨#[]⟩ ++ (⟨#[41]⟩ : ByteArray)).size ≤ 1000000
        case neg => rw [if_neg hps] at h2; cases h2
        case pos =>
        rw [if_pos hps] at h2
        have HSL := Aside0.mk hps.1
        have HG := Aside0.mk h2
        clear h2 hps
        obtain ⟨ad, hA, hc1⟩ := stk_at HS.out (s.length - 1) (by omega)
        subst hA
        have HT := Aside0.mk (Kd.R_take HS.out (show s.length - 1 ≤ s.length by omega))
        have HK := Aside0.mk hk
        obtain ⟨x, hx⟩ : ∃ x, s.getD (s.length - 1) ⟨#[]⟩ = x := ⟨_, rfl⟩
        rw [hx] at hc1 HG HK
        clear hk
        go_upto_region 14 with fail
        have hc3 := HC3.out
        have hk1 := HK.out.1
        have hsl : s.length ≤ 1000001 := by have := HSL.out; rw [List.length_take] at this; omega
        have f1 : wrap64 ((s.length : Int) - 1) = ((s.length - 1 : Nat) : Int) := by unfold wrap64; omega
        have g1 : (9223372036854775807 < 5 + x.size) = False := eq_false (by have := HK.out.2; omega)
        have g2 : (9223372036854775807 < 5 + x.size + 1) = False := eq_false (by have := HK.out.2; omega)
        clear hsl
        have f2 : s.length - 1 ≤ c3 := by omega
        have f3 : s.length - 1 < s.length := by omega
        refine qs 14 (fun w' => w'.cell? (ad.add (s.length - 1)) = some (.string x)) (ds := [12]) hc1 (fun hHeld => ?_)
        refine qp 0 72 ?_
        refine qp 1 73 ?_
        refine qp 2 74 ?_
        refine qp 3 75 ?_
        refine qp 4 76 ?_
        refine qp 5 77 ?_
        refine qp 6 78 ?_
        refine qp 7 79 ?_
        refine qt 8 80 ?_
        refine qp 9 81 ?_
        refine qp 10 82 ?_
        refine qo 11 83 (fun K hK => ?_)
        refine evs (by rfl) (v := .slice (some ⟨(World.drew w8).heap.size, 0, none⟩) 1 1) (w1 := (World.drew w8).alloc (.cells #[.string ((⟨#[40, 110, 111, 116, 32]⟩ : ByteArray) ++ x ++ (⟨#[41]⟩ : ByteArray))] 9)) ?hr ?_
        case hr => first | (go_simp; done) | (go_simp; rfl)
        refine hK.out _ _ (((bal (Below.refl _ _) _).cell (World.block_lt_of_cell? _ _ hHeld)).trans hHeld) (fun hHeld2 => ?_)
        clear hK K
        refine norm_ (a' := ?_) ?_ ?_
        rotate_left
        · show Act.put _ (some 83) _ = _
          simp only [Act.put, List.setIfInBounds_toArray, List.set_cons_zero, List.set_cons_succ, i64_w, i32_w]
          rfl
        refine qL 12 84 (fun K hK => ?_)
        refine Kd.R_append_step Kd.string (w0 := w) w.heap.size (by rfl) (.tmp 75) (.tmp 83) 44 9 (.string ⟨#[]⟩) 16 rfl Tryz.underlying44 infoStr rfl (by decide) (by omega) (.slice (some ad) (s.length - 1) c3) (s.take (s.length - 1)) ((⟨#[40, 110, 111, 116, 32]⟩ : ByteArray) ++ x ++ (⟨#[41]⟩ : ByteArray)) [.string ((⟨#[40, 110, 111, 116, 32]⟩ : ByteArray) ++ x ++ (⟨#[41]⟩ : ByteArray))] (fun _ => True) (fun _ => False) rfl rfl ?aP (fun _ hk => hk.elim) ?aF ?aO ?aB ?aS ?aL ?_
        case aP => exact rfl
        case aB => exact bd1 HB.out
        case aF => exact fun _ _ => trivial
        case aO => exact Kd.Rdr HT.out
        case aS => exact HB.out.size
        case aL => have := HSL.out; omega
        intro v4 w40 ho4 hb4 hg4 hat4
        replace HS := Aside0.mk ho4
        replace HB := Aside0.mk hb4
        clear ho4 hb4 hg4 hat4
        refine hK.out _ _ ?_
        clear hK K
        refine norm_ (a' := ?_) ?_ ?_
        rotate_left
        · show Act.put _ (some 84) _ = _
          simp only [Act.put, List.setIfInBounds_toArray, List.set_cons_zero, List.set_cons_succ, i64_w, i32_w]
          rfl
        refine qp 13 3 ?_
        refine done_ (by kernel_rfl) ?_
        clear f1 f2 f3 g1 g2 hk1 hc3
        go_wp2
        go_roundg k1
        case measure => have := HI.out; omega
        case rel => exact ⟨i + 1, (s.take (s.length - 1)) ++ [((⟨#[40, 110, 111, 116, 32]⟩ : ByteArray) ++ x ++ (⟨#[41]⟩ : ByteArray))], by trivial, by have e_ : wrap64 ((i : Int) + 1) = ((i + 1 : Nat) : Int) := (by have := HL.out; unfold wrap64; omega); rw [e_], ⟨by have := HI.out; omega⟩, HG, HS, HB⟩
      case neg =>
      rw [if_neg c11] at h2
      have q11a : decide (y.f0 = 11) = false := decide_eq_false c11
      have q11b : (y.f0 == 11) = false := beq_eq_false_iff_ne.mpr c11
      clear c11
      by_cases c13 : y.f0 = 13
      case pos =>
        rw [if_pos c13] at h2
        have q13a : decide (y.f0 = 13) = true := decide_eq_true c13
        have q13b : (y.f0 == 13) = true := beq_iff_eq.mpr c13
        clear c13
        by_cases hk : 1 ≤ s.length ∧ (s.getD (s.length - 1) ⟨#[]⟩).size ≤ 1000000
        case neg => rw [if_neg hk] at h2; cases h2
        case pos =>
        rw [if_pos hk] at h2
        unfold pushS at h2
        by_cases hps : (s.take (s.length - 1)).length ≤ 1000000 ∧ ((⟨#[108, 101, 110, 40]⟩ : ByteArray) ++ s.getD (s.length - 1) ⟨#[]⟩ ++ (⟨#[41]⟩ : ByteArray)).size ≤ 1000000
        case neg => rw [if_neg hps] at h2; cases h2
        case pos =>
        rw [if_pos hps] at h2
        have HSL := Aside0.mk hps.1
        have HG := Aside0.mk h2
        clear h2 hps
        obtain ⟨ad, hA, hc1⟩ := stk_at HS.out (s.length - 1) (by omega)
        subst hA
        have HT := Aside0.mk (Kd.R_take HS.out (show s.length - 1 ≤ s.length by omega))
        have HK := Aside0.mk hk
        obtain ⟨x, hx⟩ : ∃ x, s.getD (s.length - 1) ⟨#[]⟩ = x := ⟨_, rfl⟩
        rw [hx] at hc1 HG HK
        clear hk
        go_upto_region 16 with fail
        have hc3 := HC3.out
        have hk1 := HK.out.1
        have hsl : s.length ≤ 1000001 := by have := HSL.out; rw [List.length_take] at this; omega
        have f1 : wrap64 ((s.length : Int) - 1) = ((s.length - 1 : Nat) : Int) := by unfold wrap64; omega
        have g1 : (9223372036854775807 < 4 + x.size) = False := eq_false (by have := HK.out.2; omega)
        have g2 : (9223372036854775807 < 4 + x.size + 1) = False := eq_false (by have := HK.out.2; omega)
        clear hsl
        have f2 : s.length - 1 ≤ c3 := by omega
        have f3 : s.length - 1 < s.length := by omega
        refine qs 14 (fun w' => w'.cell? (ad.add (s.length - 1)) = some (.string x)) (ds := [12]) hc1 (fun hHeld => ?_)
        refine qp 0 89 ?_
        refine qp 1 90 ?_
        refine qp 2 91 ?_
        refine qp 3 92 ?_
        refine qp 4 93 ?_
        refine qp 5 94 ?_
        refine qp 6 95 ?_
        refine qp 7 96 ?_
        refine qt 8 97 ?_
        refine qp 9 98 ?_
        refine qp 10 99 ?_
        refine qo 11 100 (fun K hK => ?_)
        refine evs (by rfl) (v := .slice (some ⟨(World.drew w8).heap.size, 0, none⟩) 1 1) (w1 := (World.drew w8).alloc (.cells #[.string ((⟨#[108, 101, 110, 40]⟩ : ByteArray) ++ x ++ (⟨#[41]⟩ : ByteArray))] 9)) ?hr ?_
        case hr => first | (go_simp; done) | (go_simp; rfl)
        refine hK.out _ _ (((bal (Below.refl _ _) _).cell (World.block_lt_of_cell? _ _ hHeld)).trans hHeld) (fun hHeld2 => ?_)
        clear hK K
        refine norm_ (a' := ?_) ?_ ?_
        rotate_left
        · show Act.put _ (some 100) _ = _
          simp only [Act.put, List.setIfInBounds_toArray, List.set_cons_zero, List.set_cons_succ, i64_w, i32_w]
          rfl
        refine qL 12 101 (fun K hK => ?_)
        refine Kd.R_append_step Kd.string (w0 := w) w.heap.size (by rfl) (.tmp 92) (.tmp 100) 44 9 (.string ⟨#[]⟩) 16 rfl Tryz.underlying44 infoStr rfl (by decide) (by omega) (.slice (some ad) (s.length - 1) c3) (s.take (s.length - 1)) ((⟨#[108, 101, 110, 40]⟩ : ByteArray) ++ x ++ (⟨#[41]⟩ : ByteArray)) [.string ((⟨#[108, 101, 110, 40]⟩ : ByteArray) ++ x ++ (⟨#[41]⟩ : ByteArray))] (fun _ => True) (fun _ => False) rfl rfl ?aP (fun _ hk => hk.elim) ?aF ?aO ?aB ?aS ?aL ?_
        case aP => exact rfl
        case aB => exact bd1 HB.out
        case aF => exact fun _ _ => trivial
        case aO => exact Kd.Rdr HT.out
        case aS => exact HB.out.size
        case aL => have := HSL.out; omega
        intro v4 w40 ho4 hb4 hg4 hat4
        replace HS := Aside0.mk ho4
        replace HB := Aside0.mk hb4
        clear ho4 hb4 hg4 hat4
        refine hK.out _ _ ?_
        clear hK K
        refine norm_ (a' := ?_) ?_ ?_
        rotate_left
        · show Act.put _ (some 101) _ = _
          simp only [Act.put, List.setIfInBounds_toArray, List.set_cons_zero, List.set_cons_succ, i64_w, i32_w]
          rfl
        refine qp 13 3 ?_
        refine done_ (by kernel_rfl) ?_
        clear f1 f2 f3 g1 g2 hk1 hc3
        go_wp2
        go_roundg k1
        case measure => have := HI.out; omega
        case rel => exact ⟨i + 1, (s.take (s.length - 1)) ++ [((⟨#[108, 101, 110, 40]⟩ : ByteArray) ++ x ++ (⟨#[41]⟩ : ByteArray))], by trivial, by have e_ : wrap64 ((i : Int) + 1) = ((i + 1 : Nat) : Int) := (by have := HL.out; unfold wrap64; omega); rw [e_], ⟨by have := HI.out; omega⟩, HG, HS, HB⟩
      case neg =>
      rw [if_neg c13] at h2
      have q13a : decide (y.f0 = 13) = false := decide_eq_false c13
      have q13b : (y.f0 == 13) = false := beq_eq_false_iff_ne.mpr c13
      clear c13
      by_cases hk : 2 ≤ s.length ∧ (s.getD (s.length - 2) ⟨#[]⟩).size ≤ 1000000 ∧ (s.getD (s.length - 1) ⟨#[]⟩).size ≤ 1000000
      case neg => rw [if_neg hk] at h2; cases h2
      case pos =>
      rw [if_pos hk] at h2
      obtain ⟨g, hg, h3⟩ := Option.bind_eq_some_iff.mp h2
      have HU := Aside0.mk (HSG.out _ g hg)
      clear h2 hg
      by_cases hgz : g.size ≤ 1000000
      case neg => rw [if_neg hgz] at h3; cases h3
      case pos =>
      rw [if_pos hgz] at h3
      unfold pushS at h3
      by_cases hps : (s.take (s.length - 2)).length ≤ 1000000 ∧ ((⟨#[40]⟩ : ByteArray) ++ s.getD (s.length - 2) ⟨#[]⟩ ++ g ++ s.getD (s.length - 1) ⟨#[]⟩ ++ (⟨#[41]⟩ : ByteArray)).size ≤ 1000000
      case neg => rw [if_neg hps] at h3; cases h3
      case pos =>
      rw [if_pos hps] at h3
      have HSL := Aside0.mk hps.1
      have HG := Aside0.mk h3
      clear h3 hps
      obtain ⟨ad, hA, hc2⟩ := stk_at HS.out (s.length - 2) (by omega)
      obtain ⟨ad', hA', hc1⟩ := stk_at HS.out (s.length - 1) (by omega)
      subst hA
      obtain rfl := Option.some.inj hA'
      have HT := Aside0.mk (Kd.R_take HS.out (show s.length - 2 ≤ s.length by omega))
      have HK := Aside0.mk hk
      have HGZ := Aside0.mk hgz
      obtain ⟨x1, hx1⟩ : ∃ x, s.getD (s.length - 1) ⟨#[]⟩ = x := ⟨_, rfl⟩
      obtain ⟨x2, hx2⟩ : ∃ x, s.getD (s.length - 2) ⟨#[]⟩ = x := ⟨_, rfl⟩
      rw [hx1] at hc1
      rw [hx2] at hc2
      rw [hx1, hx2] at HG HK
      clear hk hgz
      go_upto_region 6 with fail
      have hc3 := HC3.out
      have hk1 := HK.out.1
      have hsl : s.length ≤ 1000002 := by have := HSL.out; rw [List.length_take] at this; omega
      have f1 : wrap64 ((s.length : Int) - 2) = ((s.length - 2 : Nat) : Int) := by unfold wrap64; omega
      have f1b : wrap64 ((s.length : Int) - 1) = ((s.length - 1 : Nat) : Int) := by unfold wrap64; omega
      have f2 : s.length - 2 ≤ c3 := by omega
      have f3 : s.length - 2 < s.length := by omega
      have f4 : s.length - 1 < s.length := by omega
      have g1 : (9223372036854775807 < 1 + x2.size) = False := eq_false (by have := HK.out.2; omega)
      have g2 : (9223372036854775807 < 1 + x2.size + g.size) = False := eq_false (by have := HK.out.2; have := HGZ.out; omega)
      have g3 : (9223372036854775807 < 1 + x2.size + g.size + x1.size) = False := eq_false (by have := HK.out.2; have := HGZ.out; omega)
      have g4 : (9223372036854775807 < 1 + x2.size + g.size + x1.size + 1) = False := eq_false (by have := HK.out.2; have := HGZ.out; omega)
      clear hsl
      refine qs 24 (fun w' => w'.cell? (ad.add (s.length - 2)) = some (.string x2) ∧ w'.cell? (ad.add (s.length - 1)) = some (.string x1) ∧ w'.cell? ⟨gb, 0, none⟩ = some (.int .i64 y.f0)) (ds := [22]) ⟨hc2, hc1, hyc.1⟩ (fun hHeld => ?_)
      replace HT := Aside0.mk (Kd.Rdr HT.out)
      replace HB := Aside0.mk (bd1 HB.out)
      refine qp 0 16 ?_
      refine qp 1 17 ?_
      refine qp 2 18 ?_
      refine qp 3 19 ?_
      refine qp 4 20 ?_
      refine qp 5 21 ?_
      refine qp 6 22 ?_
      refine qp 7 23 ?_
      refine qt 8 24 ?_
      refine qp 9 25 ?_
      refine qp 10 26 ?_
      refine qt 11 27 ?_
      refine qp 14 30 ?_
      refine qp 15 31 ?_
      refine qp 16 32 ?_
      refine qp 17 33 ?_
      refine qt 18 34 ?_
      refine qo 12 28 (fun K hK => ?_)
      refine goes_ (N := some 28) Tryz.func40 (by kernel_rfl) rfl #[.int .i64 y.f0] (by rfl) rfl rfl qA ?_
      refine (HU.out _).mono ?_
      rintro e w9 ⟨rfl, hb⟩
      replace HT := Aside0.mk (Kd.Rbe HT.out hb)
      replace HB := Aside0.mk (bst HB.out hb)
      refine ⟨_, rfl, ?_⟩
      refine hK.out _ _ ⟨(hb.cell (World.block_lt_of_cell? _ _ hHeld.1)).trans hHeld.1, (hb.cell (World.block_lt_of_cell? _ _ hHeld.2.1)).trans hHeld.2.1, (hb.cell (World.block_lt_of_cell? _ _ hHeld.2.2)).trans hHeld.2.2⟩ (fun hHeld2 => ?_)
      clear hK K hb hHeld
      have hHeld := hHeld2
      clear hHeld2
      refine norm_ (a' := ?_) ?_ ?_
      rotate_left
      · show Act.put _ (some 28) _ = _
        simp only [Act.put, List.setIfInBounds_toArray, List.set_cons_zero, List.set_cons_succ, i64_w, i32_w]
        rfl
      refine qp 13 29 ?_
      refine qp 19 35 ?_
      refine qp 20 36 ?_
      refine qo 21 37 (fun K hK => ?_)
      refine evs (by rfl) (v := .slice (some ⟨w9.heap.size, 0, none⟩) 1 1) (w1 := w9.alloc (.cells #[.string ((⟨#[40]⟩ : ByteArray) ++ x2 ++ g ++ x1 ++ (⟨#[41]⟩ : ByteArray))] 9)) ?hr ?_
      case hr => first | (go_simp; done) | (go_simp; rfl)
      refine hK.out _ _ ⟨((bal (Below.refl _ _) _).cell (World.block_lt_of_cell? _ _ hHeld.1)).trans hHeld.1, ((bal (Below.refl _ _) _).cell (World.block_lt_of_cell? _ _ hHeld.2.1)).trans hHeld.2.1, ((bal (Below.refl _ _) _).cell (World.block_lt_of_cell? _ _ hHeld.2.2)).trans hHeld.2.2⟩ (fun hHeld2 => ?_)
      clear hK K
      refine norm_ (a' := ?_) ?_ ?_
      rotate_left
      · show Act.put _ (some 37) _ = _
        simp only [Act.put, List.setIfInBounds_toArray, List.set_cons_zero, List.set_cons_succ, i64_w, i32_w]
        rfl
      refine qL 22 38 (fun K hK => ?_)
      refine Kd.R_append_step Kd.string (w0 := w) w.heap.size (by rfl) (.tmp 19) (.tmp 37) 44 9 (.string ⟨#[]⟩) 16 rfl Tryz.underlying44 infoStr rfl (by decide) (by omega) (.slice (some ad) (s.length - 2) c3) (s.take (s.length - 2)) ((⟨#[40]⟩ : ByteArray) ++ x2 ++ g ++ x1 ++ (⟨#[41]⟩ : ByteArray)) [.string ((⟨#[40]⟩ : ByteArray) ++ x2 ++ g ++ x1 ++ (⟨#[41]⟩ : ByteArray))] (fun _ => True) (fun _ => False) rfl rfl ?aP (fun _ hk => hk.elim) ?aF ?aO ?aB ?aS ?aL ?_
      case aP => exact rfl
      case aB => exact HB.out
      case aF => exact fun _ _ => trivial
      case aO => exact HT.out
      case aS => exact HB.out.size
      case aL => have := HSL.out; omega
      intro v4 w40 ho4 hb4 hg4 hat4
      replace HS := Aside0.mk ho4
      replace HB := Aside0.mk hb4
      clear ho4 hb4 hg4 hat4
      refine hK.out _ _ ?_
      clear hK K
      refine norm_ (a' := ?_) ?_ ?_
      rotate_left
      · show Act.put _ (some 38) _ = _
        simp only [Act.put, List.setIfInBounds_toArray, List.set_cons_zero, List.set_cons_succ, i64_w, i32_w]
        rfl
      refine qp 23 3 ?_
      refine done_ (by kernel_rfl) ?_
      clear f1 f1b f2 f3 f4 g1 g2 g3 g4 hk1 hc3
      go_wp2
      go_roundg k1
      case measure => have := HI.out; omega
      case rel => exact ⟨i + 1, (s.take (s.length - 2)) ++ [((⟨#[40]⟩ : ByteArray) ++ x2 ++ g ++ x1 ++ (⟨#[41]⟩ : ByteArray))], by trivial, by have e_ : wrap64 ((i : Int) + 1) = ((i + 1 : Nat) : Int) := (by have := HL.out; unfold wrap64; omega); rw [e_], ⟨by have := HI.out; omega⟩, HG, HS, HB⟩
end Go.Proofs.YtbpfdjbnfkclcaaGreatDoor.L
end
section
namespace Go.Proofs.YtbpfdjbnfkclcaaGreatDoor.L
open Go.RowKit Go.Proofs.YtbpfdjbnfkclcaaGreatDoorW.PrintWords Go.Proofs.YtbpfdjbnfkclcaaGreatDoorW.PrintLast Go.Proofs.YtbpfdjbnfkclcaaGreatDoorW.PrintMore
attribute [local go_sem] max2_int min2_int max_two min_two max_three min_three max_four min_four
set_option linter.unusedVariables false
set_option linter.unusedSimpArgs false
def spec_l4Commas.l0 : Nat → ByteArray → List ByteArray → Int → Int → Option (ByteArray)
  | 0, _, _, _, _ => none
  | k + 1, x3, x6, x7, x8 => if x8 < x7 then (if 0 ≤ x8 then (if x8 < (x6.length : Int) then (if x8 > 0 then (if x3.size + 2 ≤ 9223372036854775807 then (if (x3 ++ (⟨#[44, 32]⟩ : ByteArray)).size + (rdOf ByteArray.empty x6 x8).size ≤ 9223372036854775807 then (spec_l4Commas.l0 k ((x3 ++ (⟨#[44, 32]⟩ : ByteArray)) ++ (rdOf ByteArray.empty x6 x8)) x6 x7 (wrap64 (x8 + 1))) else (none)) else (none)) else (if x3.size + (rdOf ByteArray.empty x6 x8).size ≤ 9223372036854775807 then (spec_l4Commas.l0 k (x3 ++ (rdOf ByteArray.empty x6 x8)) x6 x7 (wrap64 (x8 + 1))) else (none))) else (none)) else (none)) else (some x3)
def spec_l4Commas.f (k : Nat) (l0 : List ByteArray) : Option (ByteArray) := spec_l4Commas.l0 k (⟨#[]⟩ : ByteArray) l0 (l0.length : Int) 0
theorem spec_l4Commas.mono_l : ∀ k, (∀ y0 y1 y2 y3, LeO (spec_l4Commas.l0 k y0 y1 y2 y3) (spec_l4Commas.l0 (k + 1) y0 y1 y2 y3))
  | 0 => fun _ _ _ _ r h => by simp [spec_l4Commas.l0] at h
  | k + 1 => by
    have ih0 := spec_l4Commas.mono_l k
    · intro y0 y1 y2 y3
      unfold spec_l4Commas.l0
      repeat' first
      | (with_reducible exact ih0 _ _ _ _)
      | (with_reducible exact LeO.refl _)
      | (with_reducible exact LeO.none _)
      | (with_reducible refine LeO.ite ?_ ?_)
      | (with_reducible refine LeO.bind ?_ (fun _ => ?_))
      | exact ih0 _ _ _ _
      | exact LeO.none _
      | refine LeO.ite ?_ ?_
      | refine LeO.bind ?_ (fun _ => ?_)
theorem spec_l4Commas.mono : ∀ a0 k, LeO (spec_l4Commas.f k a0) (spec_l4Commas.f (k + 1) a0) := by
  intro a0 k
  have ih0 := spec_l4Commas.mono_l k
  unfold spec_l4Commas.f
  repeat' first
      | (with_reducible exact ih0 _ _ _ _)
      | (with_reducible exact LeO.refl _)
      | (with_reducible exact LeO.none _)
      | (with_reducible refine LeO.ite ?_ ?_)
      | (with_reducible refine LeO.bind ?_ (fun _ => ?_))
      | exact ih0 _ _ _ _
      | exact LeO.none _
      | refine LeO.ite ?_ ?_
      | refine LeO.bind ?_ (fun _ => ?_)
set_option maxHeartbeats 8000000 in
set_option maxRecDepth 100000 in
theorem spec_l4Commas.calls (k : Nat) (A0 : Option Addr) (c0 : Nat) (l0 : List ByteArray) (r : ByteArray) (w : World) (hr0 : Kd.C Kd.string w A0 l0.length l0) (hc0 : l0.length ≤ c0) (h : spec_l4Commas.f k l0 = some r) :
    Calls Tryz.prog 14 #[.slice A0 l0.length c0] w fun e w' => e = .returned (.string r) ∧ Drawn0 w w' := by
  have HR0 := qK hr0; have HC0 := qK hc0; clear hr0 hc0; have H : (spec_l4Commas.l0 k (⟨#[]⟩ : ByteArray) l0 (l0.length : Int) 0) = some r := h; clear h; have H' := qK H; clear H; go_enter Tryz.func14, Tryz.ntmps14; go_wp2; go_loopg [3, 8] k (fun kq v3 v8 w' => ∃ (x3_1 : ByteArray) (x8_1 : Int), v3 = .string x3_1 ∧ v8 = .int .i64 x8_1 ∧ Aside0 (spec_l4Commas.l0 kq x3_1 l0 (l0.length : Int) x8_1 = some r) ∧ Aside0 (kq ≤ k) ∧ Drawn0 w w')
  case atStart => exact ⟨((⟨#[]⟩ : ByteArray)), (0), qS, qS, H', ⟨Nat.le_refl _⟩, by repeat (first | exact Drawn0.refl _ | apply Drawn0.step)⟩
  case round =>
    clear H'; (try clear c1); obtain ⟨x3_1, x8_1, rfl, rfl, HA, HK1, ⟨m1, rfl⟩⟩ := hrel
    cases gk with
    | zero => exact absurd HA.out (by simp [spec_l4Commas.l0])
    | succ k1 =>
      have H := HA.out; clear HA; simp only [spec_l4Commas.l0] at H; by_cases c2 : x8_1 < (l0.length : Int)
      · rw [if_pos c2] at H; have c2b0 : decide (x8_1 < (l0.length : Int)) = true := decide_eq_true c2; clear c2; by_cases c3 : 0 ≤ x8_1
        · rw [if_pos c3] at H; have c3b0 : decide (0 ≤ x8_1) = true := decide_eq_true c3; clear c3; by_cases c4 : x8_1 < (l0.length : Int)
          · rw [if_pos c4] at H; have c4b0 : decide (x8_1 < (l0.length : Int)) = true := decide_eq_true c4; clear c4; by_cases c5 : x8_1 > 0
            · rw [if_pos c5] at H; have c5b0 : decide (0 < x8_1) = true := decide_eq_true c5; clear c5; by_cases c6 : x3_1.size + 2 ≤ 9223372036854775807
              · rw [if_pos c6] at H; have c6b0 := eq_true c6; have c6b1 : decide (x3_1.size + 2 ≤ 9223372036854775807) = true := decide_eq_true c6; (try have c6b2 : (9223372036854775807 < x3_1.size + 2) = False := eq_false (Nat.not_lt.2 c6)); by_cases c7 : (x3_1 ++ (⟨#[44, 32]⟩ : ByteArray)).size + (rdOf ByteArray.empty l0 x8_1).size ≤ 9223372036854775807
                · rw [if_pos c7] at H; have c7b0 := eq_true c7; have c7b1 : decide ((x3_1 ++ (⟨#[44, 32]⟩ : ByteArray)).size + (rdOf ByteArray.empty l0 x8_1).size ≤ 9223372036854775807) = true := decide_eq_true c7; (try have c7b2 : (9223372036854775807 < (x3_1 ++ (⟨#[44, 32]⟩ : ByteArray)).size + (rdOf ByteArray.empty l0 x8_1).size) = False := eq_false (Nat.not_lt.2 c7)); have H' := qK H; clear H; have p162 : 0 ≤ (x8_1 : Int) := of_decide_eq_true qa; have q162 : x8_1 < (l0.length : Int) := of_decide_eq_true qa; obtain ⟨ad162, e162, hx162_0⟩ := Kd.at_string HR0.out x8_1 p162 q162; cases e162; replace p162 := eq_true p162; replace q162 := eq_true q162; go_wp2; go_roundg k1
                  case measure => have := HK1.out; omega
                  case rel => exact ⟨((x3_1 ++ (⟨#[44, 32]⟩ : ByteArray)) ++ (rdOf ByteArray.empty l0 x8_1)), (wrap64 (x8_1 + 1)), qS, qS, H', ⟨by have := HK1.out; omega⟩, by repeat (first | exact Drawn0.refl _ | apply Drawn0.step)⟩
                · rw [if_neg c7] at H; exact absurd H (by simp)
              · rw [if_neg c6] at H; exact absurd H (by simp)
            · rw [if_neg c5] at H; have c5b0 : decide (0 < x8_1) = false := decide_eq_false c5; clear c5; by_cases c8 : x3_1.size + (rdOf ByteArray.empty l0 x8_1).size ≤ 9223372036854775807
              · rw [if_pos c8] at H; have c8b0 := eq_true c8; have c8b1 : decide (x3_1.size + (rdOf ByteArray.empty l0 x8_1).size ≤ 9223372036854775807) = true := decide_eq_true c8; (try have c8b2 : (9223372036854775807 < x3_1.size + (rdOf ByteArray.empty l0 x8_1).size) = False := eq_false (Nat.not_lt.2 c8)); have H' := qK H; clear H; have p162 : 0 ≤ (x8_1 : Int) := of_decide_eq_true qa; have q162 : x8_1 < (l0.length : Int) := of_decide_eq_true qa; obtain ⟨ad162, e162, hx162_0⟩ := Kd.at_string HR0.out x8_1 p162 q162; cases e162; replace p162 := eq_true p162; replace q162 := eq_true q162; go_wp2; go_roundg k1
                case measure => have := HK1.out; omega
                case rel => exact ⟨(x3_1 ++ (rdOf ByteArray.empty l0 x8_1)), (wrap64 (x8_1 + 1)), qS, qS, H', ⟨by have := HK1.out; omega⟩, by repeat (first | exact Drawn0.refl _ | apply Drawn0.step)⟩
              · rw [if_neg c8] at H; exact absurd H (by simp)
          · rw [if_neg c4] at H; exact absurd H (by simp)
        · rw [if_neg c3] at H; exact absurd H (by simp)
      · rw [if_neg c2] at H; have c2b0 : decide (x8_1 < (l0.length : Int)) = false := decide_eq_false c2; clear c2; obtain rfl := Option.some.inj H; go_wp2; go_ret; exact ⟨by first | rfl | (simp; done) | (simp [*]; done), by repeat (first | exact Drawn0.refl _ | apply Drawn0.step)⟩
def spec_l4Dec.f : Nat → Int → Option (ByteArray)
  | 0, _ => none
  | k + 1, a0 => if a0 = (-9223372036854775808) then (some (⟨#[45, 57, 50, 50, 51, 51, 55, 50, 48, 51, 54, 56, 53, 52, 55, 55, 53, 56, 48, 56]⟩ : ByteArray)) else (if a0 < 0 then ((spec_l4Dec.f k (wrap64 (-a0))).bind fun t163 => (if 1 + t163.size ≤ 9223372036854775807 then (some ((⟨#[45]⟩ : ByteArray) ++ t163)) else (none))) else (if a0 < 10 then (if 0 ≤ a0 then (if a0 ≤ (wrap64 (a0 + 1)) then (if (wrap64 (a0 + 1)) ≤ 10 then (some ((⟨#[48, 49, 50, 51, 52, 53, 54, 55, 56, 57]⟩ : ByteArray).extract (a0 : Int).toNat ((wrap64 (a0 + 1)) : Int).toNat)) else (none)) else (none)) else (none)) else ((spec_l4Dec.f k (wrap64 (Int.tdiv a0 10))).bind fun t164 => (if 0 ≤ (Int.tmod a0 10) then (if (Int.tmod a0 10) ≤ (wrap64 ((Int.tmod a0 10) + 1)) then (if (wrap64 ((Int.tmod a0 10) + 1)) ≤ 10 then (if t164.size + ((⟨#[48, 49, 50, 51, 52, 53, 54, 55, 56, 57]⟩ : ByteArray).extract ((Int.tmod a0 10) : Int).toNat ((wrap64 ((Int.tmod a0 10) + 1)) : Int).toNat).size ≤ 9223372036854775807 then (some (t164 ++ ((⟨#[48, 49, 50, 51, 52, 53, 54, 55, 56, 57]⟩ : ByteArray).extract ((Int.tmod a0 10) : Int).toNat ((wrap64 ((Int.tmod a0 10) + 1)) : Int).toNat))) else (none)) else (none)) else (none)) else (none)))))
theorem spec_l4Dec.mono_l : ∀ k, (∀ y0, LeO (spec_l4Dec.f k y0) (spec_l4Dec.f (k + 1) y0))
  | 0 => fun _ r h => by simp [spec_l4Dec.f] at h
  | k + 1 => by
    have ih0 := spec_l4Dec.mono_l k
    · intro y0
      unfold spec_l4Dec.f
      repeat' first
      | (with_reducible exact ih0 _)
      | (with_reducible exact LeO.refl _)
      | (with_reducible exact LeO.none _)
      | (with_reducible refine LeO.ite ?_ ?_)
      | (with_reducible refine LeO.bind ?_ (fun _ => ?_))
      | exact ih0 _
      | exact LeO.none _
      | refine LeO.ite ?_ ?_
      | refine LeO.bind ?_ (fun _ => ?_)
theorem spec_l4Dec.mono : ∀ a0 k, LeO (spec_l4Dec.f k a0) (spec_l4Dec.f (k + 1) a0) := by
  intro a0 k
  have ih0 := spec_l4Dec.mono_l k
  exact ih0 a0
def spec_l4Dec.T7 : Bool × List (List Nat × List Nat) := (true, [([], []), ([0], [0]), ([1], [1]), ([], []), ([3], [3]), ([], []), ([5], [5]), ([6], [6]), ([4, 7], [4, 7]), ([2, 8], [2, 8]), ([9, 2, 0, 1, 2, 3, 4, 5, 6, 7, 8, 9], [9])])
def spec_l4Dec.B7 : List Nat := [0, 1, 3, 0, 8, 0, 32, 96, 248, 511, 1023]
theorem spec_l4Dec.tab7 : rtab .any (opsOf Tryz.f38 7) = spec_l4Dec.T7 := by kernel_rfl
theorem spec_l4Dec.bits7 : waitsOk spec_l4Dec.T7.2 spec_l4Dec.B7 = true := by kernel_rfl
set_option maxHeartbeats 8000000 in
set_option maxRecDepth 100000 in
theorem spec_l4Dec.calls (k : Nat) : ∀ (a0 : Int) (r : ByteArray) (w : World) (h : spec_l4Dec.f k a0 = some r),
    Calls Tryz.prog 38 #[.int .i64 a0] w fun e w' => e = .returned (.string r) ∧ Below w.heap.size w w' := by
  induction k using Nat.strongRecOn with
  | _ k ih =>
  intro a0 r w h
  cases k with
  | zero => exact absurd h (by simp [spec_l4Dec.f])
  | succ k =>
  simp only [spec_l4Dec.f] at h; have HB := qK (Below.refl w.heap.size w); have H : (if a0 = (-9223372036854775808) then (some (⟨#[45, 57, 50, 50, 51, 51, 55, 50, 48, 51, 54, 56, 53, 52, 55, 55, 53, 56, 48, 56]⟩ : ByteArray)) else (if a0 < 0 then ((spec_l4Dec.f k (wrap64 (-a0))).bind fun t163 => (if 1 + t163.size ≤ 9223372036854775807 then (some ((⟨#[45]⟩ : ByteArray) ++ t163)) else (none))) else (if a0 < 10 then (if 0 ≤ a0 then (if a0 ≤ (wrap64 (a0 + 1)) then (if (wrap64 (a0 + 1)) ≤ 10 then (some ((⟨#[48, 49, 50, 51, 52, 53, 54, 55, 56, 57]⟩ : ByteArray).extract (a0 : Int).toNat ((wrap64 (a0 + 1)) : Int).toNat)) else (none)) else (none)) else (none)) else ((spec_l4Dec.f k (wrap64 (Int.tdiv a0 10))).bind fun t164 => (if 0 ≤ (Int.tmod a0 10) then (if (Int.tmod a0 10) ≤ (wrap64 ((Int.tmod a0 10) + 1)) then (if (wrap64 ((Int.tmod a0 10) + 1)) ≤ 10 then (if t164.size + ((⟨#[48, 49, 50, 51, 52, 53, 54, 55, 56, 57]⟩ : ByteArray).extract ((Int.tmod a0 10) : Int).toNat ((wrap64 ((Int.tmod a0 10) + 1)) : Int).toNat).size ≤ 9223372036854775807 then (some (t164 ++ ((⟨#[48, 49, 50, 51, 52, 53, 54, 55, 56, 57]⟩ : ByteArray).extract ((Int.tmod a0 10) : Int).toNat ((wrap64 ((Int.tmod a0 10) + 1)) : Int).toNat))) else (none)) else (none)) else (none)) else (none)))))) = some r := h; clear h; by_cases c2 : a0 = (-9223372036854775808)
  · rw [if_pos c2] at H; have c2b0 : (a0 == (-9223372036854775808)) = true := beq_iff_eq.mpr c2; have c2b1 : (a0 != (-9223372036854775808)) = false := bne_eq_false_iff_eq.mpr c2; clear c2; obtain rfl := Option.some.inj H; go_enter Tryz.func38, Tryz.ntmps38; go_wp2; go_ret; exact ⟨qR, qB⟩
  · rw [if_neg c2] at H; have c2b0 : (a0 == (-9223372036854775808)) = false := beq_eq_false_iff_ne.mpr c2; have c2b1 : (a0 != (-9223372036854775808)) = true := bne_iff_ne.mpr c2; by_cases c3 : a0 < 0
    · rw [if_pos c3] at H; have c3b0 : decide (a0 < 0) = true := decide_eq_true c3; clear c3; replace H := Option.bind_eq_some_iff.mp H; obtain ⟨t163, A40, H⟩ := H; have A4 := qK A40; clear A40; by_cases c5 : 1 + t163.size ≤ 9223372036854775807
      · rw [if_pos c5] at H; have c5b0 := eq_true c5; have c5b1 : decide (1 + t163.size ≤ 9223372036854775807) = true := decide_eq_true c5; (try have c5b2 : (9223372036854775807 < 1 + t163.size) = False := eq_false (Nat.not_lt.2 c5)); obtain rfl := Option.some.inj H; go_enter Tryz.func38, Tryz.ntmps38; go_wp2_with (first | ((with_reducible refine gcl (f := 38) rfl ?_); refine goesL_ (some 9) rfl rfl Tryz.func38 (by kernel_rfl) rfl #[.int .i64 (wrap64 (-a0))] rfl qA ?_; (with_reducible refine (ih k (by omega) (wrap64 (-a0)) t163 _ A4.out).mono ?_); rintro e w6 ⟨rfl, hb⟩; refine ⟨_, rfl, ?_⟩; replace HB := qHB HB hb; (try clear hb); (try clear hb2); (try clear hk); (try clear hi))); go_ret; exact ⟨qR, qB⟩
      · rw [if_neg c5] at H; exact absurd H (by simp)
    · rw [if_neg c3] at H; have c3b0 : decide (a0 < 0) = false := decide_eq_false c3; clear c3; by_cases c7 : a0 < 10
      · rw [if_pos c7] at H; have c7b0 : decide (a0 < 10) = true := decide_eq_true c7; clear c7; by_cases c8 : 0 ≤ a0
        · rw [if_pos c8] at H; have c8b0 := eq_true c8; have c8b1 : decide (0 ≤ a0) = true := decide_eq_true c8; clear c8; by_cases c9 : a0 ≤ (wrap64 (a0 + 1))
          · rw [if_pos c9] at H; have c9b0 := eq_true c9; have c9b1 : decide (a0 ≤ (wrap64 (a0 + 1))) = true := decide_eq_true c9; by_cases c10 : (wrap64 (a0 + 1)) ≤ 10
            · rw [if_pos c10] at H; have c10b0 := eq_true c10; have c10b1 : decide ((wrap64 (a0 + 1)) ≤ 10) = true := decide_eq_true c10; obtain rfl := Option.some.inj H; go_enter Tryz.func38, Tryz.ntmps38; go_wp2; go_ret; exact ⟨qR, qB⟩
            · rw [if_neg c10] at H; exact absurd H (by simp)
          · rw [if_neg c9] at H; exact absurd H (by simp)
        · rw [if_neg c8] at H; exact absurd H (by simp)
      · rw [if_neg c7] at H; have c7b0 : decide (a0 < 10) = false := decide_eq_false c7; clear c7; replace H := Option.bind_eq_some_iff.mp H; obtain ⟨t164, A110, H⟩ := H; have A11 := qK A110; clear A110; obtain ⟨ji12, hji12⟩ : ∃ j_ : Int, (Int.tmod a0 10) = j_ := ⟨_, rfl⟩; (replace H : (if 0 ≤ (ji12) then (if (ji12) ≤ (wrap64 ((ji12) + 1)) then (if (wrap64 ((ji12) + 1)) ≤ 10 then (if t164.size + ((⟨#[48, 49, 50, 51, 52, 53, 54, 55, 56, 57]⟩ : ByteArray).extract ((ji12) : Int).toNat ((wrap64 ((ji12) + 1)) : Int).toNat).size ≤ 9223372036854775807 then (some (t164 ++ ((⟨#[48, 49, 50, 51, 52, 53, 54, 55, 56, 57]⟩ : ByteArray).extract ((ji12) : Int).toNat ((wrap64 ((ji12) + 1)) : Int).toNat))) else (none)) else (none)) else (none)) else (none)) = some r := by first | (rw [hji12] at H; exact H) | (simp only [hji12] at H ⊢; exact H)); (try rw [hji12] at A11); by_cases c13 : 0 ≤ (ji12)
        · rw [if_pos c13] at H; have c13b0 := eq_true c13; have c13b1 : decide (0 ≤ (ji12)) = true := decide_eq_true c13; clear c13; by_cases c14 : (ji12) ≤ (wrap64 ((ji12) + 1))
          · rw [if_pos c14] at H; have c14b0 := eq_true c14; have c14b1 : decide ((ji12) ≤ (wrap64 ((ji12) + 1))) = true := decide_eq_true c14; by_cases c15 : (wrap64 ((ji12) + 1)) ≤ 10
            · rw [if_pos c15] at H; have c15b0 := eq_true c15; have c15b1 : decide ((wrap64 ((ji12) + 1)) ≤ 10) = true := decide_eq_true c15; by_cases c16 : t164.size + ((⟨#[48, 49, 50, 51, 52, 53, 54, 55, 56, 57]⟩ : ByteArray).extract ((ji12) : Int).toNat ((wrap64 ((ji12) + 1)) : Int).toNat).size ≤ 9223372036854775807
              · rw [if_pos c16] at H; have c16b0 := eq_true c16; have c16b1 : decide (t164.size + ((⟨#[48, 49, 50, 51, 52, 53, 54, 55, 56, 57]⟩ : ByteArray).extract ((ji12) : Int).toNat ((wrap64 ((ji12) + 1)) : Int).toNat).size ≤ 9223372036854775807) = true := decide_eq_true c16; (try have c16b2 : (9223372036854775807 < t164.size + ((⟨#[48, 49, 50, 51, 52, 53, 54, 55, 56, 57]⟩ : ByteArray).extract ((ji12) : Int).toNat ((wrap64 ((ji12) + 1)) : Int).toNat).size) = False := eq_false (Nat.not_lt.2 c16)); (try have c16b3 : (9223372036854775807 < t164.size + (((wrap64 ((ji12) + 1))).toNat - ((ji12)).toNat)) = False := eq_false (by rw [← (show ((⟨#[48, 49, 50, 51, 52, 53, 54, 55, 56, 57]⟩ : ByteArray).extract ((ji12)).toNat ((wrap64 ((ji12) + 1))).toNat).size = ((wrap64 ((ji12) + 1))).toNat - ((ji12)).toNat by rw [ByteArray.size_extract]; exact congrArg (· - ((ji12)).toNat) (Nat.min_eq_left (show ((wrap64 ((ji12) + 1))).toNat ≤ 10 by omega)))]; exact Nat.not_lt.2 c16)); obtain rfl := Option.some.inj H; go_enter Tryz.func38, Tryz.ntmps38; (try go_wp2); replace HB := qK (bd1 HB.out); refine qs 11 (fun w' => True) (ds := []) trivial (fun hHeld => ?_); refine with_tabW spec_l4Dec.tab7 spec_l4Dec.bits7 (fun HT_ HW_ => ?_); generalize w.drew = w17 at HB hHeld ⊢; refine qp 0 17 ?_; refine qp 1 18 ?_; refine qp 3 20 ?_; refine qp 4 21 ?_; refine qp 5 22 ?_; refine qp 6 23 ?_; refine qp 7 24 ?_; refine qp 8 25 ?_; refine qo 2 19 (fun K hK => ?_); refine goes_ Tryz.func38 (by kernel_rfl) rfl #[.int .i64 (wrap64 (Int.tdiv a0 10))] (by rfl) rfl rfl qA ?_; (with_reducible refine (ih k (by omega) (wrap64 (Int.tdiv a0 10)) t164 _ A11.out).mono ?_); rintro e w18 ⟨rfl, hb⟩; refine ⟨_, rfl, ?_⟩; replace HB := qHB HB hb; (try clear hb); (try clear hb2); (try clear hk); (try clear hi); refine hK.out _ _ trivial (fun hHeld => ?_); clear hK K; refine norm_ (a' := ?_) ?_ ?_; rotate_left
                · show Act.put _ (some 19) _ = _; simp only [Act.put, List.setIfInBounds_toArray, List.set_cons_zero, List.set_cons_succ, i64_w, i32_w]; rfl
                refine qp 9 26 ?_; refine qp 10 2 ?_; refine done_ (done_of HT_.out (by kernel_rfl)) ?_; (try go_wp2); go_ret; exact ⟨by first | rfl | (simp [eWn, eWs] <;> rfl) | (simp only [← hji12]; first | rfl | (simp [eWn, eWs] <;> rfl)) | (simp [*, eWn, eWs] <;> rfl), qB⟩
              · rw [if_neg c16] at H; exact absurd H (by simp)
            · rw [if_neg c15] at H; exact absurd H (by simp)
          · rw [if_neg c14] at H; exact absurd H (by simp)
        · rw [if_neg c13] at H; exact absurd H (by simp)
def spec_l4Quote.l0 : Nat → ByteArray → ByteArray → Int → Option (ByteArray)
  | 0, _, _, _ => none
  | k + 1, x0, x3, x4 => if x4 < (x0.size : Int) then (if 0 ≤ x4 then (if (bt x0 x4) = 39 then (if x3.size + 1 ≤ 9223372036854775807 then (if x4 ≤ (wrap64 (x4 + 1)) then (if (wrap64 (x4 + 1)) ≤ (x0.size : Int) then (if (x3 ++ (⟨#[39]⟩ : ByteArray)).size + (x0.extract (x4 : Int).toNat ((wrap64 (x4 + 1)) : Int).toNat).size ≤ 9223372036854775807 then (spec_l4Quote.l0 k x0 ((x3 ++ (⟨#[39]⟩ : ByteArray)) ++ (x0.extract (x4 : Int).toNat ((wrap64 (x4 + 1)) : Int).toNat)) (wrap64 (x4 + 1))) else (none)) else (none)) else (none)) else (none)) else (if x4 ≤ (wrap64 (x4 + 1)) then (if (wrap64 (x4 + 1)) ≤ (x0.size : Int) then (if x3.size + (x0.extract (x4 : Int).toNat ((wrap64 (x4 + 1)) : Int).toNat).size ≤ 9223372036854775807 then (spec_l4Quote.l0 k x0 (x3 ++ (x0.extract (x4 : Int).toNat ((wrap64 (x4 + 1)) : Int).toNat)) (wrap64 (x4 + 1))) else (none)) else (none)) else (none))) else (none)) else (if x3.size + 1 ≤ 9223372036854775807 then (some (x3 ++ (⟨#[39]⟩ : ByteArray))) else (none))
def spec_l4Quote.f (k : Nat) (a0 : ByteArray) : Option (ByteArray) := spec_l4Quote.l0 k a0 (⟨#[39]⟩ : ByteArray) 0
theorem spec_l4Quote.mono_l : ∀ k, (∀ y0 y1 y2, LeO (spec_l4Quote.l0 k y0 y1 y2) (spec_l4Quote.l0 (k + 1) y0 y1 y2))
  | 0 => fun _ _ _ r h => by simp [spec_l4Quote.l0] at h
  | k + 1 => by
    have ih0 := spec_l4Quote.mono_l k
    · intro y0 y1 y2
      unfold spec_l4Quote.l0
      repeat' first
      | (with_reducible exact ih0 _ _ _)
      | (with_reducible exact LeO.refl _)
      | (with_reducible exact LeO.none _)
      | (with_reducible refine LeO.ite ?_ ?_)
      | (with_reducible refine LeO.bind ?_ (fun _ => ?_))
      | exact ih0 _ _ _
      | exact LeO.none _
      | refine LeO.ite ?_ ?_
      | refine LeO.bind ?_ (fun _ => ?_)
theorem spec_l4Quote.mono : ∀ a0 k, LeO (spec_l4Quote.f k a0) (spec_l4Quote.f (k + 1) a0) := by
  intro a0 k
  have ih0 := spec_l4Quote.mono_l k
  unfold spec_l4Quote.f
  repeat' first
      | (with_reducible exact ih0 _ _ _)
      | (with_reducible exact LeO.refl _)
      | (with_reducible exact LeO.none _)
      | (with_reducible refine LeO.ite ?_ ?_)
      | (with_reducible refine LeO.bind ?_ (fun _ => ?_))
      | exact ih0 _ _ _
      | exact LeO.none _
      | refine LeO.ite ?_ ?_
      | refine LeO.bind ?_ (fun _ => ?_)
set_option maxHeartbeats 8000000 in
set_option maxRecDepth 100000 in
theorem spec_l4Quote.calls (k : Nat) (a0 : ByteArray) (r : ByteArray) (w : World) (h : spec_l4Quote.f k a0 = some r) :
    Calls Tryz.prog 39 #[.string a0] w fun e w' => e = .returned (.string r) ∧ Drawn0 w w' := by
  have H : (spec_l4Quote.l0 k a0 (⟨#[39]⟩ : ByteArray) 0) = some r := h; clear h; have H' := qK H; clear H; go_enter Tryz.func39, Tryz.ntmps39; go_wp2; go_loopg [3, 4] k (fun kq v3 v4 w' => ∃ (x3_1 : ByteArray) (x4_1 : Int), v3 = .string x3_1 ∧ v4 = .int .i64 x4_1 ∧ Aside0 (spec_l4Quote.l0 kq a0 x3_1 x4_1 = some r) ∧ Aside0 (kq ≤ k) ∧ Drawn0 w w')
  case atStart => exact ⟨((⟨#[39]⟩ : ByteArray)), (0), qS, qS, H', ⟨Nat.le_refl _⟩, by repeat (first | exact Drawn0.refl _ | apply Drawn0.step)⟩
  case round =>
    clear H'; obtain ⟨x3_1, x4_1, rfl, rfl, HA, HK1, ⟨m1, rfl⟩⟩ := hrel
    cases gk with
    | zero => exact absurd HA.out (by simp [spec_l4Quote.l0])
    | succ k1 =>
      have H := HA.out; clear HA; simp only [spec_l4Quote.l0] at H; by_cases c2 : x4_1 < (a0.size : Int)
      · rw [if_pos c2] at H; have c2b0 : decide (x4_1 < (a0.size : Int)) = true := decide_eq_true c2; clear c2; by_cases c3 : 0 ≤ x4_1
        · rw [if_pos c3] at H; have c3b0 : decide (0 ≤ x4_1) = true := decide_eq_true c3; clear c3; by_cases c5 : (bt a0 x4_1) = 39
          · rw [if_pos c5] at H; have c5b0 : ((bt a0 x4_1) == 39) = true := beq_iff_eq.mpr c5; have c5b1 : ((bt a0 x4_1) != 39) = false := bne_eq_false_iff_eq.mpr c5; clear c5; by_cases c6 : x3_1.size + 1 ≤ 9223372036854775807
            · rw [if_pos c6] at H; have c6b0 := eq_true c6; have c6b1 : decide (x3_1.size + 1 ≤ 9223372036854775807) = true := decide_eq_true c6; (try have c6b2 : (9223372036854775807 < x3_1.size + 1) = False := eq_false (Nat.not_lt.2 c6)); have c7b0 := eq_true (of_decide_eq_true qa : 0 ≤ x4_1); by_cases c8 : x4_1 ≤ (wrap64 (x4_1 + 1))
              · rw [if_pos c8] at H; have c8b0 := eq_true c8; have c8b1 : decide (x4_1 ≤ (wrap64 (x4_1 + 1))) = true := decide_eq_true c8; by_cases c9 : (wrap64 (x4_1 + 1)) ≤ (a0.size : Int)
                · rw [if_pos c9] at H; have c9b0 := eq_true c9; have c9b1 : decide ((wrap64 (x4_1 + 1)) ≤ (a0.size : Int)) = true := decide_eq_true c9; by_cases c10 : (x3_1 ++ (⟨#[39]⟩ : ByteArray)).size + (a0.extract (x4_1 : Int).toNat ((wrap64 (x4_1 + 1)) : Int).toNat).size ≤ 9223372036854775807
                  · rw [if_pos c10] at H; have c10b0 := eq_true c10; have c10b1 : decide ((x3_1 ++ (⟨#[39]⟩ : ByteArray)).size + (a0.extract (x4_1 : Int).toNat ((wrap64 (x4_1 + 1)) : Int).toNat).size ≤ 9223372036854775807) = true := decide_eq_true c10; (try have c10b2 : (9223372036854775807 < (x3_1 ++ (⟨#[39]⟩ : ByteArray)).size + (a0.extract (x4_1 : Int).toNat ((wrap64 (x4_1 + 1)) : Int).toNat).size) = False := eq_false (Nat.not_lt.2 c10)); have H' := qK H; clear H; have p4 : 0 ≤ (x4_1 : Int) := of_decide_eq_true qa; have q4 : x4_1 < (a0.size : Int) := of_decide_eq_true qa; have hx4 := bt_at a0 x4_1; replace p4 := eq_true p4; replace q4 := eq_true q4; go_wp2; go_roundg k1
                    case measure => have := HK1.out; omega
                    case rel => exact ⟨((x3_1 ++ (⟨#[39]⟩ : ByteArray)) ++ (a0.extract (x4_1 : Int).toNat ((wrap64 (x4_1 + 1)) : Int).toNat)), (wrap64 (x4_1 + 1)), qS, qS, H', ⟨by have := HK1.out; omega⟩, by repeat (first | exact Drawn0.refl _ | apply Drawn0.step)⟩
                  · rw [if_neg c10] at H; exact absurd H (by simp)
                · rw [if_neg c9] at H; exact absurd H (by simp)
              · rw [if_neg c8] at H; exact absurd H (by simp)
            · rw [if_neg c6] at H; exact absurd H (by simp)
          · rw [if_neg c5] at H; have c5b0 : ((bt a0 x4_1) == 39) = false := beq_eq_false_iff_ne.mpr c5; have c5b1 : ((bt a0 x4_1) != 39) = true := bne_iff_ne.mpr c5; have c11b0 := eq_true (of_decide_eq_true qa : 0 ≤ x4_1); by_cases c12 : x4_1 ≤ (wrap64 (x4_1 + 1))
            · rw [if_pos c12] at H; have c12b0 := eq_true c12; have c12b1 : decide (x4_1 ≤ (wrap64 (x4_1 + 1))) = true := decide_eq_true c12; by_cases c13 : (wrap64 (x4_1 + 1)) ≤ (a0.size : Int)
              · rw [if_pos c13] at H; have c13b0 := eq_true c13; have c13b1 : decide ((wrap64 (x4_1 + 1)) ≤ (a0.size : Int)) = true := decide_eq_true c13; by_cases c14 : x3_1.size + (a0.extract (x4_1 : Int).toNat ((wrap64 (x4_1 + 1)) : Int).toNat).size ≤ 9223372036854775807
                · rw [if_pos c14] at H; have c14b0 := eq_true c14; have c14b1 : decide (x3_1.size + (a0.extract (x4_1 : Int).toNat ((wrap64 (x4_1 + 1)) : Int).toNat).size ≤ 9223372036854775807) = true := decide_eq_true c14; (try have c14b2 : (9223372036854775807 < x3_1.size + (a0.extract (x4_1 : Int).toNat ((wrap64 (x4_1 + 1)) : Int).toNat).size) = False := eq_false (Nat.not_lt.2 c14)); have H' := qK H; clear H; have p4 : 0 ≤ (x4_1 : Int) := of_decide_eq_true qa; have q4 : x4_1 < (a0.size : Int) := of_decide_eq_true qa; have hx4 := bt_at a0 x4_1; replace p4 := eq_true p4; replace q4 := eq_true q4; go_wp2; go_roundg k1
                  case measure => have := HK1.out; omega
                  case rel => exact ⟨(x3_1 ++ (a0.extract (x4_1 : Int).toNat ((wrap64 (x4_1 + 1)) : Int).toNat)), (wrap64 (x4_1 + 1)), qS, qS, H', ⟨by have := HK1.out; omega⟩, by repeat (first | exact Drawn0.refl _ | apply Drawn0.step)⟩
                · rw [if_neg c14] at H; exact absurd H (by simp)
              · rw [if_neg c13] at H; exact absurd H (by simp)
            · rw [if_neg c12] at H; exact absurd H (by simp)
        · rw [if_neg c3] at H; exact absurd H (by simp)
      · rw [if_neg c2] at H; have c2b0 : decide (x4_1 < (a0.size : Int)) = false := decide_eq_false c2; clear c2; by_cases c15 : x3_1.size + 1 ≤ 9223372036854775807
        · rw [if_pos c15] at H; have c15b0 := eq_true c15; have c15b1 : decide (x3_1.size + 1 ≤ 9223372036854775807) = true := decide_eq_true c15; (try have c15b2 : (9223372036854775807 < x3_1.size + 1) = False := eq_false (Nat.not_lt.2 c15)); obtain rfl := Option.some.inj H; go_wp2; go_ret; exact ⟨by first | rfl | (simp; done) | (simp [*]; done), by repeat (first | exact Drawn0.refl _ | apply Drawn0.step)⟩
        · rw [if_neg c15] at H; exact absurd H (by simp)
def spec_l4Show.f (k : Nat) (a0_0 : Int) (a0_1 : Int) (a0_2 : ByteArray) : Option (ByteArray) := if a0_0 = 1 then ((spec_l4Dec.f k a0_1).bind fun t166 => (some t166)) else ((spec_l4Quote.f k a0_2).bind fun t167 => (some t167))
theorem spec_l4Show.mono : ∀ a0 a1 a2 k, LeO (spec_l4Show.f k a0 a1 a2) (spec_l4Show.f (k + 1) a0 a1 a2) := by
  intro a0 a1 a2 k
  unfold spec_l4Show.f
  repeat' first
      | (with_reducible exact spec_l4Dec.mono _ _)
      | (with_reducible exact spec_l4Quote.mono _ _)
      | (with_reducible exact LeO.refl _)
      | (with_reducible exact LeO.none _)
      | (with_reducible refine LeO.ite ?_ ?_)
      | (with_reducible refine LeO.bind ?_ (fun _ => ?_))
      | exact spec_l4Dec.mono _ _
      | exact spec_l4Quote.mono _ _
      | exact LeO.none _
      | refine LeO.ite ?_ ?_
      | refine LeO.bind ?_ (fun _ => ?_)
set_option maxHeartbeats 8000000 in
set_option maxRecDepth 100000 in
theorem spec_l4Show.calls (k : Nat) (a0_0 : Int) (a0_1 : Int) (a0_2 : ByteArray) (r : ByteArray) (w : World) (h : spec_l4Show.f k a0_0 a0_1 a0_2 = some r) :
    Calls Tryz.prog 15 #[.agg #[.int .i64 a0_0, .int .i64 a0_1, .string a0_2]] w fun e w' => e = .returned (.string r) ∧ Below w.heap.size w w' := by
  have hu49 := Tryz.underlying49; have HB := qK (Below.refl w.heap.size w); have H : (if a0_0 = 1 then ((spec_l4Dec.f k a0_1).bind fun t166 => (some t166)) else ((spec_l4Quote.f k a0_2).bind fun t167 => (some t167))) = some r := h; clear h; by_cases c2 : a0_0 = 1
  · rw [if_pos c2] at H; have c2b0 : (a0_0 == 1) = true := beq_iff_eq.mpr c2; have c2b1 : (a0_0 != 1) = false := bne_eq_false_iff_eq.mpr c2; clear c2; replace H := Option.bind_eq_some_iff.mp H; obtain ⟨t166, A30, H⟩ := H; have A3 := qK A30; clear A30; obtain rfl := Option.some.inj H; go_enter Tryz.func15, Tryz.ntmps15; go_wp2_with (first | ((with_reducible refine gds (N := 1) rfl ?_); refine qbx 1 #[.int .i64 a0_0, .int .i64 a0_1, .string a0_2] 49 ?_; intro gb165 hg w4 hbox hb; have BK165 := qK (hbox); have GW165 := qK ((qW : w.heap.size ≤ gb165)); have GE165 := GW165; replace HB := qHB HB hb; clear hb hbox hg; have hz5 := qz3 BK165.out) | ((with_reducible refine gcl (f := 38) rfl ?_); refine goesL_ (some 8) rfl rfl Tryz.func38 (by kernel_rfl) rfl #[.int .i64 a0_1] rfl qA ?_; (with_reducible refine (spec_l4Dec.calls k a0_1 t166 _ A3.out).mono ?_); rintro e w6 ⟨rfl, hb⟩; refine ⟨_, rfl, ?_⟩; replace BK165 := qbb BK165 hb; replace HB := qHB HB hb; (try clear hb); (try clear hb2); (try clear hk); (try clear hi))); go_ret; exact ⟨qR, qB⟩
  · rw [if_neg c2] at H; have c2b0 : (a0_0 == 1) = false := beq_eq_false_iff_ne.mpr c2; have c2b1 : (a0_0 != 1) = true := bne_iff_ne.mpr c2; replace H := Option.bind_eq_some_iff.mp H; obtain ⟨t167, A70, H⟩ := H; have A7 := qK A70; clear A70; obtain rfl := Option.some.inj H; go_enter Tryz.func15, Tryz.ntmps15; go_wp2_with (first | ((with_reducible refine gds (N := 1) rfl ?_); refine qbx 1 #[.int .i64 a0_0, .int .i64 a0_1, .string a0_2] 49 ?_; intro gb165 hg w8 hbox hb; have BK165 := qK (hbox); have GW165 := qK ((qW : w.heap.size ≤ gb165)); have GE165 := GW165; replace HB := qHB HB hb; clear hb hbox hg; have hz9 := qz3 BK165.out) | ((with_reducible refine gcl (f := 39) rfl ?_); refine goesL_ (some 11) rfl rfl Tryz.func39 (by kernel_rfl) rfl #[.string a0_2] rfl qA ?_; (with_reducible refine (spec_l4Quote.calls k a0_2 t167 _ A7.out).mono ?_); rintro e w' ⟨rfl, ⟨nd, rfl⟩⟩; refine ⟨_, rfl, ?_⟩)); go_ret; exact ⟨qR, qB⟩
def spec_l4Sign.f (a0 : Int) : Option (ByteArray) := if a0 = 4 then (some (⟨#[32, 43, 32]⟩ : ByteArray)) else (if a0 = 5 then (some (⟨#[32, 45, 32]⟩ : ByteArray)) else (if a0 = 6 then (some (⟨#[32, 42, 32]⟩ : ByteArray)) else (if a0 = 7 then (some (⟨#[32, 61, 32]⟩ : ByteArray)) else (if a0 = 8 then (some (⟨#[32, 60, 32]⟩ : ByteArray)) else (if a0 = 9 then (some (⟨#[32, 97, 110, 100, 32]⟩ : ByteArray)) else (if a0 = 10 then (some (⟨#[32, 111, 114, 32]⟩ : ByteArray)) else (some (⟨#[32, 124, 124, 32]⟩ : ByteArray))))))))
set_option maxHeartbeats 8000000 in
set_option maxRecDepth 100000 in
theorem spec_l4Sign.calls (a0 : Int) (r : ByteArray) (w : World) (h : spec_l4Sign.f a0 = some r) :
    Calls Tryz.prog 40 #[.int .i64 a0] w fun e w' => e = .returned (.string r) ∧ Drawn0 w w' := by
  have H : (if a0 = 4 then (some (⟨#[32, 43, 32]⟩ : ByteArray)) else (if a0 = 5 then (some (⟨#[32, 45, 32]⟩ : ByteArray)) else (if a0 = 6 then (some (⟨#[32, 42, 32]⟩ : ByteArray)) else (if a0 = 7 then (some (⟨#[32, 61, 32]⟩ : ByteArray)) else (if a0 = 8 then (some (⟨#[32, 60, 32]⟩ : ByteArray)) else (if a0 = 9 then (some (⟨#[32, 97, 110, 100, 32]⟩ : ByteArray)) else (if a0 = 10 then (some (⟨#[32, 111, 114, 32]⟩ : ByteArray)) else (some (⟨#[32, 124, 124, 32]⟩ : ByteArray))))))))) = some r := h; clear h; by_cases c2 : a0 = 4
  · rw [if_pos c2] at H; have c2b0 : (a0 == 4) = true := beq_iff_eq.mpr c2; have c2b1 : (a0 != 4) = false := bne_eq_false_iff_eq.mpr c2; clear c2; obtain rfl := Option.some.inj H; go_enter Tryz.func40, Tryz.ntmps40; go_wp2; go_ret; exact ⟨by first | rfl | (simp; done) | (simp [*]; done), by repeat (first | exact Drawn0.refl _ | apply Drawn0.step)⟩
  · rw [if_neg c2] at H; have c2b0 : (a0 == 4) = false := beq_eq_false_iff_ne.mpr c2; have c2b1 : (a0 != 4) = true := bne_iff_ne.mpr c2; by_cases c3 : a0 = 5
    · rw [if_pos c3] at H; have c3b0 : (a0 == 5) = true := beq_iff_eq.mpr c3; have c3b1 : (a0 != 5) = false := bne_eq_false_iff_eq.mpr c3; clear c3; obtain rfl := Option.some.inj H; go_enter Tryz.func40, Tryz.ntmps40; go_wp2; go_ret; exact ⟨by first | rfl | (simp; done) | (simp [*]; done), by repeat (first | exact Drawn0.refl _ | apply Drawn0.step)⟩
    · rw [if_neg c3] at H; have c3b0 : (a0 == 5) = false := beq_eq_false_iff_ne.mpr c3; have c3b1 : (a0 != 5) = true := bne_iff_ne.mpr c3; by_cases c4 : a0 = 6
      · rw [if_pos c4] at H; have c4b0 : (a0 == 6) = true := beq_iff_eq.mpr c4; have c4b1 : (a0 != 6) = false := bne_eq_false_iff_eq.mpr c4; clear c4; obtain rfl := Option.some.inj H; go_enter Tryz.func40, Tryz.ntmps40; go_wp2; go_ret; exact ⟨by first | rfl | (simp; done) | (simp [*]; done), by repeat (first | exact Drawn0.refl _ | apply Drawn0.step)⟩
      · rw [if_neg c4] at H; have c4b0 : (a0 == 6) = false := beq_eq_false_iff_ne.mpr c4; have c4b1 : (a0 != 6) = true := bne_iff_ne.mpr c4; by_cases c5 : a0 = 7
        · rw [if_pos c5] at H; have c5b0 : (a0 == 7) = true := beq_iff_eq.mpr c5; have c5b1 : (a0 != 7) = false := bne_eq_false_iff_eq.mpr c5; clear c5; obtain rfl := Option.some.inj H; go_enter Tryz.func40, Tryz.ntmps40; go_wp2; go_ret; exact ⟨by first | rfl | (simp; done) | (simp [*]; done), by repeat (first | exact Drawn0.refl _ | apply Drawn0.step)⟩
        · rw [if_neg c5] at H; have c5b0 : (a0 == 7) = false := beq_eq_false_iff_ne.mpr c5; have c5b1 : (a0 != 7) = true := bne_iff_ne.mpr c5; by_cases c6 : a0 = 8
          · rw [if_pos c6] at H; have c6b0 : (a0 == 8) = true := beq_iff_eq.mpr c6; have c6b1 : (a0 != 8) = false := bne_eq_false_iff_eq.mpr c6; clear c6; obtain rfl := Option.some.inj H; go_enter Tryz.func40, Tryz.ntmps40; go_wp2; go_ret; exact ⟨by first | rfl | (simp; done) | (simp [*]; done), by repeat (first | exact Drawn0.refl _ | apply Drawn0.step)⟩
          · rw [if_neg c6] at H; have c6b0 : (a0 == 8) = false := beq_eq_false_iff_ne.mpr c6; have c6b1 : (a0 != 8) = true := bne_iff_ne.mpr c6; by_cases c7 : a0 = 9
            · rw [if_pos c7] at H; have c7b0 : (a0 == 9) = true := beq_iff_eq.mpr c7; have c7b1 : (a0 != 9) = false := bne_eq_false_iff_eq.mpr c7; clear c7; obtain rfl := Option.some.inj H; go_enter Tryz.func40, Tryz.ntmps40; go_wp2; go_ret; exact ⟨by first | rfl | (simp; done) | (simp [*]; done), by repeat (first | exact Drawn0.refl _ | apply Drawn0.step)⟩
            · rw [if_neg c7] at H; have c7b0 : (a0 == 9) = false := beq_eq_false_iff_ne.mpr c7; have c7b1 : (a0 != 9) = true := bne_iff_ne.mpr c7; by_cases c8 : a0 = 10
              · rw [if_pos c8] at H; have c8b0 : (a0 == 10) = true := beq_iff_eq.mpr c8; have c8b1 : (a0 != 10) = false := bne_eq_false_iff_eq.mpr c8; clear c8; obtain rfl := Option.some.inj H; go_enter Tryz.func40, Tryz.ntmps40; go_wp2; go_ret; exact ⟨by first | rfl | (simp; done) | (simp [*]; done), by repeat (first | exact Drawn0.refl _ | apply Drawn0.step)⟩
              · rw [if_neg c8] at H; have c8b0 : (a0 == 10) = false := beq_eq_false_iff_ne.mpr c8; have c8b1 : (a0 != 10) = true := bne_iff_ne.mpr c8; obtain rfl := Option.some.inj H; go_enter Tryz.func40, Tryz.ntmps40; go_wp2; go_ret; exact ⟨by first | rfl | (simp; done) | (simp [*]; done), by repeat (first | exact Drawn0.refl _ | apply Drawn0.step)⟩
def spec_l4ExpText.f (k : Nat) (l0 : List (S75)) : Option (ByteArray) := if l0.length ≤ 1000000 then (stackGo (fun n => spec_l4Dec.f k n) (fun v => spec_l4Quote.f k v) (fun n => spec_l4Sign.f n) l0 []).bind fun r => if 1 ≤ r.length then some (r.getD 0 ⟨#[]⟩) else none else none
theorem spec_l4ExpText.mono : ∀ a0 k, LeO (spec_l4ExpText.f k a0) (spec_l4ExpText.f (k + 1) a0) := by
  intro a0 k
  unfold spec_l4ExpText.f
  exact LeO.ite (LeO.bind (stackGo_mono (fun _ => spec_l4Dec.mono _ _) (fun _ => spec_l4Quote.mono _ _) (fun _ => LeO.refl _) _ _) fun _ => LeO.refl _) (LeO.refl _)
theorem spec_l4ExpText.calls (k : Nat) (A0 : Option Addr) (c0 : Nat) (l0 : List (S75)) (r : ByteArray) (w : World) (hr0 : Kd.C k75 w A0 l0.length l0) (hc0 : l0.length ≤ c0) (h : spec_l4ExpText.f k l0 = some r) :
    Calls Tryz.prog 16 #[.slice A0 l0.length c0] w fun e w' => e = .returned (.string r) ∧ Below w.heap.size w w' := by
  unfold spec_l4ExpText.f at h
  by_cases hl : l0.length ≤ 1000000
  case neg => rw [if_neg hl] at h; cases h
  rw [if_pos hl] at h
  obtain ⟨s, hs, h⟩ := Option.bind_eq_some_iff.mp h
  by_cases h1 : 1 ≤ s.length
  case neg => rw [if_neg h1] at h; cases h
  rw [if_pos h1] at h
  obtain rfl := Option.some.inj h
  refine spec_stack A0 c0 l0 w _ _ _ hr0 hl (fun n r h w' => spec_l4Dec.calls k n r w' h) (fun v r h w' => (spec_l4Quote.calls k v r w' h).mono ?_) (fun n r h w' => (spec_l4Sign.calls n r w' h).mono ?_) s hs h1
  · rintro e w'' ⟨rfl, m, rfl⟩
    exact ⟨rfl, pbd (Below.refl _ _) m⟩
  · rintro e w'' ⟨rfl, m, rfl⟩
    exact ⟨rfl, pbd (Below.refl _ _) m⟩
def spec_l4WhereText.f (k : Nat) (l0 : List (S75)) : Option (ByteArray) := if (l0.length : Int) = 0 then (some (⟨#[]⟩ : ByteArray)) else ((spec_l4ExpText.f k l0).bind fun t168 => (if 7 + t168.size ≤ 9223372036854775807 then (some ((⟨#[32, 119, 104, 101, 114, 101, 32]⟩ : ByteArray) ++ t168)) else (none)))
theorem spec_l4WhereText.mono : ∀ a0 k, LeO (spec_l4WhereText.f k a0) (spec_l4WhereText.f (k + 1) a0) := by
  intro a0 k
  unfold spec_l4WhereText.f
  repeat' first
      | (with_reducible exact spec_l4ExpText.mono _ _)
      | (with_reducible exact LeO.refl _)
      | (with_reducible exact LeO.none _)
      | (with_reducible refine LeO.ite ?_ ?_)
      | (with_reducible refine LeO.bind ?_ (fun _ => ?_))
      | exact spec_l4ExpText.mono _ _
      | exact LeO.none _
      | refine LeO.ite ?_ ?_
      | refine LeO.bind ?_ (fun _ => ?_)
set_option maxHeartbeats 8000000 in
set_option maxRecDepth 100000 in
theorem spec_l4WhereText.calls (k : Nat) (A0 : Option Addr) (c0 : Nat) (l0 : List (S75)) (r : ByteArray) (w : World) (hr0 : Kd.C k75 w A0 l0.length l0) (hc0 : l0.length ≤ c0) (h : spec_l4WhereText.f k l0 = some r) :
    Calls Tryz.prog 17 #[.slice A0 l0.length c0] w fun e w' => e = .returned (.string r) ∧ Below w.heap.size w w' := by
  have HR0 := qK hr0; have HC0 := qK hc0; clear hr0 hc0; have HB := qK (Below.refl w.heap.size w); have H : (if (l0.length : Int) = 0 then (some (⟨#[]⟩ : ByteArray)) else ((spec_l4ExpText.f k l0).bind fun t168 => (if 7 + t168.size ≤ 9223372036854775807 then (some ((⟨#[32, 119, 104, 101, 114, 101, 32]⟩ : ByteArray) ++ t168)) else (none)))) = some r := h; clear h; by_cases c2 : (l0.length : Int) = 0
  · rw [if_pos c2] at H; have c2b0 : ((l0.length : Int) == 0) = true := beq_iff_eq.mpr c2; have c2b1 : ((l0.length : Int) != 0) = false := bne_eq_false_iff_eq.mpr c2; clear c2; obtain rfl := Option.some.inj H; go_enter Tryz.func17, Tryz.ntmps17; go_wp2; go_ret; exact ⟨qR, qB⟩
  · rw [if_neg c2] at H; have c2b0 : ((l0.length : Int) == 0) = false := beq_eq_false_iff_ne.mpr c2; have c2b1 : ((l0.length : Int) != 0) = true := bne_iff_ne.mpr c2; have c2b2 : ¬ (l0 = []) := fun h_ => c2 (by rw [h_]; rfl); replace H := Option.bind_eq_some_iff.mp H; obtain ⟨t168, A30, H⟩ := H; have A3 := qK A30; clear A30; by_cases c4 : 7 + t168.size ≤ 9223372036854775807
    · rw [if_pos c4] at H; have c4b0 := eq_true c4; have c4b1 : decide (7 + t168.size ≤ 9223372036854775807) = true := decide_eq_true c4; (try have c4b2 : (9223372036854775807 < 7 + t168.size) = False := eq_false (Nat.not_lt.2 c4)); obtain rfl := Option.some.inj H; go_enter Tryz.func17, Tryz.ntmps17; go_wp2_with (first | ((with_reducible refine gcl (f := 16) rfl ?_); refine goesL_ (some 7) rfl rfl Tryz.func16 (by kernel_rfl) rfl #[.slice A0 l0.length c0] rfl qA ?_; (with_reducible refine (spec_l4ExpText.calls k _ _ l0 t168 _ ?side1 ?side2 A3.out).mono ?_); (case side1 => repeat (first | exact HR0.out | (with_reducible refine Kd.Cal ?_ _) | (with_reducible refine Kd.CdN ?_ _) | (with_reducible refine Kd.Cdr ?_))); (case side2 => exact HC0.out); rintro e w5 ⟨rfl, hb⟩; refine ⟨_, rfl, ?_⟩; replace HB := qHB HB hb; (try clear hb); (try clear hb2); (try clear hk); (try clear hi))); go_ret; exact ⟨qR, qB⟩
    · rw [if_neg c4] at H; exact absurd H (by simp)
end Go.Proofs.YtbpfdjbnfkclcaaGreatDoor.L
end
