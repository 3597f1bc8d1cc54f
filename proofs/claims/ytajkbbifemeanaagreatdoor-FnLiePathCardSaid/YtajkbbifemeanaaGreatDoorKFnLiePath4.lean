/- The texts that the proof of the law FnLiePath rests on, part 4: printed functions with their contracts, words, plain laws; the last part ends in the statement itself. No condition but those that each theorem states. -/
import Derived.Test.YtajkbbifemeanaaGreatDoorKFnLiePath3
set_option linter.unusedVariables false
set_option linter.unusedSimpArgs false
section
namespace Go.Proofs.YtajkbbifemeanaaGreatDoor.L
open Go.RowKit Go.Proofs.YtajkbbifemeanaaGreatDoorW.PrintWords Go.Proofs.YtajkbbifemeanaaGreatDoorW.PrintLast Go.Proofs.YtajkbbifemeanaaGreatDoorW.PrintMore
attribute [local go_sem] max2_int min2_int max_two min_two max_three min_three max_four min_four
set_option linter.unusedVariables false
set_option linter.unusedSimpArgs false
attribute [local go_sem high] eqA38
theorem impl_CollidePath.calls (k : Nat) (a0 : Int) (A1 : Option Addr) (c1 : Nat) (l1 : List ByteArray) (a2 : ByteArray) (a3 : Int) (A4 : Option Addr) (c4 : Nat) (l4 : List ByteArray) (r1 : Bool) (r2 : ByteArray) (r3 : ByteArray) (w : World) (hG : GOK w) (hr1 : Kd.C Kd.string w A1 l1.length l1) (hc1 : l1.length ≤ c1) (hr4 : Kd.C Kd.string w A4 l4.length l4) (hc4 : l4.length ≤ c4) (h : impl_CollidePath.f k a0 l1 a2 a3 l4 = some (r1, r2, r3)) :
    Calls Tryz.prog 16 #[.int .i64 a0, .slice A1 l1.length c1, .string a2, .int .i64 a3, .slice A4 l4.length c4] w fun e w' => e = .returned (.agg #[.bool r1, .string r2, .string r3]) ∧ Below w.heap.size w w' := CollidePath_any k a0 A1 c1 l1 a2 a3 A4 c4 l4 r1 r2 r3 w hG hr1 hc1 hr4 hc4 h
def spec_l3Candidate.f (k : Nat) (a0 : Int) (a1 : ByteArray) (a2 : ByteArray) : Option (Bool × ByteArray × ByteArray) := (spec_Digest.f k a0 a1).bind fun t405 => ((spec_Digest.f k a0 a2).bind fun t406 => (if t405.toList = t406.toList then (some (true, a1, a2)) else (some (false, (⟨#[]⟩ : ByteArray), (⟨#[]⟩ : ByteArray)))))
theorem spec_l3Candidate.mono : ∀ a0 a1 a2 k, LeO (spec_l3Candidate.f k a0 a1 a2) (spec_l3Candidate.f (k + 1) a0 a1 a2) := by
  intro a0 a1 a2 k
  unfold spec_l3Candidate.f
  repeat' first
    | (with_reducible first | exact spec_Digest.mono .. | exact LeO.refl _ | exact LeO.none _ | refine LeO.ite ?_ ?_ | refine LeO.bind ?_ (fun _ => ?_))
    | exact spec_Digest.mono .. | exact LeO.none _ | refine LeO.ite ?_ ?_ | refine LeO.bind ?_ (fun _ => ?_)
set_option maxHeartbeats 8000000 in
set_option maxRecDepth 100000 in
theorem spec_l3Candidate.calls (k : Nat) (a0 : Int) (a1 : ByteArray) (a2 : ByteArray) (r1 : Bool) (r2 : ByteArray) (r3 : ByteArray) (w : World) (h : spec_l3Candidate.f k a0 a1 a2 = some (r1, r2, r3)) :
    Calls Tryz.prog 99 #[.int .i64 a0, .string a1, .string a2] w fun e w' => e = .returned (.agg #[.bool r1, .string r2, .string r3]) ∧ Below w.heap.size w w' := by
  have hu38 := Tryz.underlying38; have HB := qK (Below.refl w.heap.size w); have H : ((spec_Digest.f k a0 a1).bind fun t405 => ((spec_Digest.f k a0 a2).bind fun t406 => (if t405.toList = t406.toList then (some (true, a1, a2)) else (some (false, (⟨#[]⟩ : ByteArray), (⟨#[]⟩ : ByteArray)))))) = some (r1, r2, r3) := h; clear h; obtain ⟨t405, A4, H⟩ := qbi H; obtain ⟨t406, A5, H⟩ := qbi H; by_cases c6 : t405.toList = t406.toList
  · rw [if_pos c6] at H; obtain ⟨c6b0, c6b1⟩ := qe c6; clear c6; simp only [Option.some.injEq, Prod.mk.injEq] at H; obtain ⟨rfl, rfl, rfl⟩ := H; go_enter Tryz.func99, Tryz.ntmps99; go_wp2_with (first | ((with_reducible refine gds (N := 6) rfl ?_); refine qbx 6 #[.bool false, .string (⟨#[]⟩ : ByteArray), .string (⟨#[]⟩ : ByteArray)] 38 ?_; intro gb404 hg w7 hbox hb; have BK404 := qK (hbox); have GW404 := qK ((qW : w.heap.size ≤ gb404)); have GE404 := GW404; replace HB := qHB HB hb; clear hb hbox hg) | ((with_reducible refine gcl (f := 30) rfl ?_); refine gL 9 Tryz.func30 #[.int .i64 a0, .string a1] ?_; (with_reducible refine (spec_Digest.calls k a0 a1 t405 _ A4.out).mono ?_); rintro e w8 ⟨rfl, hb⟩; refine ⟨_, rfl, ?_⟩; replace BK404 := qbb BK404 hb; replace HB := qHB HB hb; (try clear hb)) | ((with_reducible refine gcl (f := 30) rfl ?_); refine gL 12 Tryz.func30 #[.int .i64 a0, .string a2] ?_; (with_reducible refine (spec_Digest.calls k a0 a2 t406 _ A5.out).mono ?_); rintro e w9 ⟨rfl, hb⟩; refine ⟨_, rfl, ?_⟩; replace BK404 := qbb BK404 hb; replace HB := qHB HB hb; (try clear hb); have hz10 := qz3 BK404.out)); refine bodyPost_ret (results_cell_row rfl _ _ gb404 38 #[.bool true, .string a1, .string a2] (0, 0) _ rfl qbk Tryz.underlying38 rfl (by kernel_rfl)) rfl ?_; exact ⟨qR, qB⟩
  · rw [if_neg c6] at H; obtain ⟨c6b0, c6b1⟩ := qn c6; simp only [Option.some.injEq, Prod.mk.injEq] at H; obtain ⟨rfl, rfl, rfl⟩ := H; go_enter Tryz.func99, Tryz.ntmps99; go_wp2_with (first | ((with_reducible refine gds (N := 6) rfl ?_); refine qbx 6 #[.bool false, .string (⟨#[]⟩ : ByteArray), .string (⟨#[]⟩ : ByteArray)] 38 ?_; intro gb404 hg w11 hbox hb; have BK404 := qK (hbox); have GW404 := qK ((qW : w.heap.size ≤ gb404)); have GE404 := GW404; replace HB := qHB HB hb; clear hb hbox hg) | ((with_reducible refine gcl (f := 30) rfl ?_); refine gL 9 Tryz.func30 #[.int .i64 a0, .string a1] ?_; (with_reducible refine (spec_Digest.calls k a0 a1 t405 _ A4.out).mono ?_); rintro e w12 ⟨rfl, hb⟩; refine ⟨_, rfl, ?_⟩; replace BK404 := qbb BK404 hb; replace HB := qHB HB hb; (try clear hb)) | ((with_reducible refine gcl (f := 30) rfl ?_); refine gL 12 Tryz.func30 #[.int .i64 a0, .string a2] ?_; (with_reducible refine (spec_Digest.calls k a0 a2 t406 _ A5.out).mono ?_); rintro e w13 ⟨rfl, hb⟩; refine ⟨_, rfl, ?_⟩; replace BK404 := qbb BK404 hb; replace HB := qHB HB hb; (try clear hb); have hz14 := qz3 BK404.out)); refine bodyPost_ret (results_cell_row rfl _ _ gb404 38 #[.bool false, .string (⟨#[]⟩ : ByteArray), .string (⟨#[]⟩ : ByteArray)] (0, 0) _ rfl qbk Tryz.underlying38 rfl (by kernel_rfl)) rfl ?_; exact ⟨qR, qB⟩
def spec_l3Inside.f (k : Nat) (a0 : Int) (l1 : List ByteArray) (a2 : Int) : Option (ByteArray) := if 0 ≤ a2 then (if a2 ≤ (l1.length : Int) then ((spec_Root.f k a0 (l1.take (a2 : Int).toNat)).bind fun t408 => (if 1 + t408.size ≤ 9223372036854775807 then ((spec_Root.f k a0 (l1.drop (a2 : Int).toNat)).bind fun t410 => (if ((⟨#[1]⟩ : ByteArray) ++ t408).size + t410.size ≤ 9223372036854775807 then (some (((⟨#[1]⟩ : ByteArray) ++ t408) ++ t410)) else (none))) else (none))) else (none)) else (none)
theorem spec_l3Inside.mono : ∀ a0 a1 a2 k, LeO (spec_l3Inside.f k a0 a1 a2) (spec_l3Inside.f (k + 1) a0 a1 a2) := by
  intro a0 a1 a2 k
  unfold spec_l3Inside.f
  repeat' first
    | (with_reducible first | exact spec_Root.mono .. | exact LeO.refl _ | exact LeO.none _ | refine LeO.ite ?_ ?_ | refine LeO.bind ?_ (fun _ => ?_))
    | exact spec_Root.mono .. | exact LeO.none _ | refine LeO.ite ?_ ?_ | refine LeO.bind ?_ (fun _ => ?_)
def spec_l3Inside.T1 : Bool × List (List Nat × List Nat) := (true, [([], []), ([], []), ([], []), ([1, 2], [1, 2]), ([0, 3], [0, 3]), ([4], [4]), ([], []), ([], []), ([], []), ([7, 8], [7, 8]), ([6, 9, 4], [6, 9]), ([5, 10], [5, 10]), ([11, 10, 0, 1, 2, 3, 4, 5, 6, 7, 8, 9, 10, 11], [11])])
def spec_l3Inside.B1 : List Nat := [0, 0, 0, 6, 15, 31, 0, 0, 0, 384, 991, 2047, 4095]
theorem spec_l3Inside.tab1 : rtab .any (opsOf Tryz.f100 1) = spec_l3Inside.T1 := by kernel_rfl
theorem spec_l3Inside.bits1 : waitsOk spec_l3Inside.T1.2 spec_l3Inside.B1 = true := by kernel_rfl
set_option maxHeartbeats 8000000 in
set_option maxRecDepth 100000 in
theorem spec_l3Inside.calls (k : Nat) (a0 : Int) (A1 : Option Addr) (c1 : Nat) (l1 : List ByteArray) (a2 : Int) (r : ByteArray) (w : World) (hr1 : Kd.C Kd.string w A1 l1.length l1) (hc1 : l1.length ≤ c1) (h : spec_l3Inside.f k a0 l1 a2 = some r) :
    Calls Tryz.prog 100 #[.int .i64 a0, .slice A1 l1.length c1, .int .i64 a2] w fun e w' => e = .returned (.string r) ∧ Below w.heap.size w w' := by
  have HR1 := qK hr1; have HC1 := qK hc1; clear hr1 hc1; have HB := qK (Below.refl w.heap.size w); have H : (if 0 ≤ a2 then (if a2 ≤ (l1.length : Int) then ((spec_Root.f k a0 (l1.take (a2 : Int).toNat)).bind fun t408 => (if 1 + t408.size ≤ 9223372036854775807 then ((spec_Root.f k a0 (l1.drop (a2 : Int).toNat)).bind fun t410 => (if ((⟨#[1]⟩ : ByteArray) ++ t408).size + t410.size ≤ 9223372036854775807 then (some (((⟨#[1]⟩ : ByteArray) ++ t408) ++ t410)) else (none))) else (none))) else (none)) else (none)) = some r := h; clear h; by_cases c4 : 0 ≤ a2
  · rw [if_pos c4] at H; have c4b0 := eq_true c4; have c4b1 := decide_eq_true c4; clear c4; by_cases c5 : a2 ≤ (l1.length : Int)
    · rw [if_pos c5] at H; have c5b0 := eq_true c5; have c5b1 := decide_eq_true c5; clear c5; obtain ⟨t408, A6, H⟩ := qbi H; by_cases c7 : 1 + t408.size ≤ 9223372036854775807
      · rw [if_pos c7] at H; have c7b0 := eq_true c7; have c7b1 := decide_eq_true c7; (try have c7b2 : (9223372036854775807 < 1 + t408.size) = False := eq_false (Nat.not_lt.2 c7)); have c8b0 := eq_true (of_decide_eq_true qa : 0 ≤ a2); have c9b0 := eq_true (of_decide_eq_true qa : a2 ≤ (l1.length : Int)); obtain ⟨t410, A10, H⟩ := qbi H; by_cases c11 : ((⟨#[1]⟩ : ByteArray) ++ t408).size + t410.size ≤ 9223372036854775807
        · rw [if_pos c11] at H; have c11b0 := eq_true c11; have c11b1 := decide_eq_true c11; (try have c11b2 : (9223372036854775807 < ((⟨#[1]⟩ : ByteArray) ++ t408).size + t410.size) = False := eq_false (Nat.not_lt.2 c11)); (try have c11b3 : (9223372036854775807 < 1 + t408.size + t410.size) = False := by have h_ := c11b2; simp only [ByteArray.size_append] at h_; exact h_); obtain rfl := qsi H; go_enter Tryz.func100, Tryz.ntmps100; (try go_wp2); replace HB := qK (bd1 HB.out); obtain ⟨i013, hi013, _, hsz13, _⟩ := info_parts info9; obtain ⟨hcut13, hA13, hC13⟩ := print_take_of (P := Tryz.prog) Value.string (⟨#[]⟩ : ByteArray) 23 9 .i64 Tryz.underlying23 hi013 hsz13 A1 c1 l1 a2 (of_decide_eq_true qa) (of_decide_eq_true qa) HC1.out; have HR407 := qK (Kd.C_of_reads (h1 := fun _ => rfl) (hA13 _ (Kd.reads_of_C HR1.out))); have HC407 := qK hC13; clear hA13 hC13 hi013 hsz13; obtain ⟨i014, hi014, _, hsz14, _⟩ := info_parts info9; obtain ⟨A14, hcut14, hA14, hC14⟩ := print_drop_of (P := Tryz.prog) Value.string (⟨#[]⟩ : ByteArray) 23 9 .i64 Tryz.underlying23 hi014 hsz14 A1 c1 l1 a2 (of_decide_eq_true qa) (of_decide_eq_true qa) HC1.out; have HR409 := qK (Kd.C_of_reads (h1 := fun _ => rfl) (hA14 _ (Kd.reads_of_C HR1.out))); have HC409 := qK hC14; clear hA14 hC14 hi014 hsz14; refine qs 13 (fun w' => True) (ds := []) trivial (fun hHeld => ?_); refine with_tabW spec_l3Inside.tab1 spec_l3Inside.bits1 (fun HT_ HW_ => ?_); generalize w.drew = w12 at HB HR407 HR409 hHeld ⊢; refine qp 0 7 ?_; refine qp 1 8 ?_; refine qp 2 9 ?_; refine qp 3 10 ?_; refine qp 6 13 ?_; refine qp 7 14 ?_; refine qp 8 15 ?_; refine qp 9 16 ?_; refine qo 4 11 (fun K hK => ?_); refine goes_ Tryz.func9 (by kernel_rfl) rfl #[.int .i64 a0, .slice A1 (l1.take (a2 : Int).toNat).length c1] (by rfl) rfl rfl (by (try simp only [List.map_toArray, List.map_cons, List.map_nil]); first | done | (rw [show (l1.take (a2 : Int).toNat).length = a2.toNat from (by rw [List.length_take]; have h_ : (a2 : Int) ≤ (l1.length : Int) := of_decide_eq_true qa; omega)] <;> rfl) | rfl | (simp only [List.length_drop, List.length_take]; rfl)) ?_; (with_reducible refine (spec_Root.calls k a0 _ _ (l1.take (a2 : Int).toNat) t408 _ ?side1 ?side2 A6.out).mono ?_); (case side1 => exact qC HR407); (case side2 => exact HC407.out); rintro e w15 ⟨rfl, hb⟩; refine ⟨_, rfl, ?_⟩; replace HB := qHB HB hb; (try clear hb); refine hK.out _ _ trivial (fun hHeld => ?_); clear hK K; refine norm_ (a' := ?_) ?_ ?_; rotate_left
          · show Act.put _ (some 11) _ = _; simp only [Act.put, List.setIfInBounds_toArray, List.set_cons_zero, List.set_cons_succ, i64_w, i32_w]; rfl
          refine qp 5 12 ?_; refine qo 10 17 (fun K hK => ?_); refine goes_ Tryz.func9 (by kernel_rfl) rfl #[.int .i64 a0, .slice A14 (l1.drop (a2 : Int).toNat).length (c1 - a2.toNat)] (by rfl) rfl rfl (by (try simp only [List.map_toArray, List.map_cons, List.map_nil]); first | done | (rw [show (l1.drop (a2 : Int).toNat).length = (l1.length - a2.toNat) from List.length_drop] <;> rfl) | rfl | (simp only [List.length_drop, List.length_take]; rfl)) ?_; (with_reducible refine (spec_Root.calls k a0 _ _ (l1.drop (a2 : Int).toNat) t410 _ ?side1 ?side2 A10.out).mono ?_); (case side1 => exact qC HR409); (case side2 => exact HC409.out); rintro e w16 ⟨rfl, hb⟩; refine ⟨_, rfl, ?_⟩; replace HB := qHB HB hb; (try clear hb); refine hK.out _ _ trivial (fun hHeld => ?_); clear hK K; refine norm_ (a' := ?_) ?_ ?_; rotate_left
          · show Act.put _ (some 17) _ = _; simp only [Act.put, List.setIfInBounds_toArray, List.set_cons_zero, List.set_cons_succ, i64_w, i32_w]; rfl
          refine qp 11 18 ?_; refine qp 12 6 ?_; refine done_ (done_of HT_.out (by kernel_rfl)) ?_; (try go_wp2); go_ret; exact ⟨qR, qB⟩
        · rw [if_neg c11] at H; exact absurd H (by simp)
      · rw [if_neg c7] at H; exact absurd H (by simp)
    · rw [if_neg c5] at H; exact absurd H (by simp)
  · rw [if_neg c4] at H; exact absurd H (by simp)
mutual
def spec_l3Down.j0 : Nat → Int → List ByteArray → ByteArray → Int → Int → List ByteArray → ByteArray → Option (Bool × ByteArray × ByteArray)
  | 0, _, _, _, _, _, _, _ => none
  | k + 1, x0, x1, x2, x3, x12, x14, x15 => (spec_l3Inside.f k x0 x1 x12).bind fun t422 => (if x15.toList = t422.toList then (if x3 < x12 then (if 0 ≤ x12 then (if x12 ≤ (x1.length : Int) then ((spec_l3Down.f k x0 (x1.take (x12 : Int).toNat) x2 x3 x14).bind fun bt427 => (some (bt427.1, bt427.2.1, bt427.2.2))) else (none)) else (none)) else (if 0 ≤ x12 then (if x12 ≤ (x1.length : Int) then ((spec_l3Down.f k x0 (x1.drop (x12 : Int).toNat) x2 (wrap64 (x3 - x12)) x14).bind fun bt431 => (some (bt431.1, bt431.2.1, bt431.2.2))) else (none)) else (none))) else ((spec_l3Candidate.f k x0 x15 t422).bind fun bt423 => (some (bt423.1, bt423.2.1, bt423.2.2))))
def spec_l3Down.f : Nat → Int → List ByteArray → ByteArray → Int → List ByteArray → Option (Bool × ByteArray × ByteArray)
  | 0, _, _, _, _, _ => none
  | k + 1, a0, l1, a2, a3, l4 => if (l1.length : Int) = 1 then (if 0 < (l1.length : Int) then (if a2.toList = (rdOf ByteArray.empty l1 0).toList then (some (false, (⟨#[]⟩ : ByteArray), (⟨#[]⟩ : ByteArray))) else (if 1 + a2.size ≤ 9223372036854775807 then (if 1 + (rdOf ByteArray.empty l1 0).size ≤ 9223372036854775807 then ((spec_l3Candidate.f k a0 ((⟨#[0]⟩ : ByteArray) ++ a2) ((⟨#[0]⟩ : ByteArray) ++ (rdOf ByteArray.empty l1 0))).bind fun bt414 => (some (bt414.1, bt414.2.1, bt414.2.2))) else (none)) else (none))) else (none)) else ((spec_l2Split.f k (l1.length : Int)).bind fun t417 => (if 0 ≤ (wrap64 ((l4.length : Int) - 1)) then (if (wrap64 ((l4.length : Int) - 1)) < (l4.length : Int) then (if (wrap64 ((l4.length : Int) - 1)) ≤ (l4.length : Int) then (if a3 < t417 then ((spec_l3Claim.f k a0 a2 a3 t417 (l4.take ((wrap64 ((l4.length : Int) - 1)) : Int).toNat)).bind fun t420 => (if 1 + t420.size ≤ 9223372036854775807 then (if ((⟨#[1]⟩ : ByteArray) ++ t420).size + (rdOf ByteArray.empty l4 (wrap64 ((l4.length : Int) - 1))).size ≤ 9223372036854775807 then (spec_l3Down.j0 k a0 l1 a2 a3 t417 (l4.take ((wrap64 ((l4.length : Int) - 1)) : Int).toNat) (((⟨#[1]⟩ : ByteArray) ++ t420) ++ (rdOf ByteArray.empty l4 (wrap64 ((l4.length : Int) - 1))))) else (none)) else (none))) else (if 1 + (rdOf ByteArray.empty l4 (wrap64 ((l4.length : Int) - 1))).size ≤ 9223372036854775807 then ((spec_l3Claim.f k a0 a2 (wrap64 (a3 - t417)) (wrap64 ((l1.length : Int) - t417)) (l4.take ((wrap64 ((l4.length : Int) - 1)) : Int).toNat)).bind fun t421 => (if ((⟨#[1]⟩ : ByteArray) ++ (rdOf ByteArray.empty l4 (wrap64 ((l4.length : Int) - 1)))).size + t421.size ≤ 9223372036854775807 then (spec_l3Down.j0 k a0 l1 a2 a3 t417 (l4.take ((wrap64 ((l4.length : Int) - 1)) : Int).toNat) (((⟨#[1]⟩ : ByteArray) ++ (rdOf ByteArray.empty l4 (wrap64 ((l4.length : Int) - 1)))) ++ t421)) else (none))) else (none))) else (none)) else (none)) else (none)))
end
theorem spec_l3Down.mono_l : ∀ k, (∀ y0 y1 y2 y3 y4, LeO (spec_l3Down.f k y0 y1 y2 y3 y4) (spec_l3Down.f (k + 1) y0 y1 y2 y3 y4)) ∧ (∀ y0 y1 y2 y3 y4 y5 y6, LeO (spec_l3Down.j0 k y0 y1 y2 y3 y4 y5 y6) (spec_l3Down.j0 (k + 1) y0 y1 y2 y3 y4 y5 y6))
  | 0 => by refine ⟨?_, ?_⟩ <;> intros <;> intro r h <;> simp [spec_l3Down.f, spec_l3Down.j0] at h
  | k + 1 => by
    obtain ⟨ih0, ih1⟩ := spec_l3Down.mono_l k
    refine ⟨?_, ?_⟩ <;> intros <;> first | unfold spec_l3Down.f | unfold spec_l3Down.j0
    repeat' first
      | (with_reducible first | exact ih0 .. | exact ih1 .. | exact spec_l2Split.mono .. | exact spec_l3Candidate.mono .. | exact spec_l3Claim.mono .. | exact spec_l3Inside.mono .. | exact LeO.refl _ | exact LeO.none _ | refine LeO.ite ?_ ?_ | refine LeO.bind ?_ (fun _ => ?_))
      | exact ih0 .. | exact ih1 .. | exact spec_l2Split.mono .. | exact spec_l3Candidate.mono .. | exact spec_l3Claim.mono .. | exact spec_l3Inside.mono .. | exact LeO.none _ | refine LeO.ite ?_ ?_ | refine LeO.bind ?_ (fun _ => ?_)
theorem spec_l3Down.mono : ∀ a0 a1 a2 a3 a4 k, LeO (spec_l3Down.f k a0 a1 a2 a3 a4) (spec_l3Down.f (k + 1) a0 a1 a2 a3 a4) := by
  intro a0 a1 a2 a3 a4 k
  obtain ⟨ih0, ih1⟩ := spec_l3Down.mono_l k
  exact ih0 a0 a1 a2 a3 a4
set_option maxHeartbeats 8000000 in
set_option maxRecDepth 100000 in
theorem spec_l3Down.calls (k : Nat) : ∀ (a0 : Int) (A1 : Option Addr) (c1 : Nat) (l1 : List ByteArray) (a2 : ByteArray) (a3 : Int) (A4 : Option Addr) (c4 : Nat) (l4 : List ByteArray) (r1 : Bool) (r2 : ByteArray) (r3 : ByteArray) (w : World) (hr1 : Kd.C Kd.string w A1 l1.length l1) (hc1 : l1.length ≤ c1) (hr4 : Kd.C Kd.string w A4 l4.length l4) (hc4 : l4.length ≤ c4) (h : spec_l3Down.f k a0 l1 a2 a3 l4 = some (r1, r2, r3)),
    Calls Tryz.prog 57 #[.int .i64 a0, .slice A1 l1.length c1, .string a2, .int .i64 a3, .slice A4 l4.length c4] w fun e w' => e = .returned (.agg #[.bool r1, .string r2, .string r3]) ∧ Below w.heap.size w w' := by
  induction k using Nat.strongRecOn with
  | _ k ih =>
  intro a0 A1 c1 l1 a2 a3 A4 c4 l4 r1 r2 r3 w hr1 hc1 hr4 hc4 h
  cases k with
  | zero => exact absurd h (by simp [spec_l3Down.f])
  | succ k =>
  simp only [spec_l3Down.f] at h; have hu38 := Tryz.underlying38; have HR1 := qK hr1; have HC1 := qK hc1; clear hr1 hc1; have HR4 := qK hr4; have HC4 := qK hc4; clear hr4 hc4; have HB := qK (Below.refl w.heap.size w); have H : (if (l1.length : Int) = 1 then (if 0 < (l1.length : Int) then (if a2.toList = (rdOf ByteArray.empty l1 0).toList then (some (false, (⟨#[]⟩ : ByteArray), (⟨#[]⟩ : ByteArray))) else (if 1 + a2.size ≤ 9223372036854775807 then (if 1 + (rdOf ByteArray.empty l1 0).size ≤ 9223372036854775807 then ((spec_l3Candidate.f k a0 ((⟨#[0]⟩ : ByteArray) ++ a2) ((⟨#[0]⟩ : ByteArray) ++ (rdOf ByteArray.empty l1 0))).bind fun bt414 => (some (bt414.1, bt414.2.1, bt414.2.2))) else (none)) else (none))) else (none)) else ((spec_l2Split.f k (l1.length : Int)).bind fun t417 => (if 0 ≤ (wrap64 ((l4.length : Int) - 1)) then (if (wrap64 ((l4.length : Int) - 1)) < (l4.length : Int) then (if (wrap64 ((l4.length : Int) - 1)) ≤ (l4.length : Int) then (if a3 < t417 then ((spec_l3Claim.f k a0 a2 a3 t417 (l4.take ((wrap64 ((l4.length : Int) - 1)) : Int).toNat)).bind fun t420 => (if 1 + t420.size ≤ 9223372036854775807 then (if ((⟨#[1]⟩ : ByteArray) ++ t420).size + (rdOf ByteArray.empty l4 (wrap64 ((l4.length : Int) - 1))).size ≤ 9223372036854775807 then (spec_l3Down.j0 k a0 l1 a2 a3 t417 (l4.take ((wrap64 ((l4.length : Int) - 1)) : Int).toNat) (((⟨#[1]⟩ : ByteArray) ++ t420) ++ (rdOf ByteArray.empty l4 (wrap64 ((l4.length : Int) - 1))))) else (none)) else (none))) else (if 1 + (rdOf ByteArray.empty l4 (wrap64 ((l4.length : Int) - 1))).size ≤ 9223372036854775807 then ((spec_l3Claim.f k a0 a2 (wrap64 (a3 - t417)) (wrap64 ((l1.length : Int) - t417)) (l4.take ((wrap64 ((l4.length : Int) - 1)) : Int).toNat)).bind fun t421 => (if ((⟨#[1]⟩ : ByteArray) ++ (rdOf ByteArray.empty l4 (wrap64 ((l4.length : Int) - 1)))).size + t421.size ≤ 9223372036854775807 then (spec_l3Down.j0 k a0 l1 a2 a3 t417 (l4.take ((wrap64 ((l4.length : Int) - 1)) : Int).toNat) (((⟨#[1]⟩ : ByteArray) ++ (rdOf ByteArray.empty l4 (wrap64 ((l4.length : Int) - 1)))) ++ t421)) else (none))) else (none))) else (none)) else (none)) else (none)))) = some (r1, r2, r3) := h; clear h; by_cases c6 : (l1.length : Int) = 1
  · rw [if_pos c6] at H; obtain ⟨c6b0, c6b1⟩ := qe c6; clear c6; by_cases c7 : 0 < (l1.length : Int)
    · rw [if_pos c7] at H; have c7b0 := decide_eq_true c7; have c7b1 : decide (0 < l1.length) = true := decide_eq_true (by omega); clear c7; by_cases c8 : a2.toList = (rdOf ByteArray.empty l1 0).toList
      · rw [if_pos c8] at H; obtain ⟨c8b0, c8b1⟩ := qe c8; clear c8; simp only [Option.some.injEq, Prod.mk.injEq] at H; obtain ⟨rfl, rfl, rfl⟩ := H; go_enter Tryz.func57, Tryz.ntmps57; go_wp2_with (first | ((with_reducible refine gds (N := 10) rfl ?_); refine qbx 10 #[.bool false, .string (⟨#[]⟩ : ByteArray), .string (⟨#[]⟩ : ByteArray)] 38 ?_; intro gb411 hg w9 hbox hb; have BK411 := qK (hbox); have GW411 := qK ((qW : w.heap.size ≤ gb411)); have GE411 := GW411; replace HB := qHB HB hb; clear hb hbox hg; have p412 : 0 ≤ (0 : Int) := (by omega); have q412 : 0 < (l1.length : Int) := of_decide_eq_true qa; obtain ⟨ad412, e412, hx412_0⟩ := Kd.at_string HR1.out 0 p412 q412; cases e412; have qi412 : (0 < l1.length) = True := eq_true (by omega); (try rw [show ((0 : Int)).toNat = 0 from rfl] at hx412_0); (try rw [Addr.add_zero'] at hx412_0); replace hx412_0 := qcl HB hx412_0; replace p412 := eq_true p412; replace q412 := eq_true q412; have hz10 := qz3 BK411.out)); refine bodyPost_ret (results_cell_row rfl _ _ gb411 38 #[.bool false, .string (⟨#[]⟩ : ByteArray), .string (⟨#[]⟩ : ByteArray)] (0, 0) _ rfl qbk Tryz.underlying38 rfl (by kernel_rfl)) rfl ?_; exact ⟨qR, qB⟩
      · rw [if_neg c8] at H; obtain ⟨c8b0, c8b1⟩ := qn c8; by_cases c11 : 1 + a2.size ≤ 9223372036854775807
        · rw [if_pos c11] at H; have c11b0 := eq_true c11; have c11b1 := decide_eq_true c11; (try have c11b2 : (9223372036854775807 < 1 + a2.size) = False := eq_false (Nat.not_lt.2 c11)); by_cases c12 : 1 + (rdOf ByteArray.empty l1 0).size ≤ 9223372036854775807
          · rw [if_pos c12] at H; have c12b0 := eq_true c12; have c12b1 := decide_eq_true c12; (try have c12b2 : (9223372036854775807 < 1 + (rdOf ByteArray.empty l1 0).size) = False := eq_false (Nat.not_lt.2 c12)); obtain ⟨⟨t414, t415, t416⟩, A13, H⟩ := qbi H; simp only [Option.some.injEq, Prod.mk.injEq] at H; obtain ⟨rfl, rfl, rfl⟩ := H; go_enter Tryz.func57, Tryz.ntmps57; go_wp2_with (first | ((with_reducible refine gds (N := 10) rfl ?_); refine qbx 10 #[.bool false, .string (⟨#[]⟩ : ByteArray), .string (⟨#[]⟩ : ByteArray)] 38 ?_; intro gb411 hg w14 hbox hb; have BK411 := qK (hbox); have GW411 := qK ((qW : w.heap.size ≤ gb411)); have GE411 := GW411; replace HB := qHB HB hb; clear hb hbox hg; have p412 : 0 ≤ (0 : Int) := (by omega); have q412 : 0 < (l1.length : Int) := of_decide_eq_true qa; obtain ⟨ad412, e412, hx412_0⟩ := Kd.at_string HR1.out 0 p412 q412; cases e412; have qi412 : (0 < l1.length) = True := eq_true (by omega); (try rw [show ((0 : Int)).toNat = 0 from rfl] at hx412_0); (try rw [Addr.add_zero'] at hx412_0); replace hx412_0 := qcl HB hx412_0; replace p412 := eq_true p412; replace q412 := eq_true q412; have p413 : 0 ≤ (0 : Int) := (by omega); have q413 : 0 < (l1.length : Int) := of_decide_eq_true qa; obtain ⟨ad413, e413, hx413_0⟩ := Kd.at_string HR1.out 0 p413 q413; obtain rfl : ad412 = ad413 := (by injection e413); have qi413 : (0 < l1.length) = True := eq_true (by omega); (try rw [show ((0 : Int)).toNat = 0 from rfl] at hx413_0); (try rw [Addr.add_zero'] at hx413_0); replace hx413_0 := qcl HB hx413_0; replace p413 := eq_true p413; replace q413 := eq_true q413) | ((with_reducible refine gcl (f := 99) rfl ?_); refine gL 34 Tryz.func99 #[.int .i64 a0, .string ((⟨#[0]⟩ : ByteArray) ++ a2), .string ((⟨#[0]⟩ : ByteArray) ++ (rdOf ByteArray.empty l1 0))] ?_; (with_reducible refine (spec_l3Candidate.calls k a0 ((⟨#[0]⟩ : ByteArray) ++ a2) ((⟨#[0]⟩ : ByteArray) ++ (rdOf ByteArray.empty l1 0)) t414 t415 t416 _ A13.out).mono ?_); rintro e w15 ⟨rfl, hb⟩; refine ⟨_, rfl, ?_⟩; replace BK411 := qbb BK411 hb; replace HB := qHB HB hb; (try clear hb); have hz16 := qz3 BK411.out)); refine bodyPost_ret (results_cell_row rfl _ _ gb411 38 #[.bool t414, .string t415, .string t416] (0, 0) _ rfl qbk Tryz.underlying38 rfl (by kernel_rfl)) rfl ?_; exact ⟨qR, qB⟩
          · rw [if_neg c12] at H; exact absurd H (by simp)
        · rw [if_neg c11] at H; exact absurd H (by simp)
    · rw [if_neg c7] at H; exact absurd H (by simp)
  · rw [if_neg c6] at H; obtain ⟨c6b0, c6b1⟩ := qn c6; obtain ⟨t417, A17, H⟩ := qbi H; obtain ⟨ji18, hji18⟩ : ∃ j_ : Int, (wrap64 ((l4.length : Int) - 1)) = j_ := ⟨_, rfl⟩; (replace H : (if 0 ≤ (ji18) then (if (ji18) < (l4.length : Int) then (if (ji18) ≤ (l4.length : Int) then (if a3 < t417 then ((spec_l3Claim.f k a0 a2 a3 t417 (l4.take ((ji18) : Int).toNat)).bind fun t420 => (if 1 + t420.size ≤ 9223372036854775807 then (if ((⟨#[1]⟩ : ByteArray) ++ t420).size + (rdOf ByteArray.empty l4 (ji18)).size ≤ 9223372036854775807 then (spec_l3Down.j0 k a0 l1 a2 a3 t417 (l4.take ((ji18) : Int).toNat) (((⟨#[1]⟩ : ByteArray) ++ t420) ++ (rdOf ByteArray.empty l4 (ji18)))) else (none)) else (none))) else (if 1 + (rdOf ByteArray.empty l4 (ji18)).size ≤ 9223372036854775807 then ((spec_l3Claim.f k a0 a2 (wrap64 (a3 - t417)) (wrap64 ((l1.length : Int) - t417)) (l4.take ((ji18) : Int).toNat)).bind fun t421 => (if ((⟨#[1]⟩ : ByteArray) ++ (rdOf ByteArray.empty l4 (ji18))).size + t421.size ≤ 9223372036854775807 then (spec_l3Down.j0 k a0 l1 a2 a3 t417 (l4.take ((ji18) : Int).toNat) (((⟨#[1]⟩ : ByteArray) ++ (rdOf ByteArray.empty l4 (ji18))) ++ t421)) else (none))) else (none))) else (none)) else (none)) else (none)) = some (r1, r2, r3) := by first | (rw [hji18] at H; exact H) | (simp only [hji18] at H ⊢; exact H)); (try rw [hji18] at A17); have hji18w : (IntKind.i64.wrap ((l4.length : Int) - 1)) = ji18 := (i64_w _).trans hji18; by_cases c19 : 0 ≤ (ji18)
    · rw [if_pos c19] at H; have c19b0 := decide_eq_true c19; clear c19; by_cases c20 : (ji18) < (l4.length : Int)
      · rw [if_pos c20] at H; have c20b0 := decide_eq_true c20; clear c20; have c21b0 := eq_true (of_decide_eq_true qa : 0 ≤ (ji18)); by_cases c22 : (ji18) ≤ (l4.length : Int)
        · rw [if_pos c22] at H; have c22b0 := eq_true c22; have c22b1 := decide_eq_true c22; clear c22; have HC23 := qK H; clear H; go_enter Tryz.func57, Tryz.ntmps57; go_upto_if 50 with (first | ((with_reducible refine gds (N := 10) rfl ?_); refine qbx 10 #[.bool false, .string (⟨#[]⟩ : ByteArray), .string (⟨#[]⟩ : ByteArray)] 38 ?_; intro gb411 hg w24 hbox hb; have BK411 := qK (hbox); have GW411 := qK ((qW : w.heap.size ≤ gb411)); have GE411 := GW411; replace HB := qHB HB hb; clear hb hbox hg) | ((with_reducible refine gcl (f := 32) rfl ?_); refine gL 36 Tryz.func32 #[.int .i64 (l1.length : Int)] ?_; (with_reducible refine (spec_l2Split.calls k (l1.length : Int) t417 _ A17.out).mono ?_); rintro e w' ⟨rfl, ⟨nd, rfl⟩⟩; refine ⟨_, rfl, ?_⟩; have p418 : 0 ≤ ((ji18) : Int) := of_decide_eq_true qa; have q418 : (ji18) < (l4.length : Int) := of_decide_eq_true qa; obtain ⟨ad418, e418, hx418_0⟩ := Kd.at_string HR4.out (ji18) p418 q418; cases e418; replace hx418_0 := qcl HB hx418_0; replace p418 := eq_true p418; replace q418 := eq_true q418; obtain ⟨i025, hi025, _, hsz25, _⟩ := info_parts info9; obtain ⟨hcut25, hA25, hC25⟩ := print_take_of (P := Tryz.prog) Value.string (⟨#[]⟩ : ByteArray) 23 9 .i64 Tryz.underlying23 hi025 hsz25 (some ad418) c4 l4 (ji18) (of_decide_eq_true qa) (of_decide_eq_true qa) HC4.out; have HR419 := qK (Kd.C_of_reads (h1 := fun _ => rfl) (hA25 _ (Kd.reads_of_C HR4.out))); have HC419 := qK hC25; clear hA25 hC25 hi025 hsz25)); (try simp only [Act.put, List.setIfInBounds_toArray, List.set_cons_zero, List.set_cons_succ]); go_cut [15] (fun v15 wc => ∃ (kq : Nat) (x15_22 : ByteArray), v15 = .string x15_22 ∧ Aside0 (spec_l3Down.j0 kq a0 l1 a2 a3 t417 (l4.take ((ji18) : Int).toNat) x15_22 = some (r1, r2, r3)) ∧ Aside0 (kq ≤ k) ∧ Aside0 (wc.heap[gb411]? = some (.cells #[.bool false, .string (⟨#[]⟩ : ByteArray), .string (⟨#[]⟩ : ByteArray)] 38 (0, 0))) ∧ Aside0 (Below w.heap.size w wc))
          case first =>
            have H := HC23.out; clear HC23; by_cases c26 : a3 < t417
            · rw [if_pos c26] at H; have c26b0 := decide_eq_true c26; clear c26; (first | rw [c26b0] | (simp only [i64_w, i32_w]; rw [c26b0]) | skip); obtain ⟨t420, A27, H⟩ := qbi H; by_cases c28 : 1 + t420.size ≤ 9223372036854775807
              · rw [if_pos c28] at H; have c28b0 := eq_true c28; have c28b1 := decide_eq_true c28; (try have c28b2 : (9223372036854775807 < 1 + t420.size) = False := eq_false (Nat.not_lt.2 c28)); by_cases c29 : ((⟨#[1]⟩ : ByteArray) ++ t420).size + (rdOf ByteArray.empty l4 (ji18)).size ≤ 9223372036854775807
                · rw [if_pos c29] at H; have c29b0 := eq_true c29; have c29b1 := decide_eq_true c29; (try have c29b2 : (9223372036854775807 < ((⟨#[1]⟩ : ByteArray) ++ t420).size + (rdOf ByteArray.empty l4 (ji18)).size) = False := eq_false (Nat.not_lt.2 c29)); (try have c29b3 : (9223372036854775807 < 1 + t420.size + (rdOf ByteArray.empty l4 (ji18)).size) = False := by have h_ := c29b2; simp only [ByteArray.size_append] at h_; exact h_); have H' := qK H; clear H; go_wp2_with (first | ((with_reducible refine gcl (f := 48) rfl ?_); refine goesL_ (some 56) rfl rfl Tryz.func48 (by kernel_rfl) rfl #[.int .i64 a0, .string a2, .int .i64 a3, .int .i64 t417, .slice (some ad418) (l4.take ((ji18) : Int).toNat).length c4] rfl (by (try simp only [List.map_toArray, List.map_cons, List.map_nil]); first | done | (rw [show (l4.take ((ji18) : Int).toNat).length = (ji18).toNat from (by rw [List.length_take]; have h_ : ((ji18) : Int) ≤ (l4.length : Int) := of_decide_eq_true qa; omega)] <;> rfl) | (simp only [hji18]; rfl) | rfl | (simp only [List.length_drop, List.length_take]; rfl)) ?_; (with_reducible refine (spec_l3Claim.calls k a0 a2 a3 t417 _ _ (l4.take ((ji18) : Int).toNat) t420 _ ?_ ?_ A27.out).mono ?_); exact qC HR419; exact HC419.out; rintro e w30 ⟨rfl, hb⟩; refine ⟨_, rfl, ?_⟩; replace BK411 := qbb BK411 hb; replace HB := qHB HB hb; (try clear hb))); go_meet
                  case rel => exact ⟨_, (((⟨#[1]⟩ : ByteArray) ++ t420) ++ (rdOf ByteArray.empty l4 (ji18))), (by first | rfl | (simp; done) | (simp only [← hji18] <;> (first | rfl | simp)) | (simp [*]; done)), H', ⟨by first | omega | exact Nat.le_refl _⟩, ⟨by (with_reducible repeat (first | refine bdN ?_ _ | refine bkD ?_ | refine bkA ?_ _)); exact BK411.out⟩, ⟨qB⟩⟩
                · rw [if_neg c29] at H; exact absurd H (by simp)
              · rw [if_neg c28] at H; exact absurd H (by simp)
            · rw [if_neg c26] at H; have c26b0 := decide_eq_false c26; clear c26; (first | rw [c26b0] | (simp only [i64_w, i32_w]; rw [c26b0]) | skip); by_cases c31 : 1 + (rdOf ByteArray.empty l4 (ji18)).size ≤ 9223372036854775807
              · rw [if_pos c31] at H; have c31b0 := eq_true c31; have c31b1 := decide_eq_true c31; (try have c31b2 : (9223372036854775807 < 1 + (rdOf ByteArray.empty l4 (ji18)).size) = False := eq_false (Nat.not_lt.2 c31)); obtain ⟨t421, A32, H⟩ := qbi H; by_cases c33 : ((⟨#[1]⟩ : ByteArray) ++ (rdOf ByteArray.empty l4 (ji18))).size + t421.size ≤ 9223372036854775807
                · rw [if_pos c33] at H; have c33b0 := eq_true c33; have c33b1 := decide_eq_true c33; (try have c33b2 : (9223372036854775807 < ((⟨#[1]⟩ : ByteArray) ++ (rdOf ByteArray.empty l4 (ji18))).size + t421.size) = False := eq_false (Nat.not_lt.2 c33)); (try have c33b3 : (9223372036854775807 < 1 + (rdOf ByteArray.empty l4 (ji18)).size + t421.size) = False := by have h_ := c33b2; simp only [ByteArray.size_append] at h_; exact h_); have H' := qK H; clear H; go_wp2_with (first | ((with_reducible refine gcl (f := 48) rfl ?_); refine goesL_ (some 71) rfl rfl Tryz.func48 (by kernel_rfl) rfl #[.int .i64 a0, .string a2, .int .i64 (wrap64 (a3 - t417)), .int .i64 (wrap64 ((l1.length : Int) - t417)), .slice (some ad418) (l4.take ((ji18) : Int).toNat).length c4] rfl (by (try simp only [List.map_toArray, List.map_cons, List.map_nil]); first | done | (rw [show (l4.take ((ji18) : Int).toNat).length = (ji18).toNat from (by rw [List.length_take]; have h_ : ((ji18) : Int) ≤ (l4.length : Int) := of_decide_eq_true qa; omega)] <;> rfl) | (simp only [hji18]; rfl) | rfl | (simp only [List.length_drop, List.length_take]; rfl)) ?_; (with_reducible refine (spec_l3Claim.calls k a0 a2 (wrap64 (a3 - t417)) (wrap64 ((l1.length : Int) - t417)) _ _ (l4.take ((ji18) : Int).toNat) t421 _ ?_ ?_ A32.out).mono ?_); exact qC HR419; exact HC419.out; rintro e w34 ⟨rfl, hb⟩; refine ⟨_, rfl, ?_⟩; replace BK411 := qbb BK411 hb; replace HB := qHB HB hb; (try clear hb))); go_meet
                  case rel => exact ⟨_, (((⟨#[1]⟩ : ByteArray) ++ (rdOf ByteArray.empty l4 (ji18))) ++ t421), (by first | rfl | (simp; done) | (simp only [← hji18] <;> (first | rfl | simp)) | (simp [*]; done)), H', ⟨by first | omega | exact Nat.le_refl _⟩, ⟨by (with_reducible repeat (first | refine bdN ?_ _ | refine bkD ?_ | refine bkA ?_ _)); exact BK411.out⟩, ⟨qB⟩⟩
                · rw [if_neg c33] at H; exact absurd H (by simp)
              · rw [if_neg c31] at H; exact absurd H (by simp)
          case rest =>
            clear HC23; (try clear c1); (try clear c4); (try clear c6); (try clear c6b0); (try clear c6b1); (try clear hx418_0); (try clear p418); (try clear q418); obtain ⟨kq, x15_22, rfl, HA, HJ22, BK411, HB⟩ := hcut
            cases kq with
            | zero => exact absurd HA.out (by simp [spec_l3Down.j0])
            | succ kj22 =>
              have H := HA.out; clear HA; simp only [spec_l3Down.j0] at H; obtain ⟨t422, A35, H⟩ := qbi H; by_cases c36 : x15_22.toList = t422.toList
              · rw [if_pos c36] at H; obtain ⟨c36b0, c36b1⟩ := qe c36; clear c36; by_cases c37 : a3 < t417
                · rw [if_pos c37] at H; have c37b0 := decide_eq_true c37; clear c37; by_cases c38 : 0 ≤ t417
                  · rw [if_pos c38] at H; have c38b0 := eq_true c38; have c38b1 := decide_eq_true c38; clear c38; by_cases c39 : t417 ≤ (l1.length : Int)
                    · rw [if_pos c39] at H; have c39b0 := eq_true c39; have c39b1 := decide_eq_true c39; clear c39; obtain ⟨⟨t427, t428, t429⟩, A40, H⟩ := qbi H; simp only [Option.some.injEq, Prod.mk.injEq] at H; obtain ⟨rfl, rfl, rfl⟩ := H; go_wp2_with (first | ((with_reducible refine gcl (f := 100) rfl ?_); refine gL 76 Tryz.func100 #[.int .i64 a0, .slice A1 l1.length c1, .int .i64 t417] ?_; (with_reducible refine (spec_l3Inside.calls kj22 a0 _ _ l1 t417 t422 _ ?_ ?_ A35.out).mono ?_); exact qC HR1; exact HC1.out; rintro e w41 ⟨rfl, hb⟩; refine ⟨_, rfl, ?_⟩; replace BK411 := qbb BK411 hb; replace HB := qHB HB hb; (try clear hb); obtain ⟨i042, hi042, _, hsz42, _⟩ := info_parts info9; obtain ⟨hcut42, hA42, hC42⟩ := print_take_of (P := Tryz.prog) Value.string (⟨#[]⟩ : ByteArray) 23 9 .i64 Tryz.underlying23 hi042 hsz42 A1 c1 l1 t417 (of_decide_eq_true qa) (of_decide_eq_true qa) HC1.out; have HR426 := qK (Kd.C_of_reads (h1 := fun _ => rfl) (hA42 _ (Kd.reads_of_C HR1.out))); have HC426 := qK hC42; clear hA42 hC42 hi042 hsz42) | ((with_reducible refine gcl (f := 57) rfl ?_); refine goesL_ (some 94) rfl rfl Tryz.func57 (by kernel_rfl) rfl #[.int .i64 a0, .slice A1 (l1.take (t417 : Int).toNat).length c1, .string a2, .int .i64 a3, .slice (some ad418) (l4.take ((ji18) : Int).toNat).length c4] rfl (by (try simp only [List.map_toArray, List.map_cons, List.map_nil]); first | done | (rw [show (l1.take (t417 : Int).toNat).length = t417.toNat from (by rw [List.length_take]; have h_ : (t417 : Int) ≤ (l1.length : Int) := of_decide_eq_true qa; omega), show (l4.take ((ji18) : Int).toNat).length = (ji18).toNat from (by rw [List.length_take]; have h_ : ((ji18) : Int) ≤ (l4.length : Int) := of_decide_eq_true qa; omega)] <;> rfl) | (rw [show (l1.take (t417 : Int).toNat).length = t417.toNat from (by rw [List.length_take]; have h_ : (t417 : Int) ≤ (l1.length : Int) := of_decide_eq_true qa; omega)] <;> rfl) | (rw [show (l4.take ((ji18) : Int).toNat).length = (ji18).toNat from (by rw [List.length_take]; have h_ : ((ji18) : Int) ≤ (l4.length : Int) := of_decide_eq_true qa; omega)] <;> rfl) | (simp only [hji18]; rfl) | rfl | (simp only [List.length_drop, List.length_take]; rfl)) ?_; (with_reducible refine (ih kj22 (by have := HJ22.out; omega) a0 _ _ (l1.take (t417 : Int).toNat) a2 a3 _ _ (l4.take ((ji18) : Int).toNat) t427 t428 t429 _ ?side1 ?side2 ?side3 ?side4 A40.out).mono ?_); (case side1 => exact qC HR426); (case side2 => exact HC426.out); (case side3 => exact qC HR419); (case side4 => exact HC419.out); rintro e w43 ⟨rfl, hb⟩; refine ⟨_, rfl, ?_⟩; replace BK411 := qbb BK411 hb; replace HB := qHB HB hb; (try clear hb); have hz44 := qz3 BK411.out)); refine bodyPost_ret (results_cell_row rfl _ _ gb411 38 #[.bool t427, .string t428, .string t429] (0, 0) _ rfl qbk Tryz.underlying38 rfl (by kernel_rfl)) rfl ?_; exact ⟨by first | rfl | (simp [eWn, eWs] <;> rfl) | (simp only [← hji18]; first | rfl | (simp [eWn, eWs] <;> rfl)) | (simp [*, eWn, eWs] <;> rfl), qB⟩
                    · rw [if_neg c39] at H; exact absurd H (by simp)
                  · rw [if_neg c38] at H; exact absurd H (by simp)
                · rw [if_neg c37] at H; have c37b0 := decide_eq_false c37; clear c37; by_cases c45 : 0 ≤ t417
                  · rw [if_pos c45] at H; have c45b0 := eq_true c45; have c45b1 := decide_eq_true c45; clear c45; by_cases c46 : t417 ≤ (l1.length : Int)
                    · rw [if_pos c46] at H; have c46b0 := eq_true c46; have c46b1 := decide_eq_true c46; clear c46; obtain ⟨⟨t431, t432, t433⟩, A47, H⟩ := qbi H; simp only [Option.some.injEq, Prod.mk.injEq] at H; obtain ⟨rfl, rfl, rfl⟩ := H; go_wp2_with (first | ((with_reducible refine gcl (f := 100) rfl ?_); refine gL 76 Tryz.func100 #[.int .i64 a0, .slice A1 l1.length c1, .int .i64 t417] ?_; (with_reducible refine (spec_l3Inside.calls kj22 a0 _ _ l1 t417 t422 _ ?_ ?_ A35.out).mono ?_); exact qC HR1; exact HC1.out; rintro e w48 ⟨rfl, hb⟩; refine ⟨_, rfl, ?_⟩; replace BK411 := qbb BK411 hb; replace HB := qHB HB hb; (try clear hb); obtain ⟨i049, hi049, _, hsz49, _⟩ := info_parts info9; obtain ⟨A49, hcut49, hA49, hC49⟩ := print_drop_of (P := Tryz.prog) Value.string (⟨#[]⟩ : ByteArray) 23 9 .i64 Tryz.underlying23 hi049 hsz49 A1 c1 l1 t417 (of_decide_eq_true qa) (of_decide_eq_true qa) HC1.out; have HR430 := qK (Kd.C_of_reads (h1 := fun _ => rfl) (hA49 _ (Kd.reads_of_C HR1.out))); have HC430 := qK hC49; clear hA49 hC49 hi049 hsz49) | ((with_reducible refine gcl (f := 57) rfl ?_); refine goesL_ (some 104) rfl rfl Tryz.func57 (by kernel_rfl) rfl #[.int .i64 a0, .slice A49 (l1.drop (t417 : Int).toNat).length (c1 - t417.toNat), .string a2, .int .i64 (wrap64 (a3 - t417)), .slice (some ad418) (l4.take ((ji18) : Int).toNat).length c4] rfl (by (try simp only [List.map_toArray, List.map_cons, List.map_nil]); first | done | (rw [show (l1.drop (t417 : Int).toNat).length = (l1.length - t417.toNat) from List.length_drop, show (l4.take ((ji18) : Int).toNat).length = (ji18).toNat from (by rw [List.length_take]; have h_ : ((ji18) : Int) ≤ (l4.length : Int) := of_decide_eq_true qa; omega)] <;> rfl) | (rw [show (l1.drop (t417 : Int).toNat).length = (l1.length - t417.toNat) from List.length_drop] <;> rfl) | (rw [show (l4.take ((ji18) : Int).toNat).length = (ji18).toNat from (by rw [List.length_take]; have h_ : ((ji18) : Int) ≤ (l4.length : Int) := of_decide_eq_true qa; omega)] <;> rfl) | (simp only [hji18]; rfl) | rfl | (simp only [List.length_drop, List.length_take]; rfl)) ?_; (with_reducible refine (ih kj22 (by have := HJ22.out; omega) a0 _ _ (l1.drop (t417 : Int).toNat) a2 (wrap64 (a3 - t417)) _ _ (l4.take ((ji18) : Int).toNat) t431 t432 t433 _ ?side1 ?side2 ?side3 ?side4 A47.out).mono ?_); (case side1 => exact qC HR430); (case side2 => exact HC430.out); (case side3 => exact qC HR419); (case side4 => exact HC419.out); rintro e w50 ⟨rfl, hb⟩; refine ⟨_, rfl, ?_⟩; replace BK411 := qbb BK411 hb; replace HB := qHB HB hb; (try clear hb); have hz51 := qz3 BK411.out)); refine bodyPost_ret (results_cell_row rfl _ _ gb411 38 #[.bool t431, .string t432, .string t433] (0, 0) _ rfl qbk Tryz.underlying38 rfl (by kernel_rfl)) rfl ?_; exact ⟨by first | rfl | (simp [eWn, eWs] <;> rfl) | (simp only [← hji18]; first | rfl | (simp [eWn, eWs] <;> rfl)) | (simp [*, eWn, eWs] <;> rfl), qB⟩
                    · rw [if_neg c46] at H; exact absurd H (by simp)
                  · rw [if_neg c45] at H; exact absurd H (by simp)
              · rw [if_neg c36] at H; obtain ⟨c36b0, c36b1⟩ := qn c36; obtain ⟨⟨t423, t424, t425⟩, A52, H⟩ := qbi H; simp only [Option.some.injEq, Prod.mk.injEq] at H; obtain ⟨rfl, rfl, rfl⟩ := H; go_wp2_with (first | ((with_reducible refine gcl (f := 100) rfl ?_); refine gL 76 Tryz.func100 #[.int .i64 a0, .slice A1 l1.length c1, .int .i64 t417] ?_; (with_reducible refine (spec_l3Inside.calls kj22 a0 _ _ l1 t417 t422 _ ?_ ?_ A35.out).mono ?_); exact qC HR1; exact HC1.out; rintro e w53 ⟨rfl, hb⟩; refine ⟨_, rfl, ?_⟩; replace BK411 := qbb BK411 hb; replace HB := qHB HB hb; (try clear hb)) | ((with_reducible refine gcl (f := 99) rfl ?_); refine gL 83 Tryz.func99 #[.int .i64 a0, .string x15_22, .string t422] ?_; (with_reducible refine (spec_l3Candidate.calls kj22 a0 x15_22 t422 t423 t424 t425 _ A52.out).mono ?_); rintro e w54 ⟨rfl, hb⟩; refine ⟨_, rfl, ?_⟩; replace BK411 := qbb BK411 hb; replace HB := qHB HB hb; (try clear hb); have hz55 := qz3 BK411.out)); refine bodyPost_ret (results_cell_row rfl _ _ gb411 38 #[.bool t423, .string t424, .string t425] (0, 0) _ rfl qbk Tryz.underlying38 rfl (by kernel_rfl)) rfl ?_; exact ⟨by first | rfl | (simp [eWn, eWs] <;> rfl) | (simp only [← hji18]; first | rfl | (simp [eWn, eWs] <;> rfl)) | (simp [*, eWn, eWs] <;> rfl), qB⟩
        · rw [if_neg c22] at H; exact absurd H (by simp)
      · rw [if_neg c20] at H; exact absurd H (by simp)
    · rw [if_neg c19] at H; exact absurd H (by simp)
def spec_CollidePath.f (k : Nat) (a0 : Int) (l1 : List ByteArray) (a2 : ByteArray) (a3 : Int) (l4 : List ByteArray) : Option (Bool × ByteArray × ByteArray) := (spec_l3PathFits.f k a0 a3 (l1.length : Int) l4).bind fun t435 => (if t435 = true then ((spec_l3Down.f k a0 l1 a2 a3 l4).bind fun bt436 => (some (bt436.1, bt436.2.1, bt436.2.2))) else (some (false, (⟨#[]⟩ : ByteArray), (⟨#[]⟩ : ByteArray))))
theorem spec_CollidePath.mono : ∀ a0 a1 a2 a3 a4 k, LeO (spec_CollidePath.f k a0 a1 a2 a3 a4) (spec_CollidePath.f (k + 1) a0 a1 a2 a3 a4) := by
  intro a0 a1 a2 a3 a4 k
  unfold spec_CollidePath.f
  repeat' first
    | (with_reducible first | exact spec_l3Down.mono .. | exact spec_l3PathFits.mono .. | exact LeO.refl _ | exact LeO.none _ | refine LeO.ite ?_ ?_ | refine LeO.bind ?_ (fun _ => ?_))
    | exact spec_l3Down.mono .. | exact spec_l3PathFits.mono .. | exact LeO.none _ | refine LeO.ite ?_ ?_ | refine LeO.bind ?_ (fun _ => ?_)
set_option maxHeartbeats 8000000 in
set_option maxRecDepth 100000 in
theorem spec_CollidePath.calls (k : Nat) (a0 : Int) (A1 : Option Addr) (c1 : Nat) (l1 : List ByteArray) (a2 : ByteArray) (a3 : Int) (A4 : Option Addr) (c4 : Nat) (l4 : List ByteArray) (r1 : Bool) (r2 : ByteArray) (r3 : ByteArray) (w : World) (hr1 : Kd.C Kd.string w A1 l1.length l1) (hc1 : l1.length ≤ c1) (hr4 : Kd.C Kd.string w A4 l4.length l4) (hc4 : l4.length ≤ c4) (h : spec_CollidePath.f k a0 l1 a2 a3 l4 = some (r1, r2, r3)) :
    Calls Tryz.prog 17 #[.int .i64 a0, .slice A1 l1.length c1, .string a2, .int .i64 a3, .slice A4 l4.length c4] w fun e w' => e = .returned (.agg #[.bool r1, .string r2, .string r3]) ∧ Below w.heap.size w w' := by
  have hu38 := Tryz.underlying38; have HR1 := qK hr1; have HC1 := qK hc1; clear hr1 hc1; have HR4 := qK hr4; have HC4 := qK hc4; clear hr4 hc4; have HB := qK (Below.refl w.heap.size w); have H : ((spec_l3PathFits.f k a0 a3 (l1.length : Int) l4).bind fun t435 => (if t435 = true then ((spec_l3Down.f k a0 l1 a2 a3 l4).bind fun bt436 => (some (bt436.1, bt436.2.1, bt436.2.2))) else (some (false, (⟨#[]⟩ : ByteArray), (⟨#[]⟩ : ByteArray))))) = some (r1, r2, r3) := h; clear h; obtain ⟨t435, A6, H⟩ := qbi H; by_cases c7 : t435 = true
  · subst c7; rw [if_pos rfl] at H; obtain ⟨⟨t436, t437, t438⟩, A8, H⟩ := qbi H; simp only [Option.some.injEq, Prod.mk.injEq] at H; obtain ⟨rfl, rfl, rfl⟩ := H; go_enter Tryz.func17, Tryz.ntmps17; go_wp2_with (first | ((with_reducible refine gds (N := 10) rfl ?_); refine qbx 10 #[.bool false, .string (⟨#[]⟩ : ByteArray), .string (⟨#[]⟩ : ByteArray)] 38 ?_; intro gb434 hg w9 hbox hb; have BK434 := qK (hbox); have GW434 := qK ((qW : w.heap.size ≤ gb434)); have GE434 := GW434; replace HB := qHB HB hb; clear hb hbox hg) | ((with_reducible refine gcl (f := 47) rfl ?_); refine gL 16 Tryz.func47 #[.int .i64 a0, .int .i64 a3, .int .i64 (l1.length : Int), .slice A4 l4.length c4] ?_; (with_reducible refine (spec_l3PathFits.calls k a0 a3 (l1.length : Int) _ _ l4 true _ ?_ ?_ A6.out).mono ?_); exact qC HR4; exact HC4.out; rintro e w' ⟨rfl, ⟨nd, rfl⟩⟩; refine ⟨_, rfl, ?_⟩; (try (rw [drewN_self w9]; generalize hq_ : World.drewN w9 _ = w9; have n0_ : Aside0 (w9.heap[gb434]? = some (.cells #[.bool false, .string (⟨#[]⟩ : ByteArray), .string (⟨#[]⟩ : ByteArray)] 38 (0, 0))) := ⟨by rw [← hq_]; exact (qpk BK434)⟩; have n1_ : Aside0 (Below w.heap.size w w9) := ⟨by rw [← hq_]; exact qB⟩; clear BK434 HB hq_; have BK434 := n0_; have HB := n1_; clear n0_ n1_))) | ((with_reducible refine gcl (f := 57) rfl ?_); refine gL 24 Tryz.func57 #[.int .i64 a0, .slice A1 l1.length c1, .string a2, .int .i64 a3, .slice A4 l4.length c4] ?_; (with_reducible refine (spec_l3Down.calls k a0 _ _ l1 a2 a3 _ _ l4 t436 t437 t438 _ ?_ ?_ ?_ ?_ A8.out).mono ?_); exact qC HR1; exact HC1.out; exact qC HR4; exact HC4.out; rintro e w10 ⟨rfl, hb⟩; refine ⟨_, rfl, ?_⟩; replace BK434 := qbb BK434 hb; replace HB := qHB HB hb; (try clear hb); have hz11 := qz3 BK434.out)); refine bodyPost_ret (results_cell_row rfl _ _ gb434 38 #[.bool t436, .string t437, .string t438] (0, 0) _ rfl qbk Tryz.underlying38 rfl (by kernel_rfl)) rfl ?_; exact ⟨qR, qB⟩
  · replace c7 := Bool.eq_false_iff.mpr c7; subst c7; rw [if_neg qff] at H; simp only [Option.some.injEq, Prod.mk.injEq] at H; obtain ⟨rfl, rfl, rfl⟩ := H; go_enter Tryz.func17, Tryz.ntmps17; go_wp2_with (first | ((with_reducible refine gds (N := 10) rfl ?_); refine qbx 10 #[.bool false, .string (⟨#[]⟩ : ByteArray), .string (⟨#[]⟩ : ByteArray)] 38 ?_; intro gb434 hg w12 hbox hb; have BK434 := qK (hbox); have GW434 := qK ((qW : w.heap.size ≤ gb434)); have GE434 := GW434; replace HB := qHB HB hb; clear hb hbox hg) | ((with_reducible refine gcl (f := 47) rfl ?_); refine gL 16 Tryz.func47 #[.int .i64 a0, .int .i64 a3, .int .i64 (l1.length : Int), .slice A4 l4.length c4] ?_; (with_reducible refine (spec_l3PathFits.calls k a0 a3 (l1.length : Int) _ _ l4 false _ ?_ ?_ A6.out).mono ?_); exact qC HR4; exact HC4.out; rintro e w' ⟨rfl, ⟨nd, rfl⟩⟩; refine ⟨_, rfl, ?_⟩; (try (rw [drewN_self w12]; generalize hq_ : World.drewN w12 _ = w12; have n0_ : Aside0 (w12.heap[gb434]? = some (.cells #[.bool false, .string (⟨#[]⟩ : ByteArray), .string (⟨#[]⟩ : ByteArray)] 38 (0, 0))) := ⟨by rw [← hq_]; exact (qpk BK434)⟩; have n1_ : Aside0 (Below w.heap.size w w12) := ⟨by rw [← hq_]; exact qB⟩; clear BK434 HB hq_; have BK434 := n0_; have HB := n1_; clear n0_ n1_)); have hz13 := qz3 BK434.out)); refine bodyPost_ret (results_cell_row rfl _ _ gb434 38 #[.bool false, .string (⟨#[]⟩ : ByteArray), .string (⟨#[]⟩ : ByteArray)] (0, 0) _ rfl qbk Tryz.underlying38 rfl (by kernel_rfl)) rfl ?_; exact ⟨qR, qB⟩
def laws_hCollision.f (k : Nat) (a0 : Int) (a1_0 : Bool) (a1_1 : ByteArray) (a1_2 : ByteArray) : Option (Bool) := if a1_0 = true then (if a1_1.toList = a1_2.toList then (some false) else ((spec_Digest.f k a0 a1_1).bind fun t440 => ((spec_Digest.f k a0 a1_2).bind fun t441 => (some (t440.toList == t441.toList))))) else (some false)
theorem laws_hCollision.mono : ∀ a0 a1 a2 a3 k, LeO (laws_hCollision.f k a0 a1 a2 a3) (laws_hCollision.f (k + 1) a0 a1 a2 a3) := by
  intro a0 a1 a2 a3 k
  unfold laws_hCollision.f
  repeat' first
    | (with_reducible first | exact spec_Digest.mono .. | exact LeO.refl _ | exact LeO.none _ | refine LeO.ite ?_ ?_ | refine LeO.bind ?_ (fun _ => ?_))
    | exact spec_Digest.mono .. | exact LeO.none _ | refine LeO.ite ?_ ?_ | refine LeO.bind ?_ (fun _ => ?_)
def laws_hCollision.T1 : Bool × List (List Nat × List Nat) := (true, [([], []), ([0], [0]), ([1], [1]), ([2], [2]), ([3, 2], [2, 3]), ([2], [2]), ([5, 2], [2, 5]), ([4, 6, 2], [2, 4, 6]), ([2, 7], [2, 7]), ([8, 2], [8]), ([9], [9]), ([9], [9]), ([11, 9], [9, 11]), ([10, 12, 9, 9], [9, 10, 12]), ([9], [9]), ([9], [9]), ([15, 9], [9, 15]), ([14, 16, 13, 9], [9, 14, 16]), ([13, 17, 9], [9, 13, 17]), ([9, 18], [9, 18]), ([19, 17, 0, 1, 2, 3, 4, 5, 6, 7, 8, 9, 10, 11, 12, 13, 14, 15, 16, 17, 18, 19], [19])])
def laws_hCollision.B1 : List Nat := [0, 1, 3, 7, 15, 7, 39, 127, 255, 511, 1023, 1023, 3071, 8191, 1023, 1023, 33791, 131071, 262143, 524287, 1048575]
theorem laws_hCollision.tab1 : rtab .any (opsOf Tryz.f18 1) = laws_hCollision.T1 := by kernel_rfl
theorem laws_hCollision.bits1 : waitsOk laws_hCollision.T1.2 laws_hCollision.B1 = true := by kernel_rfl
set_option maxHeartbeats 8000000 in
set_option maxRecDepth 100000 in
theorem laws_hCollision.calls (k : Nat) (a0 : Int) (a1_0 : Bool) (a1_1 : ByteArray) (a1_2 : ByteArray) (r : Bool) (w : World) (h : laws_hCollision.f k a0 a1_0 a1_1 a1_2 = some r) :
    Calls Tryz.prog 18 #[.int .i64 a0, .agg #[.bool a1_0, .string a1_1, .string a1_2]] w fun e w' => e = .returned (.bool r) ∧ Below w.heap.size w w' := by
  have hu38 := Tryz.underlying38; have HB := qK (Below.refl w.heap.size w); have H : (if a1_0 = true then (if a1_1.toList = a1_2.toList then (some false) else ((spec_Digest.f k a0 a1_1).bind fun t440 => ((spec_Digest.f k a0 a1_2).bind fun t441 => (some (t440.toList == t441.toList))))) else (some false)) = some r := h; clear h; by_cases c3 : a1_0 = true
  · subst c3; rw [if_pos rfl] at H; by_cases c4 : a1_1.toList = a1_2.toList
    · rw [if_pos c4] at H; obtain ⟨c4b0, c4b1⟩ := qe c4; clear c4; obtain rfl := qsi H; go_enter Tryz.func18, Tryz.ntmps18; (try go_wp2_with (first | ((with_reducible refine gds (N := 3) rfl ?_); refine qbx 3 #[.bool true, .string a1_1, .string a1_2] 38 ?_; intro gb439 hg w5 hbox hb; have BK439 := qK (hbox); have GW439 := qK ((qW : w.heap.size ≤ gb439)); have GE439 := GW439; replace HB := qHB HB hb; clear hb hbox hg))); replace BK439 := qK (bkD BK439.out); replace HB := qK (bd1 HB.out); refine qs 21 (fun w' => w'.cell? ⟨gb439, 0, none⟩ = some (.bool true) ∧ w'.cell? ⟨gb439, 1, none⟩ = some (.string a1_1) ∧ w'.cell? ⟨gb439, 2, none⟩ = some (.string a1_2)) (ds := []) (qy3 BK439.out) (fun hHeld => ?_); refine with_tabW laws_hCollision.tab1 laws_hCollision.bits1 (fun HT_ HW_ => ?_); generalize w5.drew = w6 at BK439 HB hHeld ⊢; refine qp 0 5 ?_; refine qt 1 6 ?_; refine qp 2 7 ?_; refine qp 3 8 ?_; refine qp 5 10 ?_; refine qt 4 9 ?_; refine qt 6 11 ?_; refine qp 7 12 ?_; refine qp 8 13 ?_; refine qp 9 14 ?_; refine qu 10 15 ?_; refine qu 11 16 ?_; refine qu 12 17 ?_; refine qu 13 18 ?_; refine qu 14 19 ?_; refine qu 15 20 ?_; refine qu 16 21 ?_; refine qu 17 22 ?_; refine qu 18 23 ?_; refine qp 19 24 ?_; refine qp 20 4 ?_; refine done_ (done_of HT_.out (by kernel_rfl)) ?_; (try go_wp2); go_ret; exact ⟨qR, qB⟩
    · rw [if_neg c4] at H; obtain ⟨c4b0, c4b1⟩ := qn c4; obtain ⟨t440, A7, H⟩ := qbi H; obtain ⟨t441, A8, H⟩ := qbi H; obtain rfl := qsi H; go_enter Tryz.func18, Tryz.ntmps18; (try go_wp2_with (first | ((with_reducible refine gds (N := 3) rfl ?_); refine qbx 3 #[.bool true, .string a1_1, .string a1_2] 38 ?_; intro gb439 hg w9 hbox hb; have BK439 := qK (hbox); have GW439 := qK ((qW : w.heap.size ≤ gb439)); have GE439 := GW439; replace HB := qHB HB hb; clear hb hbox hg))); replace BK439 := qK (bkD BK439.out); replace HB := qK (bd1 HB.out); refine qs 21 (fun w' => w'.cell? ⟨gb439, 0, none⟩ = some (.bool true) ∧ w'.cell? ⟨gb439, 1, none⟩ = some (.string a1_1) ∧ w'.cell? ⟨gb439, 2, none⟩ = some (.string a1_2)) (ds := []) (qy3 BK439.out) (fun hHeld => ?_); refine with_tabW laws_hCollision.tab1 laws_hCollision.bits1 (fun HT_ HW_ => ?_); generalize w9.drew = w10 at BK439 HB hHeld ⊢; refine qp 0 5 ?_; refine qt 1 6 ?_; refine qp 2 7 ?_; refine qp 3 8 ?_; refine qp 5 10 ?_; refine qt 4 9 ?_; refine qt 6 11 ?_; refine qp 7 12 ?_; refine qp 8 13 ?_; refine qp 9 14 ?_; refine qp 10 15 ?_; refine qp 11 16 ?_; refine qp 14 19 ?_; refine qp 15 20 ?_; refine qt 12 17 ?_; refine qt 16 21 ?_; refine qo 13 18 (fun K hK => ?_); refine gG Tryz.func30 #[.int .i64 a0, .string a1_1] ?_; (with_reducible refine (spec_Digest.calls k a0 a1_1 t440 _ A7.out).mono ?_); rintro e w11 ⟨rfl, hb⟩; refine ⟨_, rfl, ?_⟩; replace BK439 := qbb BK439 hb; replace HB := qHB HB hb; (try clear hb); refine hK.out _ _ (qy3 BK439.out) (fun hHeld => ?_); clear hK K; refine norm_ (a' := ?_) ?_ ?_; rotate_left
      · show Act.put _ (some 18) _ = _; simp only [Act.put, List.setIfInBounds_toArray, List.set_cons_zero, List.set_cons_succ, i64_w, i32_w]; rfl
      refine qo 17 22 (fun K hK => ?_); refine gG Tryz.func30 #[.int .i64 a0, .string a1_2] ?_; (with_reducible refine (spec_Digest.calls k a0 a1_2 t441 _ A8.out).mono ?_); rintro e w12 ⟨rfl, hb⟩; refine ⟨_, rfl, ?_⟩; replace BK439 := qbb BK439 hb; replace HB := qHB HB hb; (try clear hb); refine hK.out _ _ (qy3 BK439.out) (fun hHeld => ?_); clear hK K; refine norm_ (a' := ?_) ?_ ?_; rotate_left
      · show Act.put _ (some 22) _ = _; simp only [Act.put, List.setIfInBounds_toArray, List.set_cons_zero, List.set_cons_succ, i64_w, i32_w]; rfl
      refine qp 18 23 ?_; refine qp 19 24 ?_; refine qp 20 4 ?_; refine done_ (done_of HT_.out (by kernel_rfl)) ?_; (try go_wp2); go_ret; exact ⟨qR, qB⟩
  · replace c3 := Bool.eq_false_iff.mpr c3; subst c3; rw [if_neg qff] at H; obtain rfl := qsi H; go_enter Tryz.func18, Tryz.ntmps18; (try go_wp2_with (first | ((with_reducible refine gds (N := 3) rfl ?_); refine qbx 3 #[.bool false, .string a1_1, .string a1_2] 38 ?_; intro gb439 hg w13 hbox hb; have BK439 := qK (hbox); have GW439 := qK ((qW : w.heap.size ≤ gb439)); have GE439 := GW439; replace HB := qHB HB hb; clear hb hbox hg))); replace BK439 := qK (bkD BK439.out); replace HB := qK (bd1 HB.out); refine qs 21 (fun w' => w'.cell? ⟨gb439, 0, none⟩ = some (.bool false) ∧ w'.cell? ⟨gb439, 1, none⟩ = some (.string a1_1) ∧ w'.cell? ⟨gb439, 2, none⟩ = some (.string a1_2)) (ds := []) (qy3 BK439.out) (fun hHeld => ?_); refine with_tabW laws_hCollision.tab1 laws_hCollision.bits1 (fun HT_ HW_ => ?_); generalize w13.drew = w14 at BK439 HB hHeld ⊢; refine qp 0 5 ?_; refine qt 1 6 ?_; refine qp 2 7 ?_; refine qu 3 8 ?_; refine qu 4 9 ?_; refine qu 5 10 ?_; refine qu 6 11 ?_; refine qu 7 12 ?_; refine qp 8 13 ?_; refine qp 9 14 ?_; refine qu 10 15 ?_; refine qu 11 16 ?_; refine qu 12 17 ?_; refine qu 13 18 ?_; refine qu 14 19 ?_; refine qu 15 20 ?_; refine qu 16 21 ?_; refine qu 17 22 ?_; refine qu 18 23 ?_; refine qp 19 24 ?_; refine qp 20 4 ?_; refine done_ (done_of HT_.out (by kernel_rfl)) ?_; (try go_wp2); go_ret; exact ⟨qR, qB⟩
def laws_FnLiePath.j0 : Nat → Int → List ByteArray → ByteArray → Int → List ByteArray → Bool → Bool → Option (Bool)
  | 0, _, _, _, _, _, _, _ => none
  | k + 1, x3, x4, x5, x6, x7, x9, x49 => if x49 = true then (some false) else ((impl_CollidePath.f k x3 x4 x5 x6 x7).bind fun bt455 => (if x9 = true then (if 0 ≤ x6 then (if x6 < (x4.length : Int) then (if x5.toList = (rdOf ByteArray.empty x4 x6).toList then (some true) else ((laws_hCollision.f k x3 bt455.1 bt455.2.1 bt455.2.2).bind fun t460 => (some t460))) else (none)) else (none)) else ((spec_CollidePath.f k x3 x4 x5 x6 x7).bind fun bt461 => (some (bt455.1 == bt461.1 && (bt455.2.1.toList == bt461.2.1.toList && (bt455.2.2.toList == bt461.2.2.toList)))))))
def laws_FnLiePath.f (k : Nat) (l0 : List Int) : Option (Bool) := if (l0.length : Int) > 1048576 then (some true) else ((spec_DrawCollidePath.f k l0).bind fun bt442 => ((spec_Root.f k bt442.1 bt442.2.1).bind fun t451 => ((spec_CheckPath.f k bt442.1 bt442.2.2.1 bt442.2.2.2.1 (bt442.2.1.length : Int) t451 bt442.2.2.2.2).bind fun t452 => ((impl_CheckPath.f k bt442.1 bt442.2.2.1 bt442.2.2.2.1 (bt442.2.1.length : Int) t451 bt442.2.2.2.2).bind fun t453 => (if (t453 != t452) = true then (laws_FnLiePath.j0 k bt442.1 bt442.2.1 bt442.2.2.1 bt442.2.2.2.1 bt442.2.2.2.2 t452 true) else ((impl_Root.f k bt442.1 bt442.2.1).bind fun t454 => (laws_FnLiePath.j0 k bt442.1 bt442.2.1 bt442.2.2.1 bt442.2.2.2.1 bt442.2.2.2.2 t452 (t454.toList != t451.toList))))))))
theorem laws_FnLiePath.mono_l : ∀ k, (∀ y0 y1 y2 y3 y4 y5 y6, LeO (laws_FnLiePath.j0 k y0 y1 y2 y3 y4 y5 y6) (laws_FnLiePath.j0 (k + 1) y0 y1 y2 y3 y4 y5 y6))
  | 0 => fun _ _ _ _ _ _ _ r h => by simp [laws_FnLiePath.j0] at h
  | k + 1 => by
    have ih0 := laws_FnLiePath.mono_l k
    · intro y0 y1 y2 y3 y4 y5 y6
      unfold laws_FnLiePath.j0
      repeat' first
        | (with_reducible first | exact ih0 .. | exact impl_CheckPath.mono .. | exact impl_CollidePath.mono .. | exact impl_Root.mono .. | exact laws_hCollision.mono .. | exact spec_CheckPath.mono .. | exact spec_CollidePath.mono .. | exact spec_DrawCollidePath.mono .. | exact spec_Root.mono .. | exact LeO.refl _ | exact LeO.none _ | refine LeO.ite ?_ ?_ | refine LeO.bind ?_ (fun _ => ?_))
        | exact ih0 .. | exact impl_CheckPath.mono .. | exact impl_CollidePath.mono .. | exact impl_Root.mono .. | exact laws_hCollision.mono .. | exact spec_CheckPath.mono .. | exact spec_CollidePath.mono .. | exact spec_DrawCollidePath.mono .. | exact spec_Root.mono .. | exact LeO.none _ | refine LeO.ite ?_ ?_ | refine LeO.bind ?_ (fun _ => ?_)
theorem laws_FnLiePath.mono : ∀ a0 k, LeO (laws_FnLiePath.f k a0) (laws_FnLiePath.f (k + 1) a0) := by
  intro a0 k
  have ih0 := laws_FnLiePath.mono_l k
  unfold laws_FnLiePath.f
  repeat' first
    | (with_reducible first | exact ih0 .. | exact impl_CheckPath.mono .. | exact impl_CollidePath.mono .. | exact impl_Root.mono .. | exact laws_hCollision.mono .. | exact spec_CheckPath.mono .. | exact spec_CollidePath.mono .. | exact spec_DrawCollidePath.mono .. | exact spec_Root.mono .. | exact LeO.refl _ | exact LeO.none _ | refine LeO.ite ?_ ?_ | refine LeO.bind ?_ (fun _ => ?_))
    | exact ih0 .. | exact impl_CheckPath.mono .. | exact impl_CollidePath.mono .. | exact impl_Root.mono .. | exact laws_hCollision.mono .. | exact spec_CheckPath.mono .. | exact spec_CollidePath.mono .. | exact spec_DrawCollidePath.mono .. | exact spec_Root.mono .. | exact LeO.none _ | refine LeO.ite ?_ ?_ | refine LeO.bind ?_ (fun _ => ?_)
def laws_FnLiePath.T10 : Bool × List (List Nat × List Nat) := (true, [([], []), ([], []), ([], []), ([], []), ([], []), ([], []), ([1, 2, 3, 4, 5], [1, 2, 3, 4, 5]), ([0, 6], [0, 6]), ([7, 6, 0, 1, 2, 3, 4, 5, 6, 7], [7])])
def laws_FnLiePath.B10 : List Nat := [0, 0, 0, 0, 0, 0, 62, 127, 255]
theorem laws_FnLiePath.tab10 : rtab .any (opsOf Tryz.f4 10) = laws_FnLiePath.T10 := by kernel_rfl
theorem laws_FnLiePath.bits10 : waitsOk laws_FnLiePath.T10.2 laws_FnLiePath.B10 = true := by kernel_rfl
set_option maxHeartbeats 8000000 in
set_option maxRecDepth 100000 in
theorem laws_FnLiePath.calls (k : Nat) (A0 : Option Addr) (c0 : Nat) (l0 : List Int) (r : Bool) (w : World) (hG : GOK w) (hr0 : Kd.C (Kd.int .u8) w A0 l0.length l0) (hc0 : l0.length ≤ c0) (h : laws_FnLiePath.f k l0 = some r) :
    Calls Tryz.prog 4 #[.slice A0 l0.length c0] w fun e w' => e = .returned (.bool r) ∧ Below w.heap.size w w' := by
  have hu38 := Tryz.underlying38; have HR0 := qK hr0; have HC0 := qK hc0; clear hr0 hc0; have HB := qK (Below.refl w.heap.size w); have H : (if (l0.length : Int) > 1048576 then (some true) else ((spec_DrawCollidePath.f k l0).bind fun bt442 => ((spec_Root.f k bt442.1 bt442.2.1).bind fun t451 => ((spec_CheckPath.f k bt442.1 bt442.2.2.1 bt442.2.2.2.1 (bt442.2.1.length : Int) t451 bt442.2.2.2.2).bind fun t452 => ((impl_CheckPath.f k bt442.1 bt442.2.2.1 bt442.2.2.2.1 (bt442.2.1.length : Int) t451 bt442.2.2.2.2).bind fun t453 => (if (t453 != t452) = true then (laws_FnLiePath.j0 k bt442.1 bt442.2.1 bt442.2.2.1 bt442.2.2.2.1 bt442.2.2.2.2 t452 true) else ((impl_Root.f k bt442.1 bt442.2.1).bind fun t454 => (laws_FnLiePath.j0 k bt442.1 bt442.2.1 bt442.2.2.1 bt442.2.2.2.1 bt442.2.2.2.2 t452 (t454.toList != t451.toList))))))))) = some r := h; clear h; by_cases c2 : (l0.length : Int) > 1048576
  · rw [if_pos c2] at H; have c2b0 : decide (1048576 < (l0.length : Int)) = true := decide_eq_true c2; have c2b1 : decide (1048576 < l0.length) = true := decide_eq_true (by omega); clear c2; obtain rfl := qsi H; go_enter Tryz.func4, Tryz.ntmps4; go_wp2; go_ret; exact ⟨qR, qB⟩
  · rw [if_neg c2] at H; have c2b0 : decide (1048576 < (l0.length : Int)) = false := decide_eq_false c2; have c2b1 : decide (1048576 < l0.length) = false := decide_eq_false (by omega); clear c2; obtain ⟨⟨t442, t443, t444, t445, t446⟩, A3, H⟩ := qbi H; obtain ⟨t451, A4, H⟩ := qbi H; obtain ⟨t452, A5, H⟩ := qbi H; have HC6 := qK H; clear H; go_enter Tryz.func4, Tryz.ntmps4; go_upto_region 6 with (first | ((with_reducible refine gcl (f := 13) rfl ?_); refine gL 16 Tryz.func13 #[.slice A0 l0.length c0] ?_; (with_reducible refine (spec_DrawCollidePath.calls k _ _ l0 t442 t443 t444 t445 t446 _ ?side1 ?side2 A3.out).mono ?_); (case side1 => repeat (first | exact HR0.out | (with_reducible refine Kd.Cal ?_ _) | (with_reducible refine Kd.CdN ?_ _) | (with_reducible refine Kd.Cdr ?_))); (case side2 => exact HC0.out); rintro e w7 ⟨v447, v449, rfl, ho0, ho1, hb⟩; refine ⟨_, rfl, ?_⟩; have HO448 := qK (Kd.Rlo ho0 (bsz qB)); have HO450 := qK (Kd.Rlo ho1 (bsz qB)); replace HB := qHB HB hb; (try clear hb); (try clear ho0); (try clear ho1); obtain ⟨Ao8, co8, eo8⟩ := Kd.R_slice HO448.out; subst eo8) | ((with_reducible refine gcl (f := 9) rfl ?_); refine gL 24 Tryz.func9 #[.int .i64 t442, .slice Ao8 t443.length co8] ?_; (with_reducible refine (spec_Root.calls k t442 _ _ t443 t451 _ ?side1 ?side2 A4.out).mono ?_); (case side1 => repeat (first | exact (Kd.R_reads' HO448.out).2.2 | (with_reducible refine Kd.Cal ?_ _) | (with_reducible refine Kd.CdN ?_ _) | (with_reducible refine Kd.Cdr ?_))); (case side2 => exact (Kd.R_reads' HO448.out).2.1); rintro e w9 ⟨rfl, hb⟩; refine ⟨_, rfl, ?_⟩; replace HO448 := qK (Kd.Rbe (qRb HO448) hb); replace HO450 := qK (Kd.Rbe (qRb HO450) hb); replace HB := qHB HB hb; (try clear hb); obtain ⟨Ao10, co10, eo10⟩ := Kd.R_slice HO450.out; subst eo10) | ((with_reducible refine gcl (f := 14) rfl ?_); refine gL 32 Tryz.func14 #[.int .i64 t442, .string t444, .int .i64 t445, .int .i64 (t443.length : Int), .string t451, .slice Ao10 t446.length co10] ?_; (with_reducible refine (spec_CheckPath.calls k t442 t444 t445 (t443.length : Int) t451 _ _ t446 t452 _ ?side1 ?side2 A5.out).mono ?_); (case side1 => repeat (first | exact (Kd.R_reads' HO450.out).2.2 | (with_reducible refine Kd.Cal ?_ _) | (with_reducible refine Kd.CdN ?_ _) | (with_reducible refine Kd.Cdr ?_))); (case side2 => exact (Kd.R_reads' HO450.out).2.1); rintro e w11 ⟨rfl, hb⟩; refine ⟨_, rfl, ?_⟩; replace HO448 := qK (Kd.Rbe (qRb HO448) hb); replace HO450 := qK (Kd.Rbe (qRb HO450) hb); replace HB := qHB HB hb; (try clear hb))); (try simp only [Act.put, List.setIfInBounds_toArray, List.set_cons_zero, List.set_cons_succ]); go_cut [49] (fun v49 wc => ∃ (kq : Nat) (x49_5 : Bool), v49 = .bool x49_5 ∧ Aside0 (laws_FnLiePath.j0 kq t442 t443 t444 t445 t446 t452 x49_5 = some r) ∧ Aside0 (kq ≤ k) ∧ Aside0 (Kd.R Kd.string 9 wc w.heap.size (fun k_ => some k_ ≠ ((.slice Ao10 t446.length co10) : Value).ownBlock) (.slice Ao8 t443.length co8) t443) ∧ Aside0 (Kd.R Kd.string 9 wc w.heap.size (fun k_ => some k_ ≠ ((.slice Ao8 t443.length co8) : Value).ownBlock) (.slice Ao10 t446.length co10) t446) ∧ Aside0 (Below w.heap.size w wc))
    case first =>
      have H := HC6.out; clear HC6; obtain ⟨t453, A12, H⟩ := qbi H; by_cases c13 : (t453 != t452) = true
      · rw [if_pos c13] at H; have c13b0 : (t453 != t452) = true := c13; (try (have c13b1 : decide (t453 = t452) = false := by simpa using c13)); (try (have c13b2 : (t453 == t452) = false := by simpa using c13)); (try (have c13b3 : ¬ (t453 = t452) := by simpa using c13)); clear c13; (first | rw [c13b0] | (simp only [i64_w, i32_w]; rw [c13b0]) | skip); have H' := qK H; clear H; go_wp2_with (first | ((with_reducible refine gcl (f := 15) rfl ?_); refine gL 40 Tryz.func15 #[.int .i64 t442, .string t444, .int .i64 t445, .int .i64 (t443.length : Int), .string t451, .slice Ao10 t446.length co10] ?_; (with_reducible refine (impl_CheckPath.calls k t442 t444 t445 (t443.length : Int) t451 _ _ t446 t453 _ ?side1 ?side2 ?side3 A12.out).mono ?_); (case side1 => exact GOK.below hG qB); (case side2 => repeat (first | exact (Kd.R_reads' HO450.out).2.2 | (with_reducible refine Kd.Cal ?_ _) | (with_reducible refine Kd.CdN ?_ _) | (with_reducible refine Kd.Cdr ?_))); (case side3 => exact (Kd.R_reads' HO450.out).2.1); rintro e w14 ⟨rfl, hb⟩; refine ⟨_, rfl, ?_⟩; replace HO448 := qK (Kd.Rbe (qRb HO448) hb); replace HO450 := qK (Kd.Rbe (qRb HO450) hb); replace HB := qHB HB hb; (try clear hb))); go_meet
        case rel => exact ⟨_, (true), qS, H', ⟨by first | omega | exact Nat.le_refl _⟩, ⟨by (with_reducible repeat (first | apply Kd.Ral | apply Kd.RdN | apply Kd.Rdr)); exact HO448.out⟩, ⟨by (with_reducible repeat (first | apply Kd.Ral | apply Kd.RdN | apply Kd.Rdr)); exact HO450.out⟩, ⟨qB⟩⟩
      · rw [if_neg c13] at H; (have c13b0 : (t453 != t452) = false := by simpa using c13); (try (have c13b1 : decide (t453 = t452) = true := by simpa using c13)); (try (have c13b2 : (t453 == t452) = true := by simpa using c13)); clear c13; (first | rw [c13b0] | (simp only [i64_w, i32_w]; rw [c13b0]) | skip); obtain ⟨t454, A15, H⟩ := qbi H; have H' := qK H; clear H; go_wp2_with (first | ((with_reducible refine gcl (f := 15) rfl ?_); refine gL 40 Tryz.func15 #[.int .i64 t442, .string t444, .int .i64 t445, .int .i64 (t443.length : Int), .string t451, .slice Ao10 t446.length co10] ?_; (with_reducible refine (impl_CheckPath.calls k t442 t444 t445 (t443.length : Int) t451 _ _ t446 t453 _ ?side1 ?side2 ?side3 A12.out).mono ?_); (case side1 => exact GOK.below hG qB); (case side2 => repeat (first | exact (Kd.R_reads' HO450.out).2.2 | (with_reducible refine Kd.Cal ?_ _) | (with_reducible refine Kd.CdN ?_ _) | (with_reducible refine Kd.Cdr ?_))); (case side3 => exact (Kd.R_reads' HO450.out).2.1); rintro e w16 ⟨rfl, hb⟩; refine ⟨_, rfl, ?_⟩; replace HO448 := qK (Kd.Rbe (qRb HO448) hb); replace HO450 := qK (Kd.Rbe (qRb HO450) hb); replace HB := qHB HB hb; (try clear hb)) | (go_at_call 12; (with_reducible refine (impl_Root.calls k t442 _ _ t443 t454 _ ?side1 ?side2 ?side3 A15.out).mono ?_); (case side1 => exact GOK.below hG qB); (case side2 => repeat (first | exact (Kd.R_reads' HO448.out).2.2 | (with_reducible refine Kd.Cal ?_ _) | (with_reducible refine Kd.CdN ?_ _) | (with_reducible refine Kd.Cdr ?_))); (case side3 => exact (Kd.R_reads' HO448.out).2.1); rintro e w17 ⟨rfl, hb⟩; replace HO448 := qK (Kd.Rbe (qRb HO448) hb); replace HO450 := qK (Kd.Rbe (qRb HO450) hb); replace HB := qHB HB hb; (try clear hb))); go_meet
        case rel => exact ⟨_, ((t454.toList != t451.toList)), qS, H', ⟨by first | omega | exact Nat.le_refl _⟩, ⟨by (with_reducible repeat (first | apply Kd.Ral | apply Kd.RdN | apply Kd.Rdr)); exact HO448.out⟩, ⟨by (with_reducible repeat (first | apply Kd.Ral | apply Kd.RdN | apply Kd.Rdr)); exact HO450.out⟩, ⟨qB⟩⟩
    case rest =>
      clear HC6; (try clear c2); (try clear c2b0); (try clear c2b1); obtain ⟨kq, x49_5, rfl, HA, HJ5, HO_4, HO_7, HB⟩ := hcut
      cases kq with
      | zero => exact absurd HA.out (by simp [laws_FnLiePath.j0])
      | succ kj5 =>
        have H := HA.out; clear HA; simp only [laws_FnLiePath.j0] at H; by_cases c18 : x49_5 = true
        · subst c18; rw [if_pos rfl] at H; obtain rfl := qsi H; go_wp2; go_ret; exact ⟨qR, qB⟩
        · replace c18 := Bool.eq_false_iff.mpr c18; subst c18; rw [if_neg qff] at H; obtain ⟨⟨t455, t456, t457⟩, A19, H⟩ := qbi H; by_cases c20 : t452 = true
          · subst c20; rw [if_pos rfl] at H; by_cases c21 : 0 ≤ t445
            · rw [if_pos c21] at H; have c21b0 := decide_eq_true c21; clear c21; by_cases c22 : t445 < (t443.length : Int)
              · rw [if_pos c22] at H; have c22b0 := decide_eq_true c22; clear c22; by_cases c23 : t444.toList = (rdOf ByteArray.empty t443 t445).toList
                · rw [if_pos c23] at H; obtain ⟨c23b0, c23b1⟩ := qe c23; clear c23; obtain rfl := qsi H; go_wp2_with (first | ((with_reducible refine gcl (f := 16) rfl ?_); refine gL 55 Tryz.func16 #[.int .i64 t442, .slice Ao8 t443.length co8, .string t444, .int .i64 t445, .slice Ao10 t446.length co10] ?_; (with_reducible refine (impl_CollidePath.calls kj5 t442 _ _ t443 t444 t445 _ _ t446 t455 t456 t457 _ ?side1 ?side2 ?side3 ?side4 ?side5 A19.out).mono ?_); (case side1 => exact GOK.below hG qB); (case side2 => repeat (first | exact (Kd.R_reads' HO_4.out).2.2 | (with_reducible refine Kd.Cal ?_ _) | (with_reducible refine Kd.CdN ?_ _) | (with_reducible refine Kd.Cdr ?_))); (case side3 => exact (Kd.R_reads' HO_4.out).2.1); (case side4 => repeat (first | exact (Kd.R_reads' HO_7.out).2.2 | (with_reducible refine Kd.Cal ?_ _) | (with_reducible refine Kd.CdN ?_ _) | (with_reducible refine Kd.Cdr ?_))); (case side5 => exact (Kd.R_reads' HO_7.out).2.1); rintro e w24 ⟨rfl, hb⟩; refine ⟨_, rfl, ?_⟩; replace HO_4 := qK (Kd.Rbe (qRb HO_4) hb); replace HO_7 := qK (Kd.Rbe (qRb HO_7) hb); replace HB := qHB HB hb; (try clear hb)) | ((with_reducible refine gds (N := 10) rfl ?_); refine qbx 10 #[.bool false, .string (⟨#[]⟩ : ByteArray), .string (⟨#[]⟩ : ByteArray)] 38 ?_; intro gb458 hg w25 hbox hb; replace HO_4 := qK (Kd.Rbe (qRb HO_4) hb); replace HO_7 := qK (Kd.Rbe (qRb HO_7) hb); have BK458 := qK (hbox); have GW458 := qK ((qW : w.heap.size ≤ gb458)); have GE458 := GW458; replace HB := qHB HB hb; clear hb hbox hg; have hz26 := qz3 BK458.out; have p459 : 0 ≤ (t445 : Int) := of_decide_eq_true qa; have q459 : t445 < (t443.length : Int) := of_decide_eq_true qa; obtain ⟨ad459, e459, hx459_0⟩ := Kd.at_string (Kd.R_reads' HO_4.out).2.2 t445 p459 q459; cases e459; have hn459_0 : ad459.block ≠ gb458 := Kd.own_blk (Kd.R_ne HO_4.out BK458.out (by decide)); have hn459_1 : ad459.block ≠ gb458 := Kd.own_blk (Kd.R_ne HO_4.out BK458.out (by decide)); have hn459_2 : ad459.block ≠ gb458 := Kd.own_blk (Kd.R_ne HO_4.out BK458.out (by decide)); replace hx459_0 := (cell_far (p := ⟨gb458, 0, none⟩) (by first | (rw [add_block]; exact hn459_0) | (show (Addr.add _ _).block ≠ _; rw [add_block]; exact hn459_0) | exact hn459_0) (.bool t455)).trans hx459_0; replace hx459_0 := (cell_far (p := ⟨gb458, 1, none⟩) (by first | (rw [add_block]; exact hn459_1) | (show (Addr.add _ _).block ≠ _; rw [add_block]; exact hn459_1) | exact hn459_1) (.string t456)).trans hx459_0; replace hx459_0 := (cell_far (p := ⟨gb458, 2, none⟩) (by first | (rw [add_block]; exact hn459_2) | (show (Addr.add _ _).block ≠ _; rw [add_block]; exact hn459_2) | exact hn459_2) (.string t457)).trans hx459_0; clear hn459_0; clear hn459_1; clear hn459_2; replace p459 := eq_true p459; replace q459 := eq_true q459)); go_ret; exact ⟨qR, qB⟩
                · rw [if_neg c23] at H; obtain ⟨c23b0, c23b1⟩ := qn c23; obtain ⟨t460, A27, H⟩ := qbi H; obtain rfl := qsi H; go_wp2_with (first | ((with_reducible refine gcl (f := 16) rfl ?_); refine gL 55 Tryz.func16 #[.int .i64 t442, .slice Ao8 t443.length co8, .string t444, .int .i64 t445, .slice Ao10 t446.length co10] ?_; (with_reducible refine (impl_CollidePath.calls kj5 t442 _ _ t443 t444 t445 _ _ t446 t455 t456 t457 _ ?side1 ?side2 ?side3 ?side4 ?side5 A19.out).mono ?_); (case side1 => exact GOK.below hG qB); (case side2 => repeat (first | exact (Kd.R_reads' HO_4.out).2.2 | (with_reducible refine Kd.Cal ?_ _) | (with_reducible refine Kd.CdN ?_ _) | (with_reducible refine Kd.Cdr ?_))); (case side3 => exact (Kd.R_reads' HO_4.out).2.1); (case side4 => repeat (first | exact (Kd.R_reads' HO_7.out).2.2 | (with_reducible refine Kd.Cal ?_ _) | (with_reducible refine Kd.CdN ?_ _) | (with_reducible refine Kd.Cdr ?_))); (case side5 => exact (Kd.R_reads' HO_7.out).2.1); rintro e w28 ⟨rfl, hb⟩; refine ⟨_, rfl, ?_⟩; replace HO_4 := qK (Kd.Rbe (qRb HO_4) hb); replace HO_7 := qK (Kd.Rbe (qRb HO_7) hb); replace HB := qHB HB hb; (try clear hb); (try clear hk)) | ((with_reducible refine gds (N := 10) rfl ?_); refine qbx 10 #[.bool false, .string (⟨#[]⟩ : ByteArray), .string (⟨#[]⟩ : ByteArray)] 38 ?_; intro gb458 hg w29 hbox hb; replace HO_4 := qK (Kd.Rbe (qRb HO_4) hb); replace HO_7 := qK (Kd.Rbe (qRb HO_7) hb); have BK458 := qK (hbox); have GW458 := qK ((qW : w.heap.size ≤ gb458)); have GE458 := GW458; replace HB := qHB HB hb; clear hb hbox hg; have hz30 := qz3 BK458.out; have p459 : 0 ≤ (t445 : Int) := of_decide_eq_true qa; have q459 : t445 < (t443.length : Int) := of_decide_eq_true qa; obtain ⟨ad459, e459, hx459_0⟩ := Kd.at_string (Kd.R_reads' HO_4.out).2.2 t445 p459 q459; cases e459; have hn459_0 : ad459.block ≠ gb458 := Kd.own_blk (Kd.R_ne HO_4.out BK458.out (by decide)); have hn459_1 : ad459.block ≠ gb458 := Kd.own_blk (Kd.R_ne HO_4.out BK458.out (by decide)); have hn459_2 : ad459.block ≠ gb458 := Kd.own_blk (Kd.R_ne HO_4.out BK458.out (by decide)); replace hx459_0 := (cell_far (p := ⟨gb458, 0, none⟩) (by first | (rw [add_block]; exact hn459_0) | (show (Addr.add _ _).block ≠ _; rw [add_block]; exact hn459_0) | exact hn459_0) (.bool t455)).trans hx459_0; replace hx459_0 := (cell_far (p := ⟨gb458, 1, none⟩) (by first | (rw [add_block]; exact hn459_1) | (show (Addr.add _ _).block ≠ _; rw [add_block]; exact hn459_1) | exact hn459_1) (.string t456)).trans hx459_0; replace hx459_0 := (cell_far (p := ⟨gb458, 2, none⟩) (by first | (rw [add_block]; exact hn459_2) | (show (Addr.add _ _).block ≠ _; rw [add_block]; exact hn459_2) | exact hn459_2) (.string t457)).trans hx459_0; clear hn459_0; clear hn459_1; clear hn459_2; replace p459 := eq_true p459; replace q459 := eq_true q459) | (go_at_call 18; (with_reducible refine (laws_hCollision.calls kj5 t442 t455 t456 t457 t460 _ A27.out).mono ?_); rintro e w31 ⟨rfl, hb⟩; replace HO_4 := qK (Kd.Rbe (by (with_reducible repeat (first | apply Kd.Ral | apply Kd.RdN | apply Kd.Rdr)); exact (Kd.Rmo (Kd.Rfa (p := ⟨gb458, 2, none⟩) (Kd.Rfa (p := ⟨gb458, 1, none⟩) (Kd.Rfa (p := ⟨gb458, 0, none⟩) (Kd.Rty HO_4.out BK458.out (by decide)) (fun _ hk => hk.2) (.bool t455)) (fun _ hk => hk.2) (.string t456)) (fun _ hk => hk.2) (.string t457)) (fun _ h_ => h_.1))) hb); replace HO_7 := qK (Kd.Rbe (by (with_reducible repeat (first | apply Kd.Ral | apply Kd.RdN | apply Kd.Rdr)); exact (Kd.Rmo (Kd.Rfa (p := ⟨gb458, 2, none⟩) (Kd.Rfa (p := ⟨gb458, 1, none⟩) (Kd.Rfa (p := ⟨gb458, 0, none⟩) (Kd.Rty HO_7.out BK458.out (by decide)) (fun _ hk => hk.2) (.bool t455)) (fun _ hk => hk.2) (.string t456)) (fun _ hk => hk.2) (.string t457)) (fun _ h_ => h_.1))) hb); replace BK458 := qK (bbe (g := gb458) (o := .cells #[.bool t455, .string t456, .string t457] 38 (0, 0)) qbk hb); replace HB := qHB HB hb; (try clear hb); (try clear hk))); go_ret; exact ⟨qR, qB⟩
              · rw [if_neg c22] at H; exact absurd H (by simp)
            · rw [if_neg c21] at H; exact absurd H (by simp)
          · replace c20 := Bool.eq_false_iff.mpr c20; subst c20; rw [if_neg qff] at H; obtain ⟨⟨t461, t462, t463⟩, A32, H⟩ := qbi H; obtain rfl := qsi H; (try go_wp2_with (first | ((with_reducible refine gcl (f := 16) rfl ?_); refine gL 55 Tryz.func16 #[.int .i64 t442, .slice Ao8 t443.length co8, .string t444, .int .i64 t445, .slice Ao10 t446.length co10] ?_; (with_reducible refine (impl_CollidePath.calls kj5 t442 _ _ t443 t444 t445 _ _ t446 t455 t456 t457 _ ?side1 ?side2 ?side3 ?side4 ?side5 A19.out).mono ?_); (case side1 => exact GOK.below hG qB); (case side2 => repeat (first | exact (Kd.R_reads' HO_4.out).2.2 | (with_reducible refine Kd.Cal ?_ _) | (with_reducible refine Kd.CdN ?_ _) | (with_reducible refine Kd.Cdr ?_))); (case side3 => exact (Kd.R_reads' HO_4.out).2.1); (case side4 => repeat (first | exact (Kd.R_reads' HO_7.out).2.2 | (with_reducible refine Kd.Cal ?_ _) | (with_reducible refine Kd.CdN ?_ _) | (with_reducible refine Kd.Cdr ?_))); (case side5 => exact (Kd.R_reads' HO_7.out).2.1); rintro e w33 ⟨rfl, hb⟩; refine ⟨_, rfl, ?_⟩; replace HO_4 := qK (Kd.Rbe (qRb HO_4) hb); replace HO_7 := qK (Kd.Rbe (qRb HO_7) hb); replace HB := qHB HB hb; (try clear hb)) | ((with_reducible refine gds (N := 10) rfl ?_); refine qbx 10 #[.bool false, .string (⟨#[]⟩ : ByteArray), .string (⟨#[]⟩ : ByteArray)] 38 ?_; intro gb458 hg w34 hbox hb; replace HO_4 := qK (Kd.Rbe (qRb HO_4) hb); replace HO_7 := qK (Kd.Rbe (qRb HO_7) hb); have BK458 := qK (hbox); have GW458 := qK ((qW : w.heap.size ≤ gb458)); have GE458 := GW458; replace HB := qHB HB hb; clear hb hbox hg; have hz35 := qz3 BK458.out))); have n0_ : Aside0 (Kd.R Kd.string 9 (((w34.setCell ⟨gb458, 0, none⟩ (.bool t455)).setCell ⟨gb458, 1, none⟩ (.string t456)).setCell ⟨gb458, 2, none⟩ (.string t457)) w.heap.size (fun k_ => some k_ ≠ (.slice Ao10 t446.length co10 : Value).ownBlock) (.slice Ao8 t443.length co8) t443) := ⟨by (with_reducible repeat (first | apply Kd.Ral | apply Kd.RdN | apply Kd.Rdr)); exact Kd.Rmo (Kd.Rfa (p := ⟨gb458, 2, none⟩) (Kd.Rfa (p := ⟨gb458, 1, none⟩) (Kd.Rfa (p := ⟨gb458, 0, none⟩) (Kd.Rty HO_4.out BK458.out (by decide)) (fun _ hk => hk.2) (.bool t455)) (fun _ hk => hk.2) (.string t456)) (fun _ hk => hk.2) (.string t457)) (fun _ hk => hk.1)⟩; have n1_ : Aside0 (Kd.R Kd.string 9 (((w34.setCell ⟨gb458, 0, none⟩ (.bool t455)).setCell ⟨gb458, 1, none⟩ (.string t456)).setCell ⟨gb458, 2, none⟩ (.string t457)) w.heap.size (fun k_ => some k_ ≠ (.slice Ao8 t443.length co8 : Value).ownBlock) (.slice Ao10 t446.length co10) t446) := ⟨by (with_reducible repeat (first | apply Kd.Ral | apply Kd.RdN | apply Kd.Rdr)); exact Kd.Rmo (Kd.Rfa (p := ⟨gb458, 2, none⟩) (Kd.Rfa (p := ⟨gb458, 1, none⟩) (Kd.Rfa (p := ⟨gb458, 0, none⟩) (Kd.Rty HO_7.out BK458.out (by decide)) (fun _ hk => hk.2) (.bool t455)) (fun _ hk => hk.2) (.string t456)) (fun _ hk => hk.2) (.string t457)) (fun _ hk => hk.1)⟩; have n2_ : Aside0 ((((w34.setCell ⟨gb458, 0, none⟩ (.bool t455)).setCell ⟨gb458, 1, none⟩ (.string t456)).setCell ⟨gb458, 2, none⟩ (.string t457)).heap[gb458]? = some (.cells #[.bool t455, .string t456, .string t457] 38 (0, 0))) := ⟨qbk⟩; have n3_ : Aside0 (Below w.heap.size w (((w34.setCell ⟨gb458, 0, none⟩ (.bool t455)).setCell ⟨gb458, 1, none⟩ (.string t456)).setCell ⟨gb458, 2, none⟩ (.string t457))) := ⟨qB⟩; (try clear HO_4); (try clear HO_7); (try clear BK458); (try clear HB); generalize (((w34.setCell ⟨gb458, 0, none⟩ (.bool t455)).setCell ⟨gb458, 1, none⟩ (.string t456)).setCell ⟨gb458, 2, none⟩ (.string t457)) = w36 at n0_ n1_ n2_ n3_ ⊢; have HO_4 := n0_; have HO_7 := n1_; have BK458 := n2_; have HB := n3_; clear n0_ n1_ n2_ n3_; replace HO_4 := qK (Kd.Rdr HO_4.out); replace HO_7 := qK (Kd.Rdr HO_7.out); replace BK458 := qK (bkD BK458.out); replace HB := qK (bd1 HB.out); refine qs 9 (fun w' => w'.cell? ⟨gb458, 0, none⟩ = some (.bool t455) ∧ w'.cell? ⟨gb458, 1, none⟩ = some (.string t456) ∧ w'.cell? ⟨gb458, 2, none⟩ = some (.string t457)) (ds := []) (qy3 BK458.out) (fun hHeld => ?_); refine with_tabW laws_FnLiePath.tab10 laws_FnLiePath.bits10 (fun HT_ HW_ => ?_); generalize w36.drew = w37 at HO_4 HO_7 BK458 HB hHeld ⊢; refine qp 1 59 ?_; refine qp 2 60 ?_; refine qp 3 61 ?_; refine qp 4 62 ?_; refine qp 5 63 ?_; refine qt 0 58 ?_; refine qo 6 64 (fun K hK => ?_); refine gG Tryz.func17 #[.int .i64 t442, .slice Ao8 t443.length co8, .string t444, .int .i64 t445, .slice Ao10 t446.length co10] ?_; (with_reducible refine (spec_CollidePath.calls kj5 t442 _ _ t443 t444 t445 _ _ t446 t461 t462 t463 _ ?side1 ?side2 ?side3 ?side4 A32.out).mono ?_); (case side1 => repeat (first | exact (Kd.R_reads' HO_4.out).2.2 | (with_reducible refine Kd.Cal ?_ _) | (with_reducible refine Kd.CdN ?_ _) | (with_reducible refine Kd.Cdr ?_))); (case side2 => exact (Kd.R_reads' HO_4.out).2.1); (case side3 => repeat (first | exact (Kd.R_reads' HO_7.out).2.2 | (with_reducible refine Kd.Cal ?_ _) | (with_reducible refine Kd.CdN ?_ _) | (with_reducible refine Kd.Cdr ?_))); (case side4 => exact (Kd.R_reads' HO_7.out).2.1); rintro e w38 ⟨rfl, hb⟩; refine ⟨_, rfl, ?_⟩; replace HO_4 := qK (Kd.Rbe (qRb HO_4) hb); replace HO_7 := qK (Kd.Rbe (qRb HO_7) hb); replace BK458 := qbb BK458 hb; replace HB := qHB HB hb; (try clear hb); (try clear hk); refine hK.out _ _ (qy3 BK458.out) (fun hHeld => ?_); clear hK K; refine norm_ (a' := ?_) ?_ ?_; rotate_left
            · show Act.put _ (some 64) _ = _; simp only [Act.put, List.setIfInBounds_toArray, List.set_cons_zero, List.set_cons_succ, i64_w, i32_w]; rfl
            refine qp 7 65 ?_; refine qp 8 2 ?_; refine done_ (done_of HT_.out (by kernel_rfl)) ?_; (try go_wp2); go_ret; exact ⟨qR, qB⟩
/-- THE ONE PURE STATEMENT of laws_FnLiePath: yours. -/
def laws_FnLiePath.Pure : Prop := ∀ (l0 : List Int), l0.length ≤ maxLen → l0.length * 1 ≤ 140737488351232 → (∀ x ∈ l0, (Lit.int .u8 x).wf = true) → ∃ k, laws_FnLiePath.f k l0 = some true
end Go.Proofs.YtajkbbifemeanaaGreatDoor.L
end
section
set_option linter.unusedVariables false
set_option linter.unusedSimpArgs false
namespace Go.Proofs.YtajkbbifemeanaaGreatDoor
open Go.RowKit Go.ChangeShapes Go.WideShapes Go.Proofs.YtajkbbifemeanaaGreatDoorW.PrintWords
/-- Whatever reads as a datum of type t is a value of the kind d that is 'good'. -/
def Opens {α : Type} (P : Program) (t : TypeId) (d : Kd α) (good : α → Prop) : Prop :=
  ∀ (H : Type) (enc : TypeId × Value → H) (W : World) (fuel : Nat) (cs : List Value) (x : DataW H × List MemPlace),
    DataW.trod enc P W 0 (fun _ => true) true fuel t cs = some x → ∃ a, d.K W a cs ∧ good a
theorem opens_int {P : Program} {t : TypeId} {k : IntKind} (ht : P.underlying t = some (.int k)) : Opens P t (Kd.int k) (fun n => (Lit.int k n).wf = true) :=
  fun H enc W fuel cs x h => by
    obtain ⟨n, rfl, _, hw⟩ := DataW.trod_int ht h
    exact ⟨n, rfl, hw⟩
theorem cells_of_some {W : World} {a : Addr} {n : Nat} {cs : List Value} (h : W.cells? 0 a n = some cs) : cs.length = n ∧ ∀ i u, cs[i]? = some u → W.cell? (a.add i) = some u := by
  unfold World.cells? at h
  rw [if_pos (Nat.zero_le _)] at h
  have hl := mapM_some_length h
  rw [List.length_range] at hl
  refine ⟨hl, fun i u hu => ?_⟩
  have hi : i < n := by
    rcases Nat.lt_or_ge i n with h' | h'
    · exact h'
    · rw [List.getElem?_eq_none (by omega)] at hu; cases hu
  have := mapM_some_get h i i (by simp [hi])
  rw [this]; exact hu
theorem opens_slice {α : Type} {P : Program} {t e : TypeId} {d : Kd α} {good : α → Prop} [Inhabited α] (ht : P.underlying t = some (.slice e)) (hc : P.cellsOf e = d.sz) (he : Opens P e d good) :
    Opens P t (Kd.slice e d) (fun l => ∀ a ∈ l, good a) :=
  fun H enc W fuel cs x h => by
    rcases Go.Deep.open_slice ht h with ⟨rfl, _⟩ | ⟨a, len, cap, m, n, D, Pl, rfl, _, hlc, hm, hmm, _, hel⟩
    · exact ⟨[], ⟨none, 0, rfl, Nat.le_refl _, rfl, by simp, fun h => absurd h (by simp)⟩, fun a ha => by cases ha⟩
    · have hmc : m = cap := by simpa using hmm
      subst hmc
      have hx : ∀ i, i < len → ∃ y : α, (∃ cs', W.cells? 0 (a.add (i * P.cellsOf e)) (P.cellsOf e) = some cs' ∧ d.K W y cs') ∧ good y := fun i hi => by
        obtain ⟨cs', h1, h2⟩ := hel i (by omega)
        obtain ⟨y, hy, hg⟩ := he H enc W n cs' _ h2
        exact ⟨y, ⟨cs', h1, hy⟩, hg⟩
      obtain ⟨f, hf⟩ := Go.Deep.choose_lt hx
      have hlen : ((List.range len).map f).length = len := by simp
      refine ⟨(List.range len).map f, ⟨some a, m, by rw [hlen], by rw [hlen]; exact hlc, ?_⟩, fun y hy => ?_⟩
      · refine ⟨rfl, by rw [hlen]; unfold maxLen at hm; omega, fun _ => ⟨a, rfl, fun j p hp => ?_⟩⟩
        have hj : j < len := by
          rcases Nat.lt_or_ge j len with h' | h'
          · exact h'
          · rw [List.getElem?_eq_none (by omega)] at hp; cases hp
        have hpe : f j = p := by simpa [hj] using hp
        obtain ⟨⟨cs', h1, h2⟩, _⟩ := hf j hj
        obtain ⟨hl', hcell⟩ := cells_of_some h1
        refine ⟨cs', by rw [hl', hc], hpe ▸ h2, fun i u hu => ?_⟩
        have := hcell i u hu
        rw [Go.Deep.add_add, hc] at this
        exact this
      · obtain ⟨j, hj, rfl⟩ := List.mem_map.1 hy
        exact (hf j (List.mem_range.1 hj)).2
theorem len_le {α : Type} {d : Kd α} {W : World} {A : Option Addr} {l : List α} (h : d.C W A l.length l) : l.length ≤ maxLen := by
  have := h.2.1
  unfold maxLen
  omega
end Go.Proofs.YtajkbbifemeanaaGreatDoor
end
section
set_option linter.unusedVariables false
set_option linter.unusedSimpArgs false
namespace Go.Proofs.YtajkbbifemeanaaGreatDoor
open Go Go.RowKit
theorem kw_named : Tryz.prog.globalNamed "loop.example/s02884/impl.roundWords" = some 1 := by kernel_rfl
theorem kw_type : (Tryz.prog.globals[1]?).map (·.type) = some 192 := by kernel_rfl
theorem kw_cells : Tryz.prog.cellsOf 68 = 1 := by kernel_rfl
theorem kw_cells64 : Tryz.prog.cellsOf 192 = 64 := by kernel_rfl
theorem et_named : Tryz.prog.globalNamed "errors.errorType" = some 0 := by kernel_rfl
theorem et_rt : (Tryz.prog.cutTypes.find? (·.1 == "internal/reflectlite.rtype")).map (·.2) = some 198 := by kernel_rfl
theorem et_row : ((List.range Tryz.prog.types.size).filter fun t => Tryz.prog.rowNamed t [101, 114, 114, 111, 114]) = [80] := by kernel_rfl
theorem gok_of_laid {W : World} (h : laidMetH Tryz.prog [("errors.errorType", Rows.laid_errors_errorType), ("loop.example/s02884/impl.roundWords", Rows.laid_loop_example_s02884_impl_roundWords)] W) : GOK W := by
  have h' : laidMet Tryz.prog [("loop.example/s02884/impl.roundWords", Rows.laid_loop_example_s02884_impl_roundWords)] W ∧ handlesMet Tryz.prog [("errors.errorType", Rows.laid_errors_errorType)] W := h
  have hT := Lib.tabIs_of_head (k := .u32) (zs := kw) (rest := []) kw_named kw_type Tryz.underlying192 Tryz.underlying68 kw_cells kw_cells64 h'.1
  refine ⟨fun i hi => hT.cell kw_named i hi, ?_⟩
  obtain ⟨name, u, ty, e1, e2, e3, e4, e5⟩ := h'.2 _ (List.mem_singleton.2 rfl)
  have en : name = [101, 114, 114, 111, 114] := (Option.some.inj e1).symm
  subst en
  obtain rfl := Option.some.inj (et_rt.symm.trans e2)
  have hm : ty ∈ (List.range Tryz.prog.types.size).filter fun t => Tryz.prog.rowNamed t [101, 114, 114, 111, 114] := List.mem_filter.2 ⟨List.mem_range.2 e3, e4⟩
  rw [et_row] at hm
  obtain rfl := List.mem_singleton.1 hm
  have hh : typeHandle Tryz.prog 80 = .pointer (some ⟨2, 80, none⟩) := by kernel_rfl
  rw [hh] at e5
  simpa [errT] using World.var?_cell et_named e5 0
end Go.Proofs.YtajkbbifemeanaaGreatDoor
end
section
set_option linter.unusedVariables false
set_option linter.unusedSimpArgs false
namespace Go.Proofs.YtajkbbifemeanaaGreatDoor
open Go Go.Conc Go.ConcM
section
variable {H : Type} {enc : TypeId × Value → H}
theorem leaving_time {C : Checked} {os : Os} {f : FuncId} {fn : Func} {s : ChangeSpec} {F : Stop.Interp} {apart fresh handsOn : Bool} {Pre : World → Array Value → Prop}
    (h : ReturnsInHanded {} C os f .any Pre (s.post enc C.prog fn apart fresh handsOn false))
    (fit : ∃ (w : World) (tape : Tape) (i : Input), w.os = os ∧ (w.forCall tape i).Shaped C.prog ∧ i.vars = [] ∧ Input.okWide C.prog (w.forCall tape i) .any w.heap.size f i ∧
      Pre (w.forCall tape i).memory i.args ∧ ({ calm := true } : Assume).holds C.prog (lone (Frame.enter C.prog f i.args .normal) [] (w.forCall tape i))) :
    ReturnsInLeavingWide { calm := true } C os f .any Pre ((OpenSpec.ofChange s).postWith enc C.prog fn F (outsideKept [.timePasses]) apart fresh handsOn) := fun enter => by
  obtain ⟨g0, g1, g2, _, all⟩ := h enter
  obtain ⟨w0, t0, i0, a1, a2, a3, a4, a5, a6⟩ := fit
  refine ⟨g0, g1, g2, ⟨w0, t0, i0, a1, a2, a3, a4, a5, a6, trivial⟩, fun w tape i hf => ?_⟩
  obtain ⟨b1, b2, b3, b4, b5, b6, b7⟩ := hf
  obtain ⟨n, v, w', hn, hc, hr, hp, ⟨j, last, hj, hs, hq, hh, he⟩, ha⟩ := all w tape i ⟨b1, b2, b3, b4, b5, (by simp [Assume.holds]), b7⟩
  obtain ⟨ds, gs, before, pr, pa, pv, h1, h2, h3, h4, h5, _⟩ := hp
  refine ⟨n, v, w', hn, hc, hr, ⟨ds, gs, before, pr, pa, pv, h1, h2, h3, h4, leftAs_later ?_, h5.2⟩, ⟨j, last, hj, hs, hh, onlyLeaving_of_quiet hq, he⟩, ha⟩
  rw [h5.1]
  exact OsLater.refl _
theorem witness_shapedC {C : Checked} {os : Os} {f : FuncId} {fn : Func} {s : ChangeSpec} {conds : List PathCond} {apart : Bool} {X : World → Array Value → Prop} (w0 : World) (args : Array Value) (fuel : Nat) (hos : w0.os = os)
    (hsh : (w0.forCall (fun _ _ => 0) ⟨#[], args, []⟩).Shaped C.prog)
    (hok : Input.okWideB C.prog (w0.forCall (fun _ _ => 0) ⟨#[], args, []⟩) f ⟨#[], args, []⟩ = true)
    (hpre : s.preB enc C.prog fn conds apart (w0.forCall (fun _ _ => 0) ⟨#[], args, []⟩).memory args fuel = true)
    (hsz : s.sizedB enc C.prog fn apart (w0.forCall (fun _ _ => 0) ⟨#[], args, []⟩).memory args fuel = true)
    (hx : X (w0.forCall (fun _ _ => 0) ⟨#[], args, []⟩).memory args) :
    ∃ (w : World) (tape : Tape) (i : Input), w.os = os ∧ (w.forCall tape i).Shaped C.prog ∧ i.vars = [] ∧ Input.okWide C.prog (w.forCall tape i) .any w.heap.size f i ∧
      ((s.pre enc C.prog fn conds apart (w.forCall tape i).memory i.args ∧ X (w.forCall tape i).memory i.args) ∧ sizedMet enc C.prog fn (OpenSpec.ofChange s) apart (w.forCall tape i).memory i.args) ∧ ({ calm := true } : Assume).holds C.prog (lone (Frame.enter C.prog f i.args .normal) [] (w.forCall tape i)) :=
  ⟨w0, fun _ _ => 0, ⟨#[], args, []⟩, hos, hsh, (Input.okWide_of_okWideB (base := 0) hok).1, (Input.okWide_of_okWideB hok).2, ⟨⟨ChangeSpec.pre_of_preB hpre, hx⟩, sizedMet_of_sizedB hsz⟩, by
    simp only [Assume.holds]
    exact ⟨by simp, fun _ _ _ _ => rfl, by simp, by simp, by simp⟩⟩
end
/-- A tied card without a companion, of a row that goes. -/
theorem card_goes (Lk : Looks) {p : Pinned} {s : OpenSpec} {c : OpenClaim} (kinds : List LaidKind) (tests : Bool) (har : Bool × String) (lk : Bool)
    (hc : c.holds p s) (hw : c.wfByText s = true)
    (htie : c.laidByTextAt Lk p kinds tests)
    (hst : c.start = .entering) (hnb : c.noBlocks = false ∧ c.again = false) (hm : p.checked.prog.mainIs = some (har.1, har.2.toList)) (hn : (!har.1 && har.2.isEmpty && !lk) = false)
    (hl : ∀ f fn, p.checked.prog.funcNamed c.func = some f → p.checked.prog.funcs[f]? = some fn → lk = p.checked.prog.looks [] ∧ ∀ (j : Nat) t, fn.params[j]? = some t → p.checked.prog.wantsStandIn t = false)
    (hg : true = c.goesBy p.checked.prog) :
    Claim7.holds p (.plain s) { stood := { row := c, standIns := [], harness := har, looks := lk }, kinds := [], alts := [], goes := true, laidByText := true, laidKinds := kinds, laidTests := tests, laidLooks := Lk } := by
  have h6 : ∀ r : OpenClaim, Claim7.isSixth { stood := { row := r, standIns := [], harness := har, looks := lk }, kinds := [] } = false := fun r => by simpa [Claim7.isSixth] using hn
  refine ⟨Claim7.tied_new_at Lk kinds tests (Claim7.new_of_sixth hc har lk hst hnb hm (h6 c) hl) hw, fun D hD => ?_, htie, (fun h => by cases h), hg⟩
  cases hD
end Go.Proofs.YtajkbbifemeanaaGreatDoor
end
section
set_option linter.unusedVariables false
set_option linter.unusedSimpArgs false
namespace Go.Proofs.YtajkbbifemeanaaGreatDoor.fnLiePath
open Go.ChangeShapes Go.WideShapes Go.ChangeAt Go.RowKit Go.Proofs.YtajkbbifemeanaaGreatDoor Go.Proofs.YtajkbbifemeanaaGreatDoor.L Go.Proofs.YtajkbbifemeanaaGreatDoorW.PrintWords
open Go.ChangeMaps (open_string shut_string)
/-- THE ONE PURE STATEMENT of the law: no memory, no Go. -/
def Pure0 : Prop := ∀ (l0 : List Int), l0.length ≤ maxLen → (∀ y ∈ l0, (Lit.int .u8 y).wf = true) → ∃ k, laws_FnLiePath.f k l0 = some true
theorem own : ownKnob Tryz.prog.godebug = none := by kernel_rfl
theorem laidOut : laidOutB Tryz.prog = true := by kernel_rfl
/-- The door's own heap meets the condition. -/
theorem door_met (os : Os) (args : Array Value) : laidMetH Tryz.prog Rows.fnLiePathRow.laid ((World.doorLaid Tryz.prog 21 os).forCall (fun _ _ => 0) ⟨#[], args, []⟩).memory :=
  laidMetH_of_parts3 (fuel := 8) (laidMet_of_run' 8 (by kernel_rfl) (by kernel_rfl)) (by kernel_rfl) (by kernel_rfl)
set_option maxRecDepth 100000 in
theorem lifted (Q : Pure0) (os : Os) (started : os.Started) (H : Type) (enc : TypeId × Value → H) :
    ReturnsInHanded {} Tryz.checked os 4 .any (fun w args => (Rows.fnLiePathSpec.pre enc Tryz.prog Tryz.f4 [] false w args ∧ laidMetH Tryz.prog Rows.fnLiePathRow.laid w) ∧ sizedMet enc Tryz.prog Tryz.f4 (OpenSpec.ofChange Rows.fnLiePathSpec) false w args) (Rows.fnLiePathSpec.post enc Tryz.prog Tryz.f4 false true false false) := by
  refine returnsInHanded_of_change_and (C := Tryz.checked) (X := fun w _ => laidMetH Tryz.prog Rows.fnLiePathRow.laid w) (fun _ _ _ hh h => h.of_heap hh) own started (by kernel_rfl) Tryz.func4
    (ChangeSpec.witness_shaped (enc := enc) (C := Tryz.checked) (os := os) (X := fun w _ => laidMetH Tryz.prog Rows.fnLiePathRow.laid w) false (World.doorLaid Tryz.prog 21 os) #[.slice none 0 0] 8 rfl (World.shaped_of_RefB (by kernel_rfl) (by kernel_rfl)) (by kernel_rfl) (by kernel_rfl) (by kernel_rfl) (door_met os _)) ?_
  intro W base args ds gs before hval0 hW _ _ hL _
  have hval : ∀ (j : Nat) t v, Tryz.f4.params[j]? = some t → args[j]? = some v → Value.okWide Tryz.prog W .any base t v := hval0
  have hW' := hW
  obtain ⟨p, q, hA0, hV, rfl, hfz, hnd⟩ := hW
  have hA : DataW.TrodAll enc Tryz.prog W 0 (fun _ => true) true Tryz.f4.params.toList args.toList ds p := hA0
  rw [Tryz.params4] at hA hval
  obtain ⟨v0, vs0, d0, ds0, p0, q0, hargs, rfl, rfl, h0, r0⟩ := trodAll_cons hA
  obtain ⟨rfl, rfl, rfl⟩ := trodAll_nil r0
  obtain rfl : args = #[v0] := by cases args; simp_all
  have hV' := hV
  obtain ⟨g_, t_, cs_, fuel_, dg1, p_, rfl, _⟩ := trodVars_one hV'
  have hG := gok_of_laid hL
  have k0 := h0
  have lt0 : ∀ x ∈ p0, x.block < W.heap.size := by obtain ⟨m, hm⟩ := k0; exact DataW.trod_lt m _ _ _ hm
  obtain ⟨A0, n0, c0, rfl⟩ := okWide_slice Tryz.underlying22 (hval 0 22 v0 rfl rfl)
  obtain ⟨fuel0, hf0⟩ := h0
  obtain ⟨l0, ⟨A0', c0', he0, hc0, hr0⟩, hg0⟩ := (opens_slice Tryz.underlying22 (by kernel_rfl) (opens_int Tryz.underlying5)) H enc W fuel0 [.slice A0 n0 c0] _ (by simpa [Value.cells] using hf0)
  simp only [List.cons.injEq, Value.slice.injEq, and_true] at he0
  obtain ⟨rfl, rfl, rfl⟩ := he0
  clear hA0 hval0
  obtain ⟨k, hk⟩ := Q l0 (len_le hr0) hg0
  refine (laws_FnLiePath.calls k A0 c0 l0 true W hG hr0 hc0 hk).mono fun e W' he => ?_
  obtain ⟨rfl, bel0⟩ := he
  have bel : Below W.heap.size W W' := bel0
  exact ⟨_, rfl, _, _, _, [], _, _, hW', trodAll_mk1 (shut_bool Tryz.underlying4 _), (trodAll_cons_mk (Below.trod laidOut (by kernel_rfl) (of_decide_eq_true (by kernel_rfl)) k0 bel lt0) trodAll_mk0), Below.trodVars laidOut bel (by kernel_rfl) hV, bel.frame _, fun h => by cases h⟩
/-- Where the row's condition is met, at the tape of noughts. -/
theorem fit (os : Os) (H : Type) (enc : TypeId × Value → H) : ∃ (w : World) (tape : Tape) (i : Input), w.os = os ∧ (w.forCall tape i).Shaped Tryz.prog ∧ i.vars = [] ∧ Input.okWide Tryz.prog (w.forCall tape i) .any w.heap.size 4 i ∧
    ((Rows.fnLiePathSpec.pre enc Tryz.prog Tryz.f4 [] false (w.forCall tape i).memory i.args ∧ laidMetH Tryz.prog Rows.fnLiePathRow.laid (w.forCall tape i).memory) ∧ sizedMet enc Tryz.prog Tryz.f4 (OpenSpec.ofChange Rows.fnLiePathSpec) false (w.forCall tape i).memory i.args) ∧ ({ calm := true } : Assume).holds Tryz.prog (lone (Frame.enter Tryz.prog 4 i.args .normal) [] (w.forCall tape i)) :=
  witness_shapedC (enc := enc) (C := Tryz.checked) (os := os) (X := fun w _ => laidMetH Tryz.prog Rows.fnLiePathRow.laid w) (World.doorLaid Tryz.prog 21 os) #[.slice none 0 0] 8 rfl (World.shaped_of_RefB (by kernel_rfl) (by kernel_rfl)) (by kernel_rfl) (by kernel_rfl) (by kernel_rfl) (door_met os _)
theorem over (Q : Pure0) : Rows.fnLiePathRow.holds Tryz.pinned (OpenSpec.ofChange Rows.fnLiePathSpec) :=
  OpenClaim.holds_of_wide_leaving_time 4 Tryz.f4 rfl rfl rfl rfl rfl rfl rfl ⟨rfl, rfl, rfl, rfl, rfl⟩ rfl rfl rfl rfl rfl (by kernel_rfl) Tryz.func4 (by kernel_rfl)
    (of_decide_eq_true (by kernel_rfl)) (by unfold Func.isWrapper; first | (rw [if_pos (by decide +kernel)]; kernel_rfl) | (rw [if_neg (by decide +kernel)]; exact ⟨rfl, rfl⟩))
    (fun os started H enc _ F => leaving_time (F := F) (lifted Q os started H enc) (fit os H enc))
/-- The tied card. -/
theorem card (Q : Pure0) : Rows.FnLiePathCardSaid :=
  card_goes .later [.handle, .data] true (true, "10d55dc42151afb9068f54844daa77037aaf93214e4ea4ca397db9885bf34b77") true (over Q) (by kernel_rfl) fnLiePath_row_tie rfl ⟨rfl, rfl⟩ (by kernel_rfl) rfl
    (fun f fn hf hfn => by
      obtain rfl : f = 4 := Option.some.inj ((show Tryz.prog.funcNamed "loop.example/s02884/laws.FnLiePath" = some 4 by kernel_rfl).symm.trans hf) |>.symm
      obtain rfl : fn = Tryz.f4 := (Option.some.inj (Tryz.func4.symm.trans hfn)).symm
      refine ⟨by kernel_rfl, fun j t ht => ?_⟩
      rw [Tryz.params4] at ht
      have ha : (#[22] : Array TypeId).all (fun t => !Tryz.prog.wantsStandIn t) = true := by kernel_rfl
      have h1 := (Array.all_eq_true_iff_forall_mem.1 ha) t (Array.mem_of_getElem? ht)
      have h2 : Tryz.prog.wantsStandIn t = false := by simpa using h1
      exact h2)
    (by kernel_rfl)
end Go.Proofs.YtajkbbifemeanaaGreatDoor.fnLiePath
end
section
set_option linter.unusedVariables false
namespace Go.Proofs.YtajkbbifemeanaaGreatDoor.Pure
open Go Go.RowKit Go.Proofs.YtajkbbifemeanaaGreatDoor Go.Proofs.YtajkbbifemeanaaGreatDoorW.PrintWords
theorem w64 (x : Int) (h : -9223372036854775808 ≤ x ∧ x ≤ 9223372036854775807) : wrap64 x = x := by unfold wrap64; omega
theorem wsucc (i : Nat) (h : i < 9223372036854775807) : wrap64 ((i : Int) + 1) = ((i + 1 : Nat) : Int) := by unfold wrap64; omega
theorem rdS (l : List ByteArray) (i : Nat) (h : i < l.length) : rdOf ByteArray.empty l (i : Int) = l[i] := by
  simp [rdOf, List.getD, h]
end Go.Proofs.YtajkbbifemeanaaGreatDoor.Pure
end
section
set_option linter.unusedVariables false
set_option linter.unusedSimpArgs false
namespace Go.Proofs.YtajkbbifemeanaaGreatDoor.Pure
open Go Go.RowKit Go.Proofs.YtajkbbifemeanaaGreatDoor Go.Proofs.YtajkbbifemeanaaGreatDoor.L Go.Proofs.YtajkbbifemeanaaGreatDoorW.PrintWords Go.Proofs.YtajkbbifemeanaaGreatDoorW.PrintMore Go.Proofs.YtajkbbifemeanaaGreatDoorW.PrintLast
/-- From some number of rounds on the answer stands, and it is so. -/
def EvP {α : Type} (F : Nat → Option α) (P : α → Prop) : Prop := ∃ r, Ev F r ∧ P r
theorem EvP.now {α : Type} {P : α → Prop} (r : α) (h : P r) : EvP (fun _ => some r) P := ⟨r, Ev.now r, h⟩
theorem EvP.bind {α β : Type} {F : Nat → Option α} {G : Nat → α → Option β} {P : α → Prop} {Q : β → Prop} (h : EvP F P) (k : ∀ r, P r → EvP (fun n => G n r) Q) : EvP (fun n => (F n).bind (G n)) Q := by
  obtain ⟨r, hr, hp⟩ := h
  obtain ⟨s, hs, hq⟩ := k r hp
  exact ⟨s, hr.bind hs, hq⟩
theorem EvP.step {α : Type} {F G : Nat → Option α} {P : α → Prop} (h : ∀ k, F (k + 1) = G k) (k : EvP G P) : EvP F P := by
  obtain ⟨r, hr, hp⟩ := k
  exact ⟨r, Ev.step h hr, hp⟩
theorem EvP.congr {α : Type} {F G : Nat → Option α} {P : α → Prop} (h : ∀ k, F k = G k) (k : EvP G P) : EvP F P := by
  obtain ⟨r, hr, hp⟩ := k
  exact ⟨r, Ev.congr h hr, hp⟩
theorem EvP.pos {α : Type} {c : Prop} [Decidable c] {f g : Nat → Option α} {P : α → Prop} (h : c) (hf : EvP f P) : EvP (fun k => if c then f k else g k) P := by
  simpa only [if_pos h] using hf
theorem EvP.neg {α : Type} {c : Prop} [Decidable c] {f g : Nat → Option α} {P : α → Prop} (h : ¬ c) (hf : EvP g P) : EvP (fun k => if c then f k else g k) P := by
  simpa only [if_neg h] using hf
theorem EvP.mono {α : Type} {F : Nat → Option α} {P Q : α → Prop} (h : EvP F P) (k : ∀ r, P r → Q r) : EvP F Q := by
  obtain ⟨r, hr, hp⟩ := h
  exact ⟨r, hr, k r hp⟩
theorem rdOf_mem {α : Type} (d : α) (y : List α) (r : Int) (h0 : 0 ≤ r) (h1 : r < (y.length : Int)) : rdOf d y r ∈ y := by
  have h : r.toNat < y.length := by omega
  unfold rdOf
  rw [List.getD_eq_getElem?_getD, List.getElem?_eq_getElem h]
  exact List.getElem_mem h
theorem rd_mem (y : List Int) (r : Int) (h0 : 0 ≤ r) (h1 : r < (y.length : Int)) : rd y r ∈ y := by
  have h : r.toNat < y.length := by omega
  unfold rd
  rw [List.getD_eq_getElem?_getD, List.getElem?_eq_getElem h]
  exact List.getElem_mem h
/-- The reader of code: how far it may be; its seed. -/
def Cu (b a s : Int) : Prop := 0 ≤ a ∧ a ≤ b ∧ 0 ≤ s ∧ s < 2147483648
theorem Cu.mono {b b' a s : Int} (h : Cu b a s) (hb : b ≤ b') : Cu b' a s := ⟨h.1, by have := h.2.1; omega, h.2.2⟩
/-- A code: bytes, not too many. -/
def CodeOk (code : List Int) : Prop := (∀ x ∈ code, 0 ≤ x ∧ x ≤ 255) ∧ code.length ≤ 1048576
theorem byte_ok {code : List Int} (hC : CodeOk code) {b a s : Int} (hc : Cu b a s) (hb : b ≤ 1000000000000) :
    ∃ r a' s', spec_l1Cur_byte.f code a s = some (r, a', s') ∧ 0 ≤ r ∧ r ≤ 255 ∧ Cu (b + 1) a' s' := by
  obtain ⟨h0, h1, h2, h3⟩ := hc
  have hl := hC.2
  unfold spec_l1Cur_byte.f
  have e1 : wrap64 (a + 1) = a + 1 := w64 _ (by omega)
  have e2 : wrap64 (40 * (code.length : Int)) = 40 * (code.length : Int) := w64 _ (by omega)
  have e3 : wrap64 (200 + 40 * (code.length : Int)) = 200 + 40 * (code.length : Int) := w64 _ (by omega)
  have e4 : wrap64 (s * 1103515245) = s * 1103515245 := w64 _ (by omega)
  have e5 : wrap64 (s * 1103515245 + 12345) = s * 1103515245 + 12345 := w64 _ (by omega)
  have e6 : wrap64 (a + 1 - 1) = a := by rw [w64 _ (by omega)]; omega
  rw [e1, e2, e3, e4, e5, e6]
  by_cases c1 : a + 1 > 200 + 40 * (code.length : Int)
  · rw [if_pos c1]
    exact ⟨_, _, _, rfl, by omega, by omega, by omega, by omega, h2, h3⟩
  · rw [if_neg c1]
    by_cases c2 : a + 1 > (code.length : Int)
    · rw [if_pos c2]
      have t1 := Int.tmod_nonneg (a := s * 1103515245 + 12345) 2147483648 (by omega)
      have t2 := Int.tmod_lt_of_pos (s * 1103515245 + 12345) (b := 2147483648) (by omega)
      have t3 := Int.tdiv_eq_ediv_of_nonneg (a := Int.tmod (s * 1103515245 + 12345) 2147483648) (b := 65536) t1
      have t4 : 0 ≤ Int.tdiv (Int.tmod (s * 1103515245 + 12345) 2147483648) 65536 ∧ Int.tdiv (Int.tmod (s * 1103515245 + 12345) 2147483648) 65536 ≤ 2147483648 := by rw [t3]; omega
      have t5 : wrap64 (Int.tdiv (Int.tmod (s * 1103515245 + 12345) 2147483648) 65536) = Int.tdiv (Int.tmod (s * 1103515245 + 12345) 2147483648) 65536 := w64 _ (by omega)
      rw [t5]
      have t6 := Int.tmod_nonneg (a := Int.tdiv (Int.tmod (s * 1103515245 + 12345) 2147483648) 65536) 256 t4.1
      have t7 := Int.tmod_lt_of_pos (Int.tdiv (Int.tmod (s * 1103515245 + 12345) 2147483648) 65536) (b := 256) (by omega)
      exact ⟨_, _, _, rfl, t6, by omega, by omega, by omega, t1, t2⟩
    · rw [if_neg c2, if_pos h0, if_pos (by omega)]
      have hr := hC.1 _ (rd_mem code a h0 (by omega))
      have w1 : wrap64 (rd code a) = rd code a := w64 _ (by omega)
      have w2 : wrap64 (s * 31) = s * 31 := w64 _ (by omega)
      have w3 : wrap64 (s * 31 + rd code a) = s * 31 + rd code a := w64 _ (by omega)
      have w4 : wrap64 (s * 31 + rd code a + 7) = s * 31 + rd code a + 7 := w64 _ (by omega)
      rw [w1, w2, w3, w4]
      have t1 := Int.tmod_nonneg (a := s * 31 + rd code a + 7) 2147483648 (by omega)
      have t2 := Int.tmod_lt_of_pos (s * 31 + rd code a + 7) (b := 2147483648) (by omega)
      exact ⟨_, _, _, rfl, hr.1, hr.2, by omega, by omega, t1, t2⟩
theorem pick_ok {code : List Int} (hC : CodeOk code) {b a s : Int} (n : Int) (hn : 1 ≤ n) (hn2 : n ≤ 65536) (hc : Cu b a s) (hb : b ≤ 900000000000) :
    ∃ r a' s', spec_l1Cur_pick.f code a s n = some (r, a', s') ∧ 0 ≤ r ∧ r < n ∧ Cu (b + 2) a' s' := by
  unfold spec_l1Cur_pick.f
  by_cases c1 : n ≤ 1
  · rw [if_pos c1]
    exact ⟨_, _, _, rfl, by omega, by omega, hc.mono (by omega)⟩
  · rw [if_neg c1]
    obtain ⟨r, a', s', e, r0, r1, hc'⟩ := byte_ok hC hc (by omega)
    by_cases c2 : n ≤ 256
    · rw [if_pos c2, e, Option.bind_some, if_neg (by omega)]
      exact ⟨_, _, _, rfl, Int.tmod_nonneg _ r0, Int.tmod_lt_of_pos _ (by omega), hc'.mono (by omega)⟩
    · rw [if_neg c2, e, Option.bind_some]
      obtain ⟨r2, a2, s2, e2, r20, r21, hc2⟩ := byte_ok hC hc' (by omega)
      have w1 : wrap64 (r * 256) = r * 256 := w64 _ (by omega)
      have w2 : wrap64 (r * 256 + r2) = r * 256 + r2 := w64 _ (by omega)
      dsimp only
      rw [e2, Option.bind_some, if_neg (by omega)]
      dsimp only
      rw [w1, w2]
      exact ⟨_, _, _, rfl, Int.tmod_nonneg _ (by omega), Int.tmod_lt_of_pos _ (by omega), hc2.mono (by omega)⟩
theorem strOfNums_sizeC (l : List Int) : (strOfNums l).size = l.length := by simp [strOfNums, ByteArray.size]
theorem bytes_l0 {code : List Int} (hC : CodeOk code) (n d : Nat) : ∀ (i : Nat) (l : List Int) (a s b : Int), i + d = n → n ≤ 1000 → l.length + d ≤ 2000 → Cu b a s → b + 2 * (d : Int) ≤ 100000000000 →
    EvP (fun k => spec_l1DrawBytes.l0 k l (n : Int) (i : Int) code a s) (fun r => r.1.size = l.length + d ∧ Cu (b + 2 * (d : Int)) r.2.1 r.2.2) := by
  induction d with
  | zero =>
    intro i l a s b hi hn hl hc hb
    exact EvP.step (fun k => by rw [spec_l1DrawBytes.l0, if_neg (by omega)]) (EvP.now _ ⟨strOfNums_sizeC l, hc.mono (by show b ≤ b + 2 * ((0 : Nat) : Int); omega)⟩)
  | succ d ih =>
    intro i l a s b hi hn hl hc hb
    obtain ⟨q, a', s', e, q0, q1, hc'⟩ := pick_ok hC 256 (by decide) (by decide) hc (by omega)
    refine EvP.step (G := fun k => spec_l1DrawBytes.l0 k (l ++ [q % 256]) (n : Int) ((i + 1 : Nat) : Int) code a' s') (fun k => by rw [spec_l1DrawBytes.l0, if_pos (by omega), e, Option.bind_some, if_pos (by omega), wsucc i (by omega)]) ?_
    exact (ih (i + 1) _ _ _ (b + 2) (by omega) hn (by simp; omega) hc' (by omega)).mono fun r h => ⟨by rw [h.1, List.length_append, List.length_singleton]; omega, h.2.mono (by omega)⟩
theorem bytes_ok {code : List Int} (hC : CodeOk code) (most : Int) (hm : 0 ≤ most ∧ most ≤ 100) {a s b : Int} (hc : Cu b a s) (hb : b ≤ 10000000000) :
    EvP (fun k => spec_l1DrawBytes.f k code a s most) (fun r => (r.1.size : Int) ≤ most ∧ Cu (b + 300) r.2.1 r.2.2) := by
  unfold spec_l1DrawBytes.f
  rw [w64 (most + 1) (by omega)]
  obtain ⟨q, a', s', e, q0, q1, hc'⟩ := pick_ok hC (most + 1) (by omega) (by omega) hc (by omega)
  simp only [e, Option.bind_some]
  obtain ⟨n, rfl⟩ : ∃ n : Nat, q = n := ⟨q.toNat, by omega⟩
  exact (bytes_l0 hC n n 0 [] a' s' (b + 2) (by omega) (by omega) (by simp; omega) hc' (by omega)).mono fun r h => ⟨by have := h.1; simp only [List.length_nil] at this; omega, h.2.mono (by omega)⟩
theorem EvP.ev {α : Type} {F : Nat → Option α} {r : α} (h : Ev F r) : EvP F (fun x => x = r) := ⟨r, h, rfl⟩
theorem EvP.ite {α : Type} {c : Prop} [Decidable c] {f g : Nat → Option α} {P : α → Prop} (hf : c → EvP f P) (hg : ¬ c → EvP g P) : EvP (fun k => if c then f k else g k) P := by
  by_cases h : c
  · exact EvP.pos h (hf h)
  · exact EvP.neg h (hg h)
end Go.Proofs.YtajkbbifemeanaaGreatDoor.Pure
end
section
set_option linter.unusedVariables false
set_option linter.unusedSimpArgs false
namespace Go.Proofs.YtajkbbifemeanaaGreatDoor.Pure
open Go Go.RowKit Go.Proofs.YtajkbbifemeanaaGreatDoor Go.Proofs.YtajkbbifemeanaaGreatDoor.L Go.Proofs.YtajkbbifemeanaaGreatDoorW.PrintWords Go.Proofs.YtajkbbifemeanaaGreatDoorW.PrintMore Go.Proofs.YtajkbbifemeanaaGreatDoorW.PrintLast
def ls (n : Nat) (f : Nat → Int) : List Int := (List.range n).map f
theorem ls_len (n : Nat) (f : Nat → Int) : (ls n f).length = n := by simp [ls]
theorem rd_ls (n : Nat) (f : Nat → Int) (i : Nat) (h : i < n) : rd (ls n f) (i : Int) = f i := by
  simp [rd, ls, List.getD, h]
theorem ls_snoc (n : Nat) (f : Nat → Int) (v : Int) (h : f n = v) : ls n f ++ [v] = ls (n + 1) f := by
  subst h
  simp [ls, List.range_succ]
theorem or_comm32 (a b : Int) : Go.bits .or .u32 a b = Go.bits .or .u32 b a := by
  simp only [Go.bits, BitVec.or_comm]
theorem turn_eq (x : Int) (n : Int) (h0 : 0 ≤ n) (h1 : n ≤ 32) : spec_l1Turn.f x n = some (rotI x n) := by
  have hw : wrap64 (32 - n) = 32 - n := by unfold wrap64; omega
  rw [spec_l1Turn.f, if_pos h0, hw, if_pos (by omega), rotI, or_comm32]
/-- The number that so many bytes from 'at' on make, the first the highest. -/
def getN (s : ByteArray) (at_ : Int) : Nat → Int
  | 0 => 0
  | i + 1 => getN s at_ i * 256 + bt s (at_ + i)
theorem getN_range (s : ByteArray) (at_ : Int) (i : Nat) : 0 ≤ getN s at_ i ∧ getN s at_ i < 256 ^ i := by
  induction i with
  | zero => simp [getN]
  | succ i ih =>
    have hb := bt_range s (at_ + i)
    rw [getN, Int.pow_succ]
    omega
theorem getN_le (s : ByteArray) (at_ : Int) (i : Nat) (hi : i ≤ 4) : 0 ≤ getN s at_ i ∧ getN s at_ i < 4294967296 := by
  have h := getN_range s at_ i
  have : i = 0 ∨ i = 1 ∨ i = 2 ∨ i = 3 ∨ i = 4 := by omega
  rcases this with rfl | rfl | rfl | rfl | rfl <;> omega
theorem get_l0 (s : ByteArray) (a : Nat) (ha : a + 4 ≤ s.size) (hs : s.size ≤ 1000) (d : Nat) : ∀ i : Nat, i + d = 4 →
    Ev (fun k => spec_l1Get.l0 k s (a : Int) 4 (getN s a i) (i : Int)) (getN s a 4) := by
  induction d with
  | zero =>
    intro i hi
    obtain rfl : i = 4 := by omega
    refine Ev.step (f := fun _ => some (getN s a 4)) (fun k => ?_) (Ev.now _)
    rw [spec_l1Get.l0, if_neg (by omega)]
  | succ d ih =>
    intro i hi
    have c1 : (i : Int) < 4 := by omega
    have c2 : 0 ≤ (a : Int) + (i : Int) := by omega
    have c3 : (a : Int) + (i : Int) < (s.size : Int) := by omega
    have hg := getN_le s a i (by omega)
    have hb := bt_range s ((a : Int) + (i : Int))
    have w1 : wrap64 ((a : Int) + (i : Int)) = (a : Int) + (i : Int) := by unfold wrap64; omega
    have w2 : wrap64 (bt s ((a : Int) + (i : Int))) = bt s ((a : Int) + (i : Int)) := by unfold wrap64; omega
    have w3 : wrap64 (getN s a i * 256) = getN s a i * 256 := by unfold wrap64; omega
    have w4 : wrap64 (getN s a i * 256 + bt s ((a : Int) + (i : Int))) = getN s a (i + 1) := by
      rw [getN]; unfold wrap64; omega
    have w5 : wrap64 ((i : Int) + 1) = ((i + 1 : Nat) : Int) := by unfold wrap64; omega
    refine Ev.step (f := fun k => spec_l1Get.l0 k s (a : Int) 4 (getN s a (i + 1)) ((i + 1 : Nat) : Int)) (fun k => ?_) (ih (i + 1) (by omega))
    rw [spec_l1Get.l0, if_pos c1, w1, if_pos c2, if_pos c3, w2, w3, w4, w5]
theorem get_ev (s : ByteArray) (a : Nat) (ha : a + 4 ≤ s.size) (hs : s.size ≤ 1000) : Ev (fun k => spec_l1Get.f k s (a : Int) 4) (getN s a 4) := by
  have h := get_l0 s a ha hs 4 0 (by omega)
  exact Ev.congr (f := fun k => spec_l1Get.l0 k s (a : Int) 4 (getN s a 0) ((0 : Nat) : Int)) (fun k => rfl) h
theorem or_bytes (a b : Int) (ha : 0 ≤ a) (ha2 : a < 16777216) (hb : 0 ≤ b) (hb2 : b ≤ 255) : Go.bits .or .u32 (a * 256 % 4294967296) (b % 4294967296) = a * 256 + b := by
  obtain ⟨x, rfl⟩ := Int.eq_ofNat_of_zero_le ha
  obtain ⟨y, rfl⟩ := Int.eq_ofNat_of_zero_le hb
  have h1 : ((x : Int) * 256 % 4294967296) = ((x * 256 : Nat) : Int) := by omega
  have h2 : ((y : Int) % 4294967296) = ((y : Nat) : Int) := by omega
  have hx : x * 256 < 4294967296 := by omega
  have hy : y < 4294967296 := by omega
  have hor : x * 256 ||| y = x * 256 + y := by
    have := Nat.two_pow_add_eq_or_of_lt (i := 8) (b := y) (by omega) x
    rw [Nat.mul_comm x 256]
    exact this.symm
  show Go.bits .or .u32 ((x : Int) * 256 % 4294967296) ((y : Int) % 4294967296) = (x : Int) * 256 + (y : Int)
  rw [h1, h2]
  simp only [Go.bits, BitVec.ofInt_natCast, BitVec.toNat_or, BitVec.toNat_ofNat]
  rw [Nat.mod_eq_of_lt (show x * 256 < 2 ^ IntKind.u32.bits from hx), Nat.mod_eq_of_lt (show y < 2 ^ IntKind.u32.bits from hy), hor, IntKind.wrap_u32]
  omega
theorem ld_get (b : ByteArray) (j : Nat) (k : Nat) (hk : k ≤ 4) : ld b j k = getN b ((4 * j : Nat) : Int) k := by
  induction k with
  | zero => rfl
  | succ k ih =>
    have hg := getN_range b ((4 * j : Nat) : Int) k
    have hb := bt_range b (((4 * j : Nat) : Int) + k)
    have hlt : getN b ((4 * j : Nat) : Int) k < 16777216 := by
      have : k = 0 ∨ k = 1 ∨ k = 2 ∨ k = 3 := by omega
      rcases this with rfl | rfl | rfl | rfl <;> omega
    rw [ld, getN, ih (by omega), show 4 * (j : Int) + (k : Int) = ((4 * j : Nat) : Int) + k from by omega, or_bytes _ _ hg.1 hlt hb.1 hb.2]
theorem wst_keep (b : ByteArray) (n d : Nat) : ∀ j, j < n + 16 → wst b (n + d) j = wst b n j := by
  induction d with
  | zero => intro j _; rfl
  | succ d ih =>
    intro j hj
    show wst b ((n + d) + 1) j = _
    rw [wst]
    show (if j = n + d + 16 then _ else wst b (n + d) j) = _
    rw [if_neg (by omega)]
    exact ih j hj
theorem word_low (b : ByteArray) (t : Nat) (ht : t < 16) : wst b 48 t = getN b ((4 * t : Nat) : Int) 4 := by
  have := wst_keep b 0 48 t (by omega)
  rw [show 0 + 48 = 48 from rfl] at this
  rw [this, wst, ph1, if_pos ht, ld_get b t 4 (by omega)]
theorem word_high (b : ByteArray) (t : Nat) (ht : 16 ≤ t) (h64 : t < 64) : wst b 48 t = wnx (wst b 48) t := by
  obtain ⟨n, rfl⟩ : ∃ n, t = n + 16 := ⟨t - 16, by omega⟩
  have k1 := wst_keep b (n + 1) (47 - n) (n + 16) (by omega)
  rw [show n + 1 + (47 - n) = 48 from by omega] at k1
  have k2 : ∀ j, j < n + 16 → wst b 48 j = wst b n j := fun j hj => by
    have := wst_keep b n (48 - n) j hj
    rwa [show n + (48 - n) = 48 from by omega] at this
  rw [k1, wst]
  show (if n + 16 = n + 16 then wnx (wst b n) (n + 16) else _) = _
  rw [if_pos rfl, wnx, wnx, k2 (n + 16 - 16) (by omega), k2 (n + 16 - 15) (by omega), k2 (n + 16 - 7) (by omega), k2 (n + 16 - 2) (by omega)]
theorem words_l0 (b : ByteArray) (hb : b.size = 64) (d : Nat) : ∀ t : Nat, t + d = 64 → Ev (fun k => spec_l1Words.l0 k b (ls t (wst b 48)) (t : Int)) (ls 64 (wst b 48)) := by
  induction d with
  | zero =>
    intro t ht
    obtain rfl : t = 64 := by omega
    refine Ev.step (f := fun _ => some (ls 64 (wst b 48))) (fun k => ?_) (Ev.now _)
    rw [spec_l1Words.l0, if_neg (by omega)]
  | succ d ih =>
    intro t ht
    have w5 : wrap64 ((t : Int) + 1) = ((t + 1 : Nat) : Int) := by unfold wrap64; omega
    have hlen := ls_len t (wst b 48)
    by_cases h16 : t < 16
    · have w4 : wrap64 (4 * (t : Int)) = ((4 * t : Nat) : Int) := by unfold wrap64; omega
      have hg := getN_le b ((4 * t : Nat) : Int) 4 (by omega)
      refine Ev.step (f := fun k => (spec_l1Get.f k b ((4 * t : Nat) : Int) 4).bind fun v => if (ls t (wst b 48)).length < 35184372088832 then spec_l1Words.l0 k b (ls t (wst b 48) ++ [v % 4294967296]) ((t + 1 : Nat) : Int) else none) (fun k => ?_) ?_
      · rw [spec_l1Words.l0, if_pos (by omega), if_pos (by omega), w4, w5]
      · refine (get_ev b (4 * t) (by omega) (by omega)).bind ?_
        have hs := ls_snoc t (wst b 48) (getN b ((4 * t : Nat) : Int) 4 % 4294967296) (by rw [word_low b t h16]; omega)
        simp only [hlen, if_pos (show t < 35184372088832 by omega), hs]
        exact ih (t + 1) (by omega)
    · have e15 : wrap64 ((t : Int) - 15) = ((t - 15 : Nat) : Int) := by unfold wrap64; omega
      have e2 : wrap64 ((t : Int) - 2) = ((t - 2 : Nat) : Int) := by unfold wrap64; omega
      have e16 : wrap64 ((t : Int) - 16) = ((t - 16 : Nat) : Int) := by unfold wrap64; omega
      have e7 : wrap64 ((t : Int) - 7) = ((t - 7 : Nat) : Int) := by unfold wrap64; omega
      refine Ev.step (f := fun k => spec_l1Words.l0 k b (ls (t + 1) (wst b 48)) ((t + 1 : Nat) : Int)) (fun k => ?_) (ih (t + 1) (by omega))
      rw [spec_l1Words.l0, if_pos (by omega), if_neg (by omega), e15, e2, e16, e7, w5, hlen, if_pos (by omega), if_pos (by omega), if_pos (by omega), if_pos (by omega)]
      rw [rd_ls _ _ (t - 15) (by omega), rd_ls _ _ (t - 2) (by omega), rd_ls _ _ (t - 16) (by omega), rd_ls _ _ (t - 7) (by omega)]
      simp only [turn_eq _ 7 (by decide) (by decide), turn_eq _ 18 (by decide) (by decide), turn_eq _ 17 (by decide) (by decide), turn_eq _ 19 (by decide) (by decide), Option.bind_some]
      rw [if_pos (by omega), if_pos (by omega), if_pos (by omega), if_pos (by omega), if_pos (by omega)]
      rw [ls_snoc t (wst b 48) _ (by rw [word_high b t (by omega) (by omega), wnx])]
theorem words_ev (b : ByteArray) (hb : b.size = 64) : Ev (fun k => spec_l1Words.f k b) (ls 64 (wst b 48)) := by
  refine Ev.congr (fun k => ?_) (words_l0 b hb 64 0 (by omega))
  rw [spec_l1Words.f]
  rfl
theorem keys_eq : spec_l1Keys.f = some kw := by
  unfold spec_l1Keys.f
  rfl
theorem ls8 (f : Nat → Int) : ls 8 f = [f 0, f 1, f 2, f 3, f 4, f 5, f 6, f 7] := rfl
theorem kw_len : kw.length = 64 := rfl
theorem block_l1 (st g : Nat → Int) (d : Nat) : ∀ i : Nat, i + d = 8 →
    Ev (fun k => spec_l1Block.l1 k (ls 8 st) (ls 8 g) (ls i (fin g st 8)) 8 (i : Int)) (ls 8 (fin g st 8)) := by
  induction d with
  | zero =>
    intro i hi
    obtain rfl : i = 8 := by omega
    refine Ev.step (f := fun _ => some (ls 8 (fin g st 8))) (fun k => ?_) (Ev.now _)
    rw [spec_l1Block.l1, if_neg (by omega)]
  | succ d ih =>
    intro i hi
    have w5 : wrap64 ((i : Int) + 1) = ((i + 1 : Nat) : Int) := by unfold wrap64; omega
    refine Ev.step (f := fun k => spec_l1Block.l1 k (ls 8 st) (ls 8 g) (ls (i + 1) (fin g st 8)) 8 ((i + 1 : Nat) : Int)) (fun k => ?_) (ih (i + 1) (by omega))
    rw [spec_l1Block.l1, if_pos (by omega), if_pos (by omega), ls_len, ls_len, ls_len, if_pos (by omega), if_pos (by omega), if_pos (by omega), rd_ls 8 g i (by omega), rd_ls 8 st i (by omega), w5]
    rw [ls_snoc i (fin g st 8) _ (by simp [fin]; omega)]
theorem block_l0 (st W : Nat → Int) (d : Nat) : ∀ t : Nat, t + d = 64 →
    Ev (fun k => spec_l1Block.l0 k (ls 8 st) kw (ls 8 (rds st W t)) (ls 64 W) 64 (t : Int)) (ls 8 (fin (rds st W 64) st 8)) := by
  induction d with
  | zero =>
    intro t ht
    obtain rfl : t = 64 := by omega
    refine Ev.step (f := fun k => spec_l1Block.l1 k (ls 8 st) (ls 8 (rds st W 64)) (ls 0 (fin (rds st W 64) st 8)) 8 ((0 : Nat) : Int)) (fun k => ?_) (block_l1 st (rds st W 64) 8 0 rfl)
    rw [spec_l1Block.l0, if_neg (by omega), ls_len]
    rfl
  | succ d ih =>
    intro t ht
    have w5 : wrap64 ((t : Int) + 1) = ((t + 1 : Nat) : Int) := by unfold wrap64; omega
    refine Ev.step (f := fun k => spec_l1Block.l0 k (ls 8 st) kw (ls 8 (rds st W (t + 1))) (ls 64 W) 64 ((t + 1 : Nat) : Int)) (fun k => ?_) (ih (t + 1) (by omega))
    obtain ⟨g, hg⟩ : ∃ g, rds st W t = g := ⟨_, rfl⟩
    have hk : rd kw (t : Int) = kw.getD t 0 := by simp [rd]
    have r0 : rd (ls 8 g) 0 = g 0 := rd_ls 8 g 0 (by omega)
    have r1 : rd (ls 8 g) 1 = g 1 := rd_ls 8 g 1 (by omega)
    have r2 : rd (ls 8 g) 2 = g 2 := rd_ls 8 g 2 (by omega)
    have r3 : rd (ls 8 g) 3 = g 3 := rd_ls 8 g 3 (by omega)
    have r4 : rd (ls 8 g) 4 = g 4 := rd_ls 8 g 4 (by omega)
    have r5 : rd (ls 8 g) 5 = g 5 := rd_ls 8 g 5 (by omega)
    have r6 : rd (ls 8 g) 6 = g 6 := rd_ls 8 g 6 (by omega)
    have r7 : rd (ls 8 g) 7 = g 7 := rd_ls 8 g 7 (by omega)
    have hn : rds st W (t + 1) = rnd W t g := by rw [rds, hg]
    rw [hn, hg]
    rw [spec_l1Block.l0, if_pos (by omega), if_pos (by omega), ls_len, ls_len, if_pos (by omega), if_pos (by decide), if_pos (by decide), if_pos (by decide), kw_len]
    rw [r0, r1, r2, r3, r4, r5, r6, r7, hk, rd_ls 64 W t (by omega), w5]
    simp only [turn_eq _ 6 (by decide) (by decide), turn_eq _ 11 (by decide) (by decide), turn_eq _ 25 (by decide) (by decide), turn_eq _ 2 (by decide) (by decide), turn_eq _ 13 (by decide) (by decide), turn_eq _ 22 (by decide) (by decide), Option.bind_some]
    rw [if_pos (by decide), if_pos (by decide), if_pos (by omega), if_pos (by decide), if_pos (by decide), if_pos (by decide)]
    rw [ls8 (rnd W t g)]
    simp only [rnd, rnd1, rnd2, Int.emod_add_emod, Int.add_emod_emod]
theorem block_ev (st : Nat → Int) (b : ByteArray) (hb : b.size = 64) : Ev (fun k => spec_l1Block.f k (ls 8 st) b) (ls 8 (cmp st b)) := by
  unfold spec_l1Block.f
  simp only [keys_eq, Option.bind_some, List.length_nil, ls_len, Nat.zero_add, List.nil_append, if_pos (show 8 < 35184372088832 by omega)]
  refine (words_ev b hb).bind ?_
  simp only [ls_len]
  exact block_l0 st (wst b 48) 64 0 rfl
theorem out_l2 (st : Nat → Int) (hr : ∀ j, j < 8 → 0 ≤ st j ∧ st j ≤ 4294967295) (d : Nat) : ∀ i : Nat, i + d = 8 →
    Ev (fun k => spec_Sha256.l2 k (shaOut st i) (ls 8 st) 8 (i : Int)) (shaOut st 8) := by
  induction d with
  | zero =>
    intro i hi
    obtain rfl : i = 8 := by omega
    refine Ev.step (f := fun _ => some (shaOut st 8)) (fun k => ?_) (Ev.now _)
    rw [spec_Sha256.l2, if_neg (by omega)]
  | succ d ih =>
    intro i hi
    have w5 : wrap64 ((i : Int) + 1) = ((i + 1 : Nat) : Int) := by unfold wrap64; omega
    have hs := hr i (by omega)
    have w1 : wrap64 (st i) = st i := by unfold wrap64; omega
    refine Ev.step (f := fun k => (spec_l1Num.f k 4 (st i)).bind fun v => if (shaOut st i).size + v.size ≤ 9223372036854775807 then spec_Sha256.l2 k (shaOut st i ++ v) (ls 8 st) 8 ((i + 1 : Nat) : Int) else none) (fun k => ?_) ?_
    · rw [spec_Sha256.l2, if_pos (by omega), if_pos (by omega), ls_len, if_pos (by omega), rd_ls 8 st i (by omega), w1, w5]
    · refine (spec_num 4 (st i) (by omega)).bind ?_
      simp only [shaOut_size, strOfNums_size, numB_length, if_pos (show 4 * i + 4 ≤ 9223372036854775807 by omega)]
      exact ih (i + 1) (by omega)
theorem sha_l1 (X : ByteArray) (n : Nat) (hn : X.size = 64 * n) (hX : X.size ≤ 2000000000000) (d : Nat) : ∀ i : Nat, i + d = n →
    Ev (fun k => spec_Sha256.l1 k X (ls 8 (shaSt X i)) ((64 * i : Nat) : Int)) (shaOut (shaSt X n) 8) := by
  induction d with
  | zero =>
    intro i hi
    obtain rfl : i = n := by omega
    refine Ev.step (f := fun k => spec_Sha256.l2 k (shaOut (shaSt X i) 0) (ls 8 (shaSt X i)) 8 ((0 : Nat) : Int)) (fun k => ?_) (out_l2 _ (fun j hj => shaSt_range X i j hj) 8 0 rfl)
    rw [spec_Sha256.l1, if_neg (by omega), ls_len]
    rfl
  | succ d ih =>
    intro i hi
    have w1 : wrap64 (((64 * i : Nat) : Int) + 64) = ((64 * (i + 1) : Nat) : Int) := by unfold wrap64; omega
    refine Ev.step (f := fun k => (spec_l1Block.f k (ls 8 (shaSt X i)) (X.extract (64 * i) (64 * i + 64))).bind fun v => spec_Sha256.l1 k X v ((64 * (i + 1) : Nat) : Int)) (fun k => ?_) ?_
    · rw [spec_Sha256.l1, if_pos (by omega), if_pos (by omega), w1, if_pos (by omega), if_pos (by omega)]
      rfl
    · refine (block_ev (shaSt X i) (X.extract (64 * i) (64 * i + 64)) (by rw [ByteArray.size_extract]; omega)).bind ?_
      exact ih (i + 1) (by omega)
theorem sha_l0 (s : ByteArray) (hs : s.size ≤ 1099511627776) (d : Nat) : ∀ t : ByteArray, padTo d t = shaPad s → d ≤ 63 →
    Ev (fun k => spec_Sha256.l0 k s t) (shaI s) := by
  induction d with
  | zero =>
    intro t ht _
    obtain rfl : t = shaPad s := ht
    have hm := shaPad_mod s
    have hz := shaPad_size s
    have w1 : wrap64 (8 * (s.size : Int)) = 8 * (s.size : Int) := by unfold wrap64; omega
    have htm := shaText_mod s
    have hts := shaText_le s
    refine Ev.step (f := fun k => (spec_l1Num.f k 8 (8 * (s.size : Int))).bind fun v => if (shaPad s).size + v.size ≤ 9223372036854775807 then spec_Sha256.l1 k (shaPad s ++ v) ([1779033703, 3144134277, 1013904242, 2773480762, 1359893119, 2600822924, 528734635, 1541459225] : List Int) 0 else none) (fun k => ?_) ?_
    · rw [spec_Sha256.l0, if_pos (by omega), w1]
    · refine (spec_num 8 (8 * (s.size : Int)) (by omega)).bind ?_
      simp only [strOfNums_size, numB_length, if_pos (show (shaPad s).size + 8 ≤ 9223372036854775807 by omega)]
      have h := sha_l1 (shaText s) ((shaText s).size / 64) (by omega) (by omega) ((shaText s).size / 64) 0 (by omega)
      exact h
  | succ d ih =>
    intro t ht hd
    have hsz := congrArg ByteArray.size ht
    rw [padTo_size, shaPad_size] at hsz
    refine Ev.step (f := fun k => spec_Sha256.l0 k s (t ++ ⟨#[0]⟩)) (fun k => ?_) (ih _ (show padTo d (t ++ ⟨#[0]⟩) = shaPad s from ht) (by omega))
    rw [spec_Sha256.l0, if_neg (by omega), if_pos (by omega)]
theorem spec_sha (s : ByteArray) (hs : s.size ≤ 1099511627776) : Ev (fun k => spec_Sha256.f k s) (shaI s) := by
  unfold spec_Sha256.f
  simp only [if_pos (show s.size + 1 ≤ 9223372036854775807 by omega)]
  exact sha_l0 s hs _ _ rfl (by omega)
end Go.Proofs.YtajkbbifemeanaaGreatDoor.Pure
end
section
set_option linter.unusedVariables false
set_option linter.unusedSimpArgs false
namespace Go.Proofs.YtajkbbifemeanaaGreatDoor.Pure
open Go Go.RowKit Go.Proofs.YtajkbbifemeanaaGreatDoor Go.Proofs.YtajkbbifemeanaaGreatDoor.L Go.Proofs.YtajkbbifemeanaaGreatDoorW.PrintWords Go.Proofs.YtajkbbifemeanaaGreatDoorW.PrintMore Go.Proofs.YtajkbbifemeanaaGreatDoorW.PrintLast
/-- The digest of a kind. -/
def dig (kind : Int) (s : ByteArray) : ByteArray := if kind = 0 then shaI s else if kind = 1 then (shaI s).extract 0 1 else ⟨#[]⟩
theorem dig_size (kind : Int) (s : ByteArray) : (dig kind s).size ≤ 32 := by
  have := shaI_size s
  unfold dig
  split
  · omega
  · split
    · rw [ByteArray.size_extract]; omega
    · show (0 : Nat) ≤ 32
      omega
theorem impl_sha (s : ByteArray) (hs : s.size ≤ 1099511627776) : impl_Sha256.f s = some (shaI s) := by rw [impl_Sha256.f, if_pos hs]
theorem impl_dig (kind : Int) (s : ByteArray) (hs : s.size ≤ 1099511627776) : impl_Digest.f kind s = some (dig kind s) := by
  have h1 : (1 : Int) ≤ ((shaI s).size : Int) := by rw [shaI_size]; decide
  unfold impl_Digest.f dig
  rw [impl_sha s hs]
  by_cases h : kind = 0
  · rw [if_pos h, if_pos h]; rfl
  · rw [if_neg h, if_neg h]
    by_cases h2 : kind = 1
    · rw [if_pos h2, if_pos h2]
      simp only [Option.bind_some, if_pos h1]
      rfl
    · rw [if_neg h2, if_neg h2]
theorem spec_dig (kind : Int) (s : ByteArray) (hs : s.size ≤ 1099511627776) : Ev (fun k => spec_Digest.f k kind s) (dig kind s) := by
  have h1 : (1 : Int) ≤ ((shaI s).size : Int) := by rw [shaI_size]; decide
  unfold spec_Digest.f dig
  by_cases h : kind = 0
  · simp only [if_pos h]
    exact (spec_sha s hs).bind (Ev.now _)
  · simp only [if_neg h]
    by_cases h2 : kind = 1
    · simp only [if_pos h2]
      refine (spec_sha s hs).bind ?_
      simp only [if_pos (show (0 : Int) ≤ 1 by decide), if_pos h1]
      exact Ev.now _
    · simp only [if_neg h2]
      exact Ev.now _
def leafB (kind : Int) (e : ByteArray) : ByteArray := dig kind ((⟨#[0]⟩ : ByteArray) ++ e)
def nodeB (kind : Int) (l r : ByteArray) : ByteArray := dig kind (((⟨#[1]⟩ : ByteArray) ++ l) ++ r)
theorem leafB_size (kind : Int) (e : ByteArray) : (leafB kind e).size ≤ 32 := dig_size _ _
theorem nodeB_size (kind : Int) (l r : ByteArray) : (nodeB kind l r).size ≤ 32 := dig_size _ _
theorem pre_size (b : UInt8) (e : ByteArray) : ((⟨#[b]⟩ : ByteArray) ++ e).size = 1 + e.size := by rw [ByteArray.size_append]; rfl
theorem impl_leaf (kind : Int) (e : ByteArray) (he : e.size ≤ 10000000000) : impl_Leaf.f kind e = some (leafB kind e) := by
  rw [impl_Leaf.f, if_pos (by omega), impl_dig kind _ (by rw [pre_size]; omega)]; rfl
theorem spec_leaf (kind : Int) (e : ByteArray) (he : e.size ≤ 10000000000) : Ev (fun k => spec_Leaf.f k kind e) (leafB kind e) := by
  unfold spec_Leaf.f
  simp only [if_pos (show 1 + e.size ≤ 9223372036854775807 by omega)]
  exact (spec_dig kind _ (by rw [pre_size]; omega)).bind (Ev.now _)
theorem impl_node (kind : Int) (l r : ByteArray) (hl : l.size ≤ 10000000000) (hr : r.size ≤ 10000000000) : impl_Node.f kind l r = some (nodeB kind l r) := by
  have hp := pre_size 1 l
  rw [impl_Node.f, if_pos (by omega), if_pos (by omega), impl_dig kind _ (by rw [ByteArray.size_append]; omega)]; rfl
theorem spec_node (kind : Int) (l r : ByteArray) (hl : l.size ≤ 10000000000) (hr : r.size ≤ 10000000000) : Ev (fun k => spec_Node.f k kind l r) (nodeB kind l r) := by
  have hp := pre_size 1 l
  unfold spec_Node.f
  simp only [if_pos (show 1 + l.size ≤ 9223372036854775807 by omega), if_pos (show ((⟨#[1]⟩ : ByteArray) ++ l).size + r.size ≤ 9223372036854775807 by omega)]
  exact (spec_dig kind _ (by rw [ByteArray.size_append]; omega)).bind (Ev.now _)
end Go.Proofs.YtajkbbifemeanaaGreatDoor.Pure
end
section
set_option linter.unusedVariables false
set_option linter.unusedSimpArgs false
namespace Go.Proofs.YtajkbbifemeanaaGreatDoor.Pure
open Go Go.RowKit Go.Proofs.YtajkbbifemeanaaGreatDoor Go.Proofs.YtajkbbifemeanaaGreatDoor.L Go.Proofs.YtajkbbifemeanaaGreatDoorW.PrintWords Go.Proofs.YtajkbbifemeanaaGreatDoorW.PrintMore Go.Proofs.YtajkbbifemeanaaGreatDoorW.PrintLast
/-- x doubled while the double is below n. -/
def dbl (n : Nat) : Nat → Nat → Nat
  | 0, x => x
  | f + 1, x => if 2 * x < n then dbl n f (2 * x) else x
def half (n : Nat) : Nat := dbl n n 1
theorem dbl_pow (n : Nat) (f : Nat) : ∀ x, ∃ j, dbl n f x = 2 ^ j * x := by
  induction f with
  | zero => intro x; exact ⟨0, by simp [dbl]⟩
  | succ f ih =>
    intro x
    rw [dbl]
    split
    · obtain ⟨j, hj⟩ := ih (2 * x)
      exact ⟨j + 1, by rw [hj, Nat.pow_succ]; simp [Nat.mul_assoc]⟩
    · exact ⟨0, by simp⟩
theorem dbl_lt (n : Nat) (f : Nat) : ∀ x, x < n → dbl n f x < n := by
  induction f with
  | zero => intro x h; exact h
  | succ f ih =>
    intro x h
    rw [dbl]
    split
    · exact ih _ (by assumption)
    · exact h
theorem dbl_ge (n : Nat) (f : Nat) : ∀ x, 1 ≤ x → n ≤ x + f → n ≤ 2 * dbl n f x := by
  induction f with
  | zero => intro x h1 h; rw [dbl]; omega
  | succ f ih =>
    intro x h1 h
    rw [dbl]
    split
    · exact ih _ (by omega) (by omega)
    · omega
theorem dbl_pos (n : Nat) (f : Nat) : ∀ x, 1 ≤ x → 1 ≤ dbl n f x := by
  induction f with
  | zero => intro x h; exact h
  | succ f ih =>
    intro x h
    rw [dbl]
    split
    · exact ih _ (by omega)
    · exact h
theorem half_lt (n : Nat) (h : 2 ≤ n) : half n < n := dbl_lt n n 1 (by omega)
theorem half_pos (n : Nat) : 1 ≤ half n := dbl_pos n n 1 (Nat.le_refl _)
theorem half_ge (n : Nat) : n ≤ 2 * half n := dbl_ge n n 1 (Nat.le_refl _) (by omega)
theorem half_pow (n : Nat) : ∃ j, half n = 2 ^ j := by
  obtain ⟨j, hj⟩ := dbl_pow n n 1
  exact ⟨j, by rw [half, hj, Nat.mul_one]⟩
theorem half_le (n m : Nat) (h : n ≤ 2 ^ (m + 1)) (h2 : 2 ≤ n) : half n ≤ 2 ^ m := by
  obtain ⟨j, hj⟩ := half_pow n
  have hlt := half_lt n h2
  rw [hj] at hlt ⊢
  have : j < m + 1 := (Nat.pow_lt_pow_iff_right (by decide : 1 < 2)).1 (by omega)
  exact Nat.pow_le_pow_right (by decide) (by omega)
theorem split_l0 (n : Nat) (hn : n ≤ 4000000000) (f : Nat) : ∀ x : Nat, 1 ≤ x → x < 8000000000 → n ≤ x + f → Ev (fun k => spec_l2Split.l0 k (n : Int) (x : Int)) ((dbl n f x : Nat) : Int) := by
  induction f with
  | zero =>
    intro x h1 hx h
    have w : wrap64 (2 * (x : Int)) = ((2 * x : Nat) : Int) := by unfold wrap64; omega
    refine Ev.step (f := fun _ => some (x : Int)) (fun k => ?_) (Ev.now _)
    rw [spec_l2Split.l0, w, if_neg (by omega)]
  | succ f ih =>
    intro x h1 hx h
    have w : wrap64 (2 * (x : Int)) = ((2 * x : Nat) : Int) := by unfold wrap64; omega
    rw [dbl]
    by_cases hc : 2 * x < n
    · rw [if_pos hc]
      refine Ev.step (f := fun k => spec_l2Split.l0 k (n : Int) ((2 * x : Nat) : Int)) (fun k => ?_) (ih (2 * x) (by omega) (by omega) (by omega))
      rw [spec_l2Split.l0, w, if_pos (by omega)]
    · rw [if_neg hc]
      refine Ev.step (f := fun _ => some (x : Int)) (fun k => ?_) (Ev.now _)
      rw [spec_l2Split.l0, w, if_neg (by omega)]
theorem split_ev (n : Nat) (hn : n ≤ 4000000000) : Ev (fun k => spec_l2Split.f k (n : Int)) ((half n : Nat) : Int) :=
  Ev.congr (fun k => rfl) (split_l0 n hn n 1 (by omega) (by omega) (by omega))
theorem below_l0 (n : Nat) (hn : n ≤ 4000000000) (f : Nat) : ∀ x : Nat, 1 ≤ x → x < 8000000000 → n ≤ x + f → Ev (fun k => impl_below.l0 k (n : Int) (x : Int)) ((dbl n f x : Nat) : Int) := by
  induction f with
  | zero =>
    intro x h1 hx h
    have w : wrap64 (2 * (x : Int)) = ((2 * x : Nat) : Int) := by unfold wrap64; omega
    refine Ev.step (f := fun _ => some (x : Int)) (fun k => ?_) (Ev.now _)
    rw [impl_below.l0, w, if_neg (by omega)]
  | succ f ih =>
    intro x h1 hx h
    have w : wrap64 (2 * (x : Int)) = ((2 * x : Nat) : Int) := by unfold wrap64; omega
    have w2 : wrap64 ((x : Int) * 2) = ((2 * x : Nat) : Int) := by unfold wrap64; omega
    rw [dbl]
    by_cases hc : 2 * x < n
    · rw [if_pos hc]
      refine Ev.step (f := fun k => impl_below.l0 k (n : Int) ((2 * x : Nat) : Int)) (fun k => ?_) (ih (2 * x) (by omega) (by omega) (by omega))
      rw [impl_below.l0, w, if_pos (by omega), w2]
    · rw [if_neg hc]
      refine Ev.step (f := fun _ => some (x : Int)) (fun k => ?_) (Ev.now _)
      rw [impl_below.l0, w, if_neg (by omega)]
theorem below_ev (n : Nat) (hn : n ≤ 4000000000) : Ev (fun k => impl_below.f k (n : Int)) ((half n : Nat) : Int) :=
  Ev.congr (fun k => rfl) (below_l0 n hn n 1 (by omega) (by omega) (by omega))
end Go.Proofs.YtajkbbifemeanaaGreatDoor.Pure
end
section
set_option linter.unusedVariables false
set_option linter.unusedSimpArgs false
namespace Go.Proofs.YtajkbbifemeanaaGreatDoor.Pure
open Go Go.RowKit Go.Proofs.YtajkbbifemeanaaGreatDoor Go.Proofs.YtajkbbifemeanaaGreatDoor.L Go.Proofs.YtajkbbifemeanaaGreatDoorW.PrintWords Go.Proofs.YtajkbbifemeanaaGreatDoorW.PrintMore Go.Proofs.YtajkbbifemeanaaGreatDoorW.PrintLast
theorem between_b (x lo hi : Int) : spec_l1Between.f x lo hi = some (decide (lo ≤ x ∧ x ≤ hi)) := by
  unfold spec_l1Between.f
  by_cases h0 : lo ≤ x
  · rw [if_pos h0]; simp [h0]
  · rw [if_neg h0]; simp [h0]
/-- The width of a kind's digests. -/
def wdt (kind : Int) : Int := if kind = 1 then 1 else 32
def kOK (kind : Int) : Bool := decide (kind = 0) || decide (kind = 1)
def allW (kind : Int) (l : List ByteArray) : Bool := l.all fun x => decide ((x.size : Int) = wdt kind)
def widOK (kind : Int) (l : List ByteArray) : Bool := kOK kind && allW kind l
theorem spec_wdt (kind : Int) : spec_l2Width.f kind = some (wdt kind) := by
  unfold spec_l2Width.f wdt
  split <;> rfl
theorem spec_kOK (kind : Int) : spec_l2KindOK.f kind = some (kOK kind) := by
  unfold spec_l2KindOK.f kOK
  by_cases h0 : kind = 0
  · simp [h0]
  · simp only [if_neg h0, decide_eq_false h0, Bool.false_or]
    by_cases h1 : kind = 1
    · simp [h1]
    · simp [h1]
theorem spec_wid_l0 (kind : Int) (l : List ByteArray) (hl : l.length ≤ 9223372036854775806) (d : Nat) : ∀ i : Nat, i + d = l.length →
    Ev (fun k => spec_l3WidthsOK.l0 k kind l (l.length : Int) (i : Int)) (kOK kind && allW kind (l.drop i)) := by
  induction d with
  | zero =>
    intro i hi
    have hd : l.drop i = [] := List.drop_eq_nil_of_le (by omega)
    rw [hd]
    refine Ev.step (f := fun _ => some (kOK kind && allW kind [])) (fun k => ?_) (Ev.now _)
    rw [spec_l3WidthsOK.l0, if_neg (by omega), spec_kOK]
    simp [allW]
  | succ d ih =>
    intro i hi
    have hil : i < l.length := by omega
    have hd : l.drop i = l[i] :: l.drop (i + 1) := List.drop_eq_getElem_cons hil
    by_cases hc : (l[i].size : Int) = wdt kind
    · refine Ev.step (f := fun k => spec_l3WidthsOK.l0 k kind l (l.length : Int) ((i + 1 : Nat) : Int)) (fun k => ?_) ?_
      · rw [spec_l3WidthsOK.l0, if_pos (by omega), if_pos (by omega), if_pos (by omega), spec_wdt]
        simp only [Option.bind_some]
        rw [rdS l i hil, if_pos hc, wsucc i (by omega)]
      · rw [hd, allW, List.all_cons, decide_eq_true hc, Bool.true_and]
        exact ih (i + 1) (by omega)
    · refine Ev.step (f := fun _ => some false) (fun k => ?_) ?_
      · rw [spec_l3WidthsOK.l0, if_pos (by omega), if_pos (by omega), if_pos (by omega), spec_wdt]
        simp only [Option.bind_some]
        rw [rdS l i hil, if_neg hc]
      · rw [hd, allW, List.all_cons, decide_eq_false hc, Bool.false_and, Bool.and_false]
        exact Ev.now _
theorem spec_wid (kind : Int) (l : List ByteArray) (hl : l.length ≤ 9223372036854775806) : Ev (fun k => spec_l3WidthsOK.f k kind l) (widOK kind l) :=
  Ev.congr (fun k => rfl) (spec_wid_l0 kind l hl l.length 0 (by omega))
def wdi (kind : Int) : Int := if kind = 0 then 32 else if kind = 1 then 1 else 0
theorem impl_wdi (kind : Int) : impl_width.f kind = some (wdi kind) := by
  unfold impl_width.f wdi
  split
  · rfl
  · split <;> rfl
theorem wdi_pos (kind : Int) : decide (wdi kind > 0) = kOK kind := by
  unfold wdi kOK
  by_cases h0 : kind = 0
  · simp [h0]
  · by_cases h1 : kind = 1
    · simp [h1]
    · simp [h0, h1]
theorem wdi_wdt (kind : Int) (h : kOK kind = true) : wdi kind = wdt kind := by
  unfold wdi wdt
  unfold kOK at h
  by_cases h0 : kind = 0
  · simp [h0]
  · by_cases h1 : kind = 1
    · simp [h1]
    · simp [h0, h1] at h
theorem impl_wid_l0 (kind : Int) (l : List ByteArray) (hl : l.length ≤ 9223372036854775806) (d : Nat) : ∀ i : Nat, i + d = l.length →
    Ev (fun k => impl_widths.l0 k kind l (l.length : Int) (i : Int)) (kOK kind && allW kind (l.drop i)) := by
  induction d with
  | zero =>
    intro i hi
    have hd : l.drop i = [] := List.drop_eq_nil_of_le (by omega)
    rw [hd]
    refine Ev.step (f := fun _ => some (kOK kind && allW kind [])) (fun k => ?_) (Ev.now _)
    rw [impl_widths.l0, if_neg (by omega), impl_wdi]
    simp only [Option.bind_some, wdi_pos]
    simp [allW]
  | succ d ih =>
    intro i hi
    have hil : i < l.length := by omega
    have hd : l.drop i = l[i] :: l.drop (i + 1) := List.drop_eq_getElem_cons hil
    by_cases hc : (l[i].size : Int) = wdi kind
    · refine Ev.step (f := fun k => impl_widths.l0 k kind l (l.length : Int) ((i + 1 : Nat) : Int)) (fun k => ?_) ?_
      · rw [impl_widths.l0, if_pos (by omega), if_pos (by omega), if_pos (by omega), impl_wdi]
        simp only [Option.bind_some]
        rw [rdS l i hil, if_pos hc, wsucc i (by omega)]
      · have h := ih (i + 1) (by omega)
        have e : (kOK kind && allW kind (l.drop i)) = (kOK kind && allW kind (l.drop (i + 1))) := by
          cases hk : kOK kind with
          | false => rfl
          | true => rw [hd, allW, List.all_cons, ← wdi_wdt kind hk, decide_eq_true hc, Bool.true_and, wdi_wdt kind hk]; rfl
        rw [e]
        exact h
    · refine Ev.step (f := fun _ => some false) (fun k => ?_) ?_
      · rw [impl_widths.l0, if_pos (by omega), if_pos (by omega), if_pos (by omega), impl_wdi]
        simp only [Option.bind_some]
        rw [rdS l i hil, if_neg hc]
      · have e : (kOK kind && allW kind (l.drop i)) = false := by
          cases hk : kOK kind with
          | false => rfl
          | true => rw [hd, allW, List.all_cons, ← wdi_wdt kind hk, decide_eq_false hc]; rfl
        rw [e]
        exact Ev.now _
theorem impl_wid (kind : Int) (l : List ByteArray) (hl : l.length ≤ 9223372036854775806) : Ev (fun k => impl_widths.f k kind l) (widOK kind l) :=
  Ev.congr (fun k => rfl) (impl_wid_l0 kind l hl l.length 0 (by omega))
/-- How long a path of i among n is. -/
def pathLen (i n : Nat) : Nat :=
  if h : n ≤ 1 then 0 else if i < half n then 1 + pathLen i (half n) else 1 + pathLen (i - half n) (n - half n)
termination_by n
decreasing_by
  · exact half_lt n (by omega)
  · have := half_pos n; omega
theorem pathLen_one (i n : Nat) (h : n ≤ 1) : pathLen i n = 0 := by rw [pathLen, dif_pos h]
theorem pathLen_left (i n : Nat) (h : 2 ≤ n) (hi : i < half n) : pathLen i n = 1 + pathLen i (half n) := by rw [pathLen, dif_neg (by omega), if_pos hi]
theorem pathLen_right (i n : Nat) (h : 2 ≤ n) (hi : ¬ i < half n) : pathLen i n = 1 + pathLen (i - half n) (n - half n) := by rw [pathLen, dif_neg (by omega), if_neg hi]
theorem pathLen_le (m : Nat) : ∀ i n, n ≤ 2 ^ m → pathLen i n ≤ m := by
  induction m with
  | zero => intro i n h; rw [pathLen_one i n (by simpa using h)]; omega
  | succ m ih =>
    intro i n h
    by_cases h1 : n ≤ 1
    · rw [pathLen_one i n h1]; omega
    · have hl := half_le n m h (by omega)
      have hg := half_ge n
      by_cases hi : i < half n
      · rw [pathLen_left i n (by omega) hi]
        have := ih i (half n) hl
        omega
      · rw [pathLen_right i n (by omega) hi]
        have := ih (i - half n) (n - half n) (by omega)
        omega
theorem pathLen_ev (n : Nat) : ∀ i : Nat, i < n → n ≤ 2147483648 → Ev (fun k => spec_l3PathLen.f k (i : Int) (n : Int)) ((pathLen i n : Nat) : Int) := by
  induction n using Nat.strongRecOn with
  | _ n ih =>
    intro i hi hn
    by_cases h1 : n ≤ 1
    · obtain rfl : n = 1 := by omega
      rw [pathLen_one i 1 (by omega)]
      refine Ev.step (f := fun _ => some 0) (fun k => ?_) (Ev.now _)
      rw [spec_l3PathLen.f, if_pos (by omega)]
    · have hlt := half_lt n (by omega)
      have hp := half_pos n
      have hle := pathLen_le 31
      by_cases hc : i < half n
      · have hr := ih (half n) hlt i hc (by omega)
        have hb := hle i (half n) (by omega)
        rw [pathLen_left i n (by omega) hc]
        refine Ev.step (f := fun k => (spec_l2Split.f k (n : Int)).bind fun v => if (i : Int) < v then (spec_l3PathLen.f k i v).bind fun u => some (wrap64 (1 + u)) else (spec_l3PathLen.f k (wrap64 (i - v)) (wrap64 (n - v))).bind fun u => some (wrap64 (1 + u))) (fun k => ?_) ?_
        · rw [spec_l3PathLen.f, if_neg (by omega)]
        · refine (split_ev n (by omega)).bind ?_
          simp only [if_pos (show (i : Int) < ((half n : Nat) : Int) by omega)]
          refine hr.bind ?_
          have w : wrap64 (1 + ((pathLen i (half n) : Nat) : Int)) = ((1 + pathLen i (half n) : Nat) : Int) := by unfold wrap64; omega
          rw [w]
          exact Ev.now _
      · have hr := ih (n - half n) (by omega) (i - half n) (by omega) (by omega)
        have hb := hle (i - half n) (n - half n) (by omega)
        rw [pathLen_right i n (by omega) hc]
        refine Ev.step (f := fun k => (spec_l2Split.f k (n : Int)).bind fun v => if (i : Int) < v then (spec_l3PathLen.f k i v).bind fun u => some (wrap64 (1 + u)) else (spec_l3PathLen.f k (wrap64 (i - v)) (wrap64 (n - v))).bind fun u => some (wrap64 (1 + u))) (fun k => ?_) ?_
        · rw [spec_l3PathLen.f, if_neg (by omega)]
        · refine (split_ev n (by omega)).bind ?_
          have w1 : wrap64 ((i : Int) - ((half n : Nat) : Int)) = ((i - half n : Nat) : Int) := by unfold wrap64; omega
          have w2 : wrap64 ((n : Int) - ((half n : Nat) : Int)) = ((n - half n : Nat) : Int) := by unfold wrap64; omega
          simp only [if_neg (show ¬ (i : Int) < ((half n : Nat) : Int) by omega), w1, w2]
          refine hr.bind ?_
          have w : wrap64 (1 + ((pathLen (i - half n) (n - half n) : Nat) : Int)) = ((1 + pathLen (i - half n) (n - half n) : Nat) : Int) := by unfold wrap64; omega
          rw [w]
          exact Ev.now _
/-- The last of a list, and what is ahead of it. -/
def lastB (l : List ByteArray) : ByteArray := l.getD (l.length - 1) ByteArray.empty
def initB (l : List ByteArray) : List ByteArray := l.take (l.length - 1)
theorem lastB_mem (l : List ByteArray) (h : 0 < l.length) : lastB l ∈ l := by
  have : lastB l = l[l.length - 1] := by simp [lastB, List.getD, show l.length - 1 < l.length by omega]
  rw [this]
  exact List.getElem_mem _
/-- The claim of a path. -/
def claimB (kind : Int) (e : ByteArray) (i n : Nat) (l : List ByteArray) : ByteArray :=
  if h : n ≤ 1 then leafB kind e
  else if i < half n then nodeB kind (claimB kind e i (half n) (initB l)) (lastB l)
  else nodeB kind (lastB l) (claimB kind e (i - half n) (n - half n) (initB l))
termination_by n
decreasing_by
  · exact half_lt n (by omega)
  · have := half_pos n; omega
theorem claimB_size (kind : Int) (e : ByteArray) (i n : Nat) (l : List ByteArray) : (claimB kind e i n l).size ≤ 32 := by
  rw [claimB]
  split
  · exact leafB_size _ _
  · split <;> exact nodeB_size _ _ _
theorem initB_len (l : List ByteArray) : (initB l).length = l.length - 1 := by simp [initB]
theorem initB_mem (l : List ByteArray) (y : ByteArray) (h : y ∈ initB l) : y ∈ l := List.mem_of_mem_take h
theorem spec_claim (kind : Int) (e : ByteArray) (he : e.size ≤ 1000000000) (n : Nat) : ∀ (i : Nat) (l : List ByteArray), i < n → n ≤ 2147483648 → l.length = pathLen i n → (∀ y ∈ l, y.size ≤ 1000000000) →
    Ev (fun k => spec_l3Claim.f k kind e (i : Int) (n : Int) l) (claimB kind e i n l) := by
  induction n using Nat.strongRecOn with
  | _ n ih =>
    intro i l hi hn hlen hs
    by_cases h1 : n ≤ 1
    · obtain rfl : n = 1 := by omega
      rw [claimB, dif_pos (by omega)]
      refine Ev.step (f := fun k => (spec_Leaf.f k kind e).bind fun t => some t) (fun k => ?_) ((spec_leaf kind e (by omega)).bind (Ev.now _))
      rw [spec_l3Claim.f, if_pos (by omega)]
    · have hlt := half_lt n (by omega)
      have hp := half_pos n
      have hle := pathLen_le 31 i n (by omega)
      have hpos : 0 < l.length := by
        rw [hlen]
        by_cases hc : i < half n
        · rw [pathLen_left i n (by omega) hc]; omega
        · rw [pathLen_right i n (by omega) hc]; omega
      have w : wrap64 ((l.length : Int) - 1) = ((l.length - 1 : Nat) : Int) := by unfold wrap64; omega
      have hla : rdOf ByteArray.empty l ((l.length - 1 : Nat) : Int) = lastB l := by simp [rdOf, lastB]
      have hin : l.take ((l.length - 1 : Nat) : Int).toNat = initB l := by simp [initB]
      have hlast := hs _ (lastB_mem l hpos)
      have g : ∀ k, spec_l3Claim.f (k + 1) kind e (i : Int) (n : Int) l = (spec_l2Split.f k (n : Int)).bind fun v => if (i : Int) < v then (spec_l3Claim.f k kind e i v (initB l)).bind fun c => (spec_Node.f k kind c (lastB l)).bind fun t => some t else (spec_l3Claim.f k kind e (wrap64 (i - v)) (wrap64 (n - v)) (initB l)).bind fun c => (spec_Node.f k kind (lastB l) c).bind fun t => some t := fun k => by
        rw [spec_l3Claim.f, if_neg (by omega), w]
        simp only [if_pos (show (0 : Int) ≤ ((l.length - 1 : Nat) : Int) by omega), if_pos (show ((l.length - 1 : Nat) : Int) < (l.length : Int) by omega), if_pos (show ((l.length - 1 : Nat) : Int) ≤ (l.length : Int) by omega), hla, hin]
      refine Ev.step g ?_
      refine (split_ev n (by omega)).bind ?_
      by_cases hc : i < half n
      · have hlen' : (initB l).length = pathLen i (half n) := by rw [initB_len, hlen, pathLen_left i n (by omega) hc]; omega
        have hr := ih (half n) hlt i (initB l) hc (by omega) hlen' (fun y hy => hs y (initB_mem l y hy))
        simp only [if_pos (show (i : Int) < ((half n : Nat) : Int) by omega)]
        refine hr.bind ?_
        have hsz := claimB_size kind e i (half n) (initB l)
        refine (spec_node kind _ (lastB l) (by omega) (by omega)).bind ?_
        rw [show claimB kind e i n l = nodeB kind (claimB kind e i (half n) (initB l)) (lastB l) by rw [claimB, dif_neg (by omega), if_pos hc]]
        exact Ev.now _
      · have hlen' : (initB l).length = pathLen (i - half n) (n - half n) := by rw [initB_len, hlen, pathLen_right i n (by omega) hc]; omega
        have hr := ih (n - half n) (by omega) (i - half n) (initB l) (by omega) (by omega) hlen' (fun y hy => hs y (initB_mem l y hy))
        have w1 : wrap64 ((i : Int) - ((half n : Nat) : Int)) = ((i - half n : Nat) : Int) := by unfold wrap64; omega
        have w2 : wrap64 ((n : Int) - ((half n : Nat) : Int)) = ((n - half n : Nat) : Int) := by unfold wrap64; omega
        simp only [if_neg (show ¬ (i : Int) < ((half n : Nat) : Int) by omega), w1, w2]
        refine hr.bind ?_
        have hsz := claimB_size kind e (i - half n) (n - half n) (initB l)
        refine (spec_node kind (lastB l) _ (by omega) (by omega)).bind ?_
        rw [show claimB kind e i n l = nodeB kind (lastB l) (claimB kind e (i - half n) (n - half n) (initB l)) by rw [claimB, dif_neg (by omega), if_neg hc]]
        exact Ev.now _
theorem impl_claim_ev (kind : Int) (e : ByteArray) (he : e.size ≤ 1000000000) (n : Nat) : ∀ (i : Nat) (l : List ByteArray), i < n → n ≤ 2147483648 → l.length ≤ 1000000000 → (∀ y ∈ l, y.size ≤ 1000000000) →
    ∃ c, c.size ≤ 32 ∧ Ev (fun k => impl_claim.f k kind e (i : Int) (n : Int) l) (c, decide (l.length = pathLen i n)) ∧ (l.length = pathLen i n → c = claimB kind e i n l) := by
  induction n using Nat.strongRecOn with
  | _ n ih =>
    intro i l hi hn hll hs
    by_cases h1 : n ≤ 1
    · obtain rfl : n = 1 := by omega
      refine ⟨leafB kind e, leafB_size _ _, ?_, fun _ => by rw [claimB, dif_pos (by omega)]⟩
      refine Ev.step (f := fun k => (some (leafB kind e, decide (l.length = pathLen i 1)))) (fun k => ?_) (Ev.now _)
      rw [impl_claim.f, if_pos (by omega), impl_leaf kind e (by omega), pathLen_one i 1 (by omega)]
      simp only [Option.bind_some]
      congr 2
      by_cases hz : l.length = 0
      · simp [hz]
      · simp [hz]
    · have hlt := half_lt n (by omega)
      have hp := half_pos n
      have hne : 0 < pathLen i n := by
        by_cases hc : i < half n
        · rw [pathLen_left i n (by omega) hc]; omega
        · rw [pathLen_right i n (by omega) hc]; omega
      by_cases hz : l.length = 0
      · refine ⟨⟨#[]⟩, Nat.zero_le _, ?_, fun h => by omega⟩
        rw [decide_eq_false (by omega)]
        refine Ev.step (f := fun k => (some ((⟨#[]⟩ : ByteArray), false))) (fun k => ?_) (Ev.now _)
        rw [impl_claim.f, if_neg (by omega), if_pos (by omega)]
      · have hpos : 0 < l.length := by omega
        have w : wrap64 ((l.length : Int) - 1) = ((l.length - 1 : Nat) : Int) := by unfold wrap64; omega
        have hla : rdOf ByteArray.empty l ((l.length - 1 : Nat) : Int) = lastB l := by simp [rdOf, lastB]
        have hin : l.take ((l.length - 1 : Nat) : Int).toNat = initB l := by simp [initB]
        have hlast := hs _ (lastB_mem l hpos)
        have g : ∀ k, impl_claim.f (k + 1) kind e (i : Int) (n : Int) l = (impl_below.f k (n : Int)).bind fun v => if (i : Int) < v then (impl_claim.f k kind e i v (initB l)).bind fun c => (impl_Node.f kind c.1 (lastB l)).bind fun t => some (t, c.2) else (impl_claim.f k kind e (wrap64 (i - v)) (wrap64 (n - v)) (initB l)).bind fun c => (impl_Node.f kind (lastB l) c.1).bind fun t => some (t, c.2) := fun k => by
          rw [impl_claim.f, if_neg (by omega), if_neg (by omega), w]
          simp only [if_pos (show (0 : Int) ≤ ((l.length - 1 : Nat) : Int) by omega), if_pos (show ((l.length - 1 : Nat) : Int) < (l.length : Int) by omega), if_pos (show ((l.length - 1 : Nat) : Int) ≤ (l.length : Int) by omega), hla, hin]
        by_cases hc : i < half n
        · obtain ⟨c, hcs, hev, hcl⟩ := ih (half n) hlt i (initB l) hc (by omega) (by rw [initB_len]; omega) (fun y hy => hs y (initB_mem l y hy))
          refine ⟨nodeB kind c (lastB l), nodeB_size _ _ _, ?_, fun h => ?_⟩
          · refine Ev.step g ?_
            refine (below_ev n (by omega)).bind ?_
            simp only [if_pos (show (i : Int) < ((half n : Nat) : Int) by omega)]
            refine hev.bind ?_
            simp only [impl_node kind c (lastB l) (by omega) (by omega), Option.bind_some]
            have : decide ((initB l).length = pathLen i (half n)) = decide (l.length = pathLen i n) := by
              rw [initB_len, pathLen_left i n (by omega) hc]
              exact decide_eq_decide.2 (by omega)
            rw [this]
            exact Ev.now _
          · have hlen' : (initB l).length = pathLen i (half n) := by rw [initB_len, h, pathLen_left i n (by omega) hc]; omega
            rw [hcl hlen']
            rw [show claimB kind e i n l = nodeB kind (claimB kind e i (half n) (initB l)) (lastB l) by rw [claimB, dif_neg (by omega), if_pos hc]]
        · obtain ⟨c, hcs, hev, hcl⟩ := ih (n - half n) (by omega) (i - half n) (initB l) (by omega) (by omega) (by rw [initB_len]; omega) (fun y hy => hs y (initB_mem l y hy))
          have w1 : wrap64 ((i : Int) - ((half n : Nat) : Int)) = ((i - half n : Nat) : Int) := by unfold wrap64; omega
          have w2 : wrap64 ((n : Int) - ((half n : Nat) : Int)) = ((n - half n : Nat) : Int) := by unfold wrap64; omega
          refine ⟨nodeB kind (lastB l) c, nodeB_size _ _ _, ?_, fun h => ?_⟩
          · refine Ev.step g ?_
            refine (below_ev n (by omega)).bind ?_
            simp only [if_neg (show ¬ (i : Int) < ((half n : Nat) : Int) by omega), w1, w2]
            refine hev.bind ?_
            simp only [impl_node kind (lastB l) c (by omega) (by omega), Option.bind_some]
            have : decide ((initB l).length = pathLen (i - half n) (n - half n)) = decide (l.length = pathLen i n) := by
              rw [initB_len, pathLen_right i n (by omega) hc]
              exact decide_eq_decide.2 (by omega)
            rw [this]
            exact Ev.now _
          · have hlen' : (initB l).length = pathLen (i - half n) (n - half n) := by rw [initB_len, h, pathLen_right i n (by omega) hc]; omega
            rw [hcl hlen']
            rw [show claimB kind e i n l = nodeB kind (lastB l) (claimB kind e (i - half n) (n - half n) (initB l)) by rw [claimB, dif_neg (by omega), if_neg hc]]
/-- What CheckPath answers. -/
def pathOk (kind : Int) (e : ByteArray) (i n : Int) (root : ByteArray) (l : List ByteArray) : Bool :=
  widOK kind l && (decide (1 ≤ n ∧ n ≤ 2147483648) && (decide (0 ≤ i ∧ i ≤ n - 1) && (decide (l.length = pathLen i.toNat n.toNat) && ((claimB kind e i.toNat n.toNat l).toList == root.toList))))
theorem spec_path (kind : Int) (e : ByteArray) (he : e.size ≤ 1000000000) (i n : Int) (hn0 : -9223372036854775808 ≤ n) (root : ByteArray) (l : List ByteArray) (hl : l.length ≤ 1000000000) (hs : ∀ y ∈ l, y.size ≤ 1000000000) :
    Ev (fun k => spec_CheckPath.f k kind e i n root l) (pathOk kind e i n root l) := by
  unfold spec_CheckPath.f spec_l3PathFits.f pathOk
  have ff : ¬ (false = true) := by decide
  refine Ev.bind (a := widOK kind l && (decide (1 ≤ n ∧ n ≤ 2147483648) && (decide (0 ≤ i ∧ i ≤ n - 1) && decide (l.length = pathLen i.toNat n.toNat)))) ?_ ?_
  · refine (spec_wid kind l (by omega)).bind ?_
    cases hw : widOK kind l with
    | false => simp only [if_neg ff, Bool.false_and]; exact Ev.now _
    | true =>
      simp only [if_true, between_b, Option.bind_some, Bool.true_and]
      by_cases hn : 1 ≤ n ∧ n ≤ 2147483648
      · have w : wrap64 (n - 1) = n - 1 := by unfold wrap64; omega
        simp only [decide_eq_true hn, if_true, Bool.true_and, w]
        by_cases hi : 0 ≤ i ∧ i ≤ n - 1
        · simp only [decide_eq_true hi, if_true, Bool.true_and]
          obtain ⟨i', rfl⟩ := Int.eq_ofNat_of_zero_le hi.1
          obtain ⟨n', rfl⟩ := Int.eq_ofNat_of_zero_le (show 0 ≤ n by omega)
          have hev := pathLen_ev n' i' (by omega) (by omega)
          refine hev.bind ?_
          have e1 : ((l.length : Int) == ((pathLen i' n' : Nat) : Int)) = decide (l.length = pathLen i' n') := by
            by_cases h : l.length = pathLen i' n'
            · simp [h]
            · rw [decide_eq_false h]; exact beq_eq_false_iff_ne.2 (by omega)
          simp only [e1]
          exact Ev.now _
        · simp only [decide_eq_false hi, if_neg ff, Bool.false_and]; exact Ev.now _
      · simp only [decide_eq_false hn, if_neg ff, Bool.false_and]; exact Ev.now _
  · cases hw : widOK kind l with
    | false => simp only [Bool.false_and, if_neg ff]; exact Ev.now _
    | true =>
      by_cases hn : 1 ≤ n ∧ n ≤ 2147483648
      · by_cases hi : 0 ≤ i ∧ i ≤ n - 1
        · obtain ⟨i', rfl⟩ := Int.eq_ofNat_of_zero_le hi.1
          obtain ⟨n', rfl⟩ := Int.eq_ofNat_of_zero_le (show 0 ≤ n by omega)
          simp only [decide_eq_true hn, decide_eq_true hi, Bool.true_and, Int.ofNat_eq_natCast, Int.toNat_natCast]
          by_cases hp : l.length = pathLen i' n'
          · simp only [decide_eq_true hp, if_true, Bool.true_and]
            exact (spec_claim kind e he n' i' l (by omega) (by omega) hp hs).bind (Ev.now _)
          · simp only [decide_eq_false hp, if_neg ff, Bool.false_and]; exact Ev.now _
        · simp only [decide_eq_true hn, decide_eq_false hi, Bool.true_and, Bool.false_and, if_neg ff]; exact Ev.now _
      · simp only [decide_eq_false hn, Bool.true_and, Bool.false_and, if_neg ff]; exact Ev.now _
theorem impl_path (kind : Int) (e : ByteArray) (he : e.size ≤ 1000000000) (i n : Int) (root : ByteArray) (l : List ByteArray) (hl : l.length ≤ 1000000000) (hs : ∀ y ∈ l, y.size ≤ 1000000000) :
    Ev (fun k => impl_CheckPath.f k kind e i n root l) (pathOk kind e i n root l) := by
  unfold impl_CheckPath.f pathOk
  have ff : ¬ (false = true) := by decide
  by_cases h1 : n > 2147483648
  · simp only [if_pos h1, decide_eq_false (show ¬ (1 ≤ n ∧ n ≤ 2147483648) by omega), Bool.false_and, Bool.and_false]; exact Ev.now _
  · by_cases h2 : i < 0
    · simp only [if_neg h1, if_pos h2, decide_eq_false (show ¬ (0 ≤ i ∧ i ≤ n - 1) by omega), Bool.false_and, Bool.and_false]; exact Ev.now _
    · by_cases h3 : i ≥ n
      · simp only [if_neg h1, if_neg h2, if_pos h3, decide_eq_false (show ¬ (0 ≤ i ∧ i ≤ n - 1) by omega), Bool.false_and, Bool.and_false]; exact Ev.now _
      · simp only [if_neg h1, if_neg h2, if_neg h3, decide_eq_true (show (1 ≤ n ∧ n ≤ 2147483648) by omega), decide_eq_true (show (0 ≤ i ∧ i ≤ n - 1) by omega), Bool.true_and]
        refine (impl_wid kind l (by omega)).bind ?_
        cases hw : widOK kind l with
        | false => simp only [if_neg ff, Bool.false_and]; exact Ev.now _
        | true =>
          simp only [if_true, Bool.true_and]
          obtain ⟨i', rfl⟩ := Int.eq_ofNat_of_zero_le (show 0 ≤ i by omega)
          obtain ⟨n', rfl⟩ := Int.eq_ofNat_of_zero_le (show 0 ≤ n by omega)
          have hle := pathLen_le 31 i' n' (by omega)
          simp only [Int.ofNat_eq_natCast, Int.toNat_natCast]
          by_cases h4 : (l.length : Int) > 64
          · simp only [if_pos h4, decide_eq_false (show ¬ l.length = pathLen i' n' by omega), Bool.false_and]; exact Ev.now _
          · simp only [if_neg h4]
            obtain ⟨c, _, hev, hcl⟩ := impl_claim_ev kind e he n' i' l (by omega) (by omega) (by omega) hs
            refine hev.bind ?_
            by_cases hp : l.length = pathLen i' n'
            · simp only [decide_eq_true hp, if_true, Bool.true_and, hcl hp]; exact Ev.now _
            · simp only [decide_eq_false hp, if_neg ff, Bool.false_and]; exact Ev.now _
end Go.Proofs.YtajkbbifemeanaaGreatDoor.Pure
end
section
set_option linter.unusedVariables false
set_option linter.unusedSimpArgs false
namespace Go.Proofs.YtajkbbifemeanaaGreatDoor.Pure
open Go Go.RowKit Go.Proofs.YtajkbbifemeanaaGreatDoor
section
variable (nd : ByteArray → ByteArray → ByteArray) (lf : ByteArray → ByteArray) (e0 : ByteArray)
/-- The root of a list: halves. -/
def rootG (l : List ByteArray) : ByteArray :=
  if h0 : l.length = 0 then e0 else if h1 : l.length = 1 then lf (l.getD 0 ByteArray.empty) else nd (rootG (l.take (half l.length))) (rootG (l.drop (half l.length)))
termination_by l.length
decreasing_by
  · have := half_lt l.length (by omega)
    rw [List.length_take]; omega
  · have := half_pos l.length
    rw [List.length_drop]; omega
theorem rootG_nil : rootG nd lf e0 [] = e0 := by rw [rootG]; simp
theorem rootG_one (x : ByteArray) : rootG nd lf e0 [x] = lf x := by rw [rootG]; simp
theorem rootG_two (l : List ByteArray) (h : 2 ≤ l.length) : rootG nd lf e0 l = nd (rootG nd lf e0 (l.take (half l.length))) (rootG nd lf e0 (l.drop (half l.length))) := by
  rw [rootG, dif_neg (by omega), dif_neg (by omega)]
end
end Go.Proofs.YtajkbbifemeanaaGreatDoor.Pure
end
section
set_option linter.unusedVariables false
set_option linter.unusedSimpArgs false
namespace Go.Proofs.YtajkbbifemeanaaGreatDoor.Pure
open Go Go.RowKit Go.Proofs.YtajkbbifemeanaaGreatDoor Go.Proofs.YtajkbbifemeanaaGreatDoor.L Go.Proofs.YtajkbbifemeanaaGreatDoorW.PrintWords Go.Proofs.YtajkbbifemeanaaGreatDoorW.PrintMore Go.Proofs.YtajkbbifemeanaaGreatDoorW.PrintLast
/-- The root of a list. -/
def rootL (kind : Int) (l : List ByteArray) : ByteArray := rootG (nodeB kind) (leafB kind) (dig kind (⟨#[]⟩ : ByteArray)) l
/-- How many bytes a digest has. -/
def wd (kind : Int) : Nat := if kind = 0 then 32 else if kind = 1 then 1 else 0
theorem dig_wd (kind : Int) (s : ByteArray) : (dig kind s).size = wd kind := by
  have := shaI_size s
  unfold dig wd
  split
  · exact this
  · split
    · rw [ByteArray.size_extract]; omega
    · rfl
theorem rootL_size (kind : Int) (n : Nat) : ∀ l : List ByteArray, l.length ≤ n → (rootL kind l).size = wd kind := by
  induction n with
  | zero =>
    intro l h
    have : l = [] := List.eq_nil_of_length_eq_zero (by omega)
    subst this
    rw [rootL, rootG_nil]
    exact dig_wd kind _
  | succ n ih =>
    intro l h
    by_cases h0 : l.length = 0
    · have : l = [] := List.eq_nil_of_length_eq_zero h0
      subst this
      rw [rootL, rootG_nil]
      exact dig_wd kind _
    by_cases h1 : l.length = 1
    · rw [rootL, rootG, dif_neg h0, dif_pos h1]
      exact dig_wd kind _
    rw [rootL, rootG_two _ _ _ l (by omega)]
    exact dig_wd kind _
theorem rootL_le (kind : Int) (l : List ByteArray) : (rootL kind l).size ≤ 32 := by
  rw [rootL_size kind l.length l (Nat.le_refl _), wd]
  split
  · exact Nat.le_refl _
  · split <;> omega
theorem spec_root (kind : Int) (n : Nat) : ∀ l : List ByteArray, l.length ≤ n → l.length ≤ 4000000000 → (∀ e ∈ l, e.size ≤ 10000000000) → Ev (fun k => spec_Root.f k kind l) (rootL kind l) := by
  induction n with
  | zero =>
    intro l h _ _
    have : l = [] := List.eq_nil_of_length_eq_zero (by omega)
    subst this
    rw [rootL, rootG_nil]
    refine Ev.step (f := fun k => (spec_Digest.f k kind (⟨#[]⟩ : ByteArray)).bind fun t => some t) (fun k => by rw [spec_Root.f, if_pos (show ((([] : List ByteArray).length : Nat) : Int) = 0 from rfl)]) ?_
    exact (spec_dig kind _ (by show (0 : Nat) ≤ _; omega)).bind (Ev.now _)
  | succ n ih =>
    intro l h hl hs
    by_cases h0 : l.length = 0
    · have : l = [] := List.eq_nil_of_length_eq_zero h0
      subst this
      rw [rootL, rootG_nil]
      refine Ev.step (f := fun k => (spec_Digest.f k kind (⟨#[]⟩ : ByteArray)).bind fun t => some t) (fun k => by rw [spec_Root.f, if_pos (show ((([] : List ByteArray).length : Nat) : Int) = 0 from rfl)]) ?_
      exact (spec_dig kind _ (by show (0 : Nat) ≤ _; omega)).bind (Ev.now _)
    by_cases h1 : l.length = 1
    · rw [rootL, rootG, dif_neg h0, dif_pos h1, show l.getD 0 ByteArray.empty = l[0] by simp [h1]]
      refine Ev.step (f := fun k => (spec_Leaf.f k kind l[0]).bind fun t => some t) (fun k => ?_) ?_
      · rw [spec_Root.f, if_neg (by omega), if_pos (by omega), if_pos (by omega)]
        have := rdS l 0 (by omega)
        rw [show ((0 : Nat) : Int) = 0 from rfl] at this
        rw [this]
      · exact (spec_leaf kind _ (hs _ (List.getElem_mem _))).bind (Ev.now _)
    have hh := half_lt l.length (by omega)
    have hp := half_pos l.length
    rw [rootL, rootG_two _ _ _ l (by omega)]
    refine Ev.step (f := fun k => (spec_l2Split.f k (l.length : Int)).bind fun t566 => (if 0 ≤ t566 then (if t566 ≤ (l.length : Int) then ((spec_Root.f k kind (l.take (t566 : Int).toNat)).bind fun t568 => ((spec_Root.f k kind (l.drop (t566 : Int).toNat)).bind fun t570 => ((spec_Node.f k kind t568 t570).bind fun t571 => (some t571)))) else (none)) else (none))) (fun k => by rw [spec_Root.f, if_neg (by omega), if_neg (by omega)]) ?_
    refine (split_ev l.length (by omega)).bind ?_
    simp only [if_pos (show (0 : Int) ≤ ((half l.length : Nat) : Int) by omega), if_pos (show ((half l.length : Nat) : Int) ≤ (l.length : Int) by omega), Int.toNat_natCast]
    have e1 := ih (l.take (half l.length)) (by rw [List.length_take]; omega) (by rw [List.length_take]; omega) (fun e he => hs e (List.mem_of_mem_take he))
    have e2 := ih (l.drop (half l.length)) (by rw [List.length_drop]; omega) (by rw [List.length_drop]; omega) (fun e he => hs e (List.mem_of_mem_drop he))
    refine e1.bind (e2.bind ?_)
    have s1 := rootL_le kind (l.take (half l.length))
    have s2 := rootL_le kind (l.drop (half l.length))
    exact (spec_node kind _ _ (by omega) (by omega)).bind (Ev.now _)
theorem impl_rootE (kind : Int) (n : Nat) : ∀ l : List ByteArray, l.length ≤ n → l.length ≤ 4000000000 → (∀ e ∈ l, e.size ≤ 10000000000) → Ev (fun k => impl_rootO (wd kind) k kind l) (rootL kind l) := by
  induction n with
  | zero =>
    intro l h _ _
    have : l = [] := List.eq_nil_of_length_eq_zero (by omega)
    subst this
    rw [rootL, rootG_nil]
    exact Ev.step (f := fun k => some _) (fun k => by rw [impl_rootO, if_pos (show ((([] : List ByteArray).length : Nat) : Int) = 0 from rfl), impl_dig kind _ (by show (0 : Nat) ≤ _; omega)]) (Ev.now _)
  | succ n ih =>
    intro l h hl hs
    by_cases h0 : l.length = 0
    · have : l = [] := List.eq_nil_of_length_eq_zero h0
      subst this
      rw [rootL, rootG_nil]
      exact Ev.step (f := fun k => some _) (fun k => by rw [impl_rootO, if_pos (show ((([] : List ByteArray).length : Nat) : Int) = 0 from rfl), impl_dig kind _ (by show (0 : Nat) ≤ _; omega)]) (Ev.now _)
    by_cases h1 : l.length = 1
    · rw [rootL, rootG, dif_neg h0, dif_pos h1, show l.getD 0 ByteArray.empty = l[0] by simp [h1]]
      refine Ev.step (f := fun k => some _) (fun k => ?_) (Ev.now _)
      have := rdS l 0 (by omega)
      rw [show ((0 : Nat) : Int) = 0 from rfl] at this
      rw [impl_rootO, if_neg (by omega), if_pos (by omega), this, impl_leaf kind _ (hs _ (List.getElem_mem _))]
    have hh := half_lt l.length (by omega)
    have hp := half_pos l.length
    rw [rootL, rootG_two _ _ _ l (by omega)]
    refine Ev.step (f := fun k => (impl_below.f k (l.length : Int)).bind fun t => (if 0 ≤ t then (if t ≤ (l.length : Int) then ((impl_rootO (wd kind) k kind (l.take (t : Int).toNat)).bind fun x => ((impl_rootO (wd kind) k kind (l.drop (t : Int).toNat)).bind fun y => (if x.size = wd kind then (if y.size = wd kind then impl_Node.f kind x y else none) else none))) else none) else none)) (fun k => by rw [impl_rootO, if_neg (by omega), if_neg (by omega)]) ?_
    refine (below_ev l.length (by omega)).bind ?_
    simp only [if_pos (show (0 : Int) ≤ ((half l.length : Nat) : Int) by omega), if_pos (show ((half l.length : Nat) : Int) ≤ (l.length : Int) by omega), Int.toNat_natCast]
    have e1 := ih (l.take (half l.length)) (by rw [List.length_take]; omega) (by rw [List.length_take]; omega) (fun e he => hs e (List.mem_of_mem_take he))
    have e2 := ih (l.drop (half l.length)) (by rw [List.length_drop]; omega) (by rw [List.length_drop]; omega) (fun e he => hs e (List.mem_of_mem_drop he))
    refine e1.bind (e2.bind ?_)
    have s1 := rootL_le kind (l.take (half l.length))
    have s2 := rootL_le kind (l.drop (half l.length))
    simp only [if_pos (rootL_size kind _ (l.take (half l.length)) (Nat.le_refl _)), if_pos (rootL_size kind _ (l.drop (half l.length)) (Nat.le_refl _)), impl_node kind _ _ (show (rootL kind (l.take (half l.length))).size ≤ 10000000000 by omega) (show (rootL kind (l.drop (half l.length))).size ≤ 10000000000 by omega)]
    exact Ev.now _
theorem impl_root (kind : Int) (l : List ByteArray) (hk : kind = 0 ∨ kind = 1) (h : l.length < 64) (hs : ∀ e ∈ l, e.size ≤ 10000000000) : Ev (fun k => impl_Root.f k kind l) (rootL kind l) := by
  have := impl_rootE kind l.length l (Nat.le_refl _) (by omega) hs
  unfold impl_Root.f
  rcases hk with rfl | rfl
  · simp only [if_true, if_pos h]
    exact this
  · simp only [if_neg (show ¬ (1 : Int) = 0 by decide), if_true, if_pos h]
    exact this
end Go.Proofs.YtajkbbifemeanaaGreatDoor.Pure
end
section
set_option linter.unusedVariables false
set_option linter.unusedSimpArgs false
namespace Go.Proofs.YtajkbbifemeanaaGreatDoor.Pure
open Go Go.RowKit Go.Proofs.YtajkbbifemeanaaGreatDoor Go.Proofs.YtajkbbifemeanaaGreatDoor.L Go.Proofs.YtajkbbifemeanaaGreatDoorW.PrintWords Go.Proofs.YtajkbbifemeanaaGreatDoorW.PrintMore Go.Proofs.YtajkbbifemeanaaGreatDoorW.PrintLast
theorem ofList {x y : ByteArray} (h : x.toList = y.toList) : x = y := by
  rw [ByteArray.toList_eq, ByteArray.toList_eq] at h
  exact ByteArray.ext (Array.ext' h)
theorem rootL_one (kind : Int) (x : ByteArray) : rootL kind [x] = leafB kind x := by rw [rootL, rootG_one]
theorem rootL_two (kind : Int) (l : List ByteArray) (h : 2 ≤ l.length) : rootL kind l = nodeB kind (rootL kind (l.take (half l.length))) (rootL kind (l.drop (half l.length))) := by rw [rootL, rootG_two _ _ _ l h]; rfl
theorem impl_rootA (kind : Int) (l : List ByteArray) (h : l.length < 64) (hs : ∀ e ∈ l, e.size ≤ 10000000000) : Ev (fun k => impl_Root.f k kind l) (rootL kind l) := by
  by_cases hk : kind = 0 ∨ kind = 1
  · exact impl_root kind l hk h hs
  · have h0 : kind ≠ 0 := fun e => hk (.inl e)
    have h1 : kind ≠ 1 := fun e => hk (.inr e)
    have e : rootL kind l = (⟨#[]⟩ : ByteArray) := by
      have := rootL_size kind l.length l (Nat.le_refl _)
      rw [wd, if_neg h0, if_neg h1] at this
      exact ByteArray.ext (Array.eq_empty_of_size_eq_zero this)
    rw [e]
    unfold impl_Root.f
    simp only [if_neg h0, if_neg h1]
    exact Ev.now _
/-- The text of a node. -/
def ntx (x y : ByteArray) : ByteArray := ((⟨#[1]⟩ : ByteArray) ++ x) ++ y
def ltx (x : ByteArray) : ByteArray := (⟨#[0]⟩ : ByteArray) ++ x
theorem ltx_size (x : ByteArray) : (ltx x).size = 1 + x.size := pre_size 0 x
theorem ntx_size (x y : ByteArray) : (ntx x y).size = 1 + x.size + y.size := by rw [ntx, ByteArray.size_append, pre_size]
theorem ltx_inj {x y : ByteArray} (h : ltx x = ltx y) : x = y := by
  have h2 := congrArg (fun z : ByteArray => z.data.toList) h
  simp [ltx] at h2
  exact ByteArray.ext (Array.ext' (by simpa using h2))
theorem ntx_inj {a b c d : ByteArray} (h : ntx a b = ntx c d) (hs : a.size = c.size) : a = c ∧ b = d := by
  have h2 := congrArg (fun z : ByteArray => z.data.toList) h
  simp [ntx] at h2
  obtain ⟨h3, h4⟩ := List.append_inj h2 (by simpa using hs)
  exact ⟨ByteArray.ext (Array.ext' h3), ByteArray.ext (Array.ext' h4)⟩
theorem leafText_ev (x : ByteArray) (h : x.size ≤ 1000000000) : impl_leafText.f x = some (ltx x) := by rw [impl_leafText.f, if_pos (by omega)]; rfl
theorem nodeText_ev (x y : ByteArray) (hx : x.size ≤ 1000000000) (hy : y.size ≤ 1000000000) : impl_nodeText.f x y = some (ntx x y) := by
  rw [impl_nodeText.f, if_pos (by omega), if_pos (by rw [pre_size]; omega)]
  rfl
theorem inside_ev (kind : Int) (l : List ByteArray) (h2 : 2 ≤ l.length) (hl : l.length ≤ 1000000) (hs : ∀ e ∈ l, e.size ≤ 10000000000) :
    Ev (fun k => spec_l3Inside.f k kind l ((half l.length : Nat) : Int)) (ntx (rootL kind (l.take (half l.length))) (rootL kind (l.drop (half l.length)))) := by
  have hh := half_lt l.length h2
  have hp := half_pos l.length
  unfold spec_l3Inside.f
  simp only [if_pos (show (0 : Int) ≤ ((half l.length : Nat) : Int) by omega), if_pos (show ((half l.length : Nat) : Int) ≤ (l.length : Int) by omega), Int.toNat_natCast]
  have e1 := spec_root kind l.length (l.take (half l.length)) (by rw [List.length_take]; omega) (by rw [List.length_take]; omega) (fun e he => hs e (List.mem_of_mem_take he))
  have e2 := spec_root kind l.length (l.drop (half l.length)) (by rw [List.length_drop]; omega) (by rw [List.length_drop]; omega) (fun e he => hs e (List.mem_of_mem_drop he))
  have s1 := rootL_le kind (l.take (half l.length))
  have s2 := rootL_le kind (l.drop (half l.length))
  refine e1.bind ?_
  simp only [if_pos (show 1 + (rootL kind (l.take (half l.length))).size ≤ 9223372036854775807 by omega)]
  refine e2.bind ?_
  simp only [if_pos (show ((⟨#[1]⟩ : ByteArray) ++ rootL kind (l.take (half l.length))).size + (rootL kind (l.drop (half l.length))).size ≤ 9223372036854775807 by rw [pre_size]; omega)]
  exact Ev.now _
theorem halves_ev (kind : Int) (l : List ByteArray) (h2 : 2 ≤ l.length) (hl : l.length < 64) (hs : ∀ e ∈ l, e.size ≤ 10000000000) :
    Ev (fun k => impl_halves.f k kind l) (ntx (rootL kind (l.take (half l.length))) (rootL kind (l.drop (half l.length)))) := by
  have hh := half_lt l.length h2
  have hp := half_pos l.length
  unfold impl_halves.f
  refine (below_ev l.length (by omega)).bind ?_
  simp only [if_pos (show (0 : Int) ≤ ((half l.length : Nat) : Int) by omega), if_pos (show ((half l.length : Nat) : Int) ≤ (l.length : Int) by omega), Int.toNat_natCast]
  have e1 := impl_rootA kind (l.take (half l.length)) (by rw [List.length_take]; omega) (fun e he => hs e (List.mem_of_mem_take he))
  have e2 := impl_rootA kind (l.drop (half l.length)) (by rw [List.length_drop]; omega) (fun e he => hs e (List.mem_of_mem_drop he))
  have s1 := rootL_le kind (l.take (half l.length))
  have s2 := rootL_le kind (l.drop (half l.length))
  refine e1.bind (e2.bind ?_)
  simp only [nodeText_ev (rootL kind (l.take (half l.length))) (rootL kind (l.drop (half l.length))) (by omega) (by omega), Option.bind_some]
  exact Ev.now _
/-- What a candidate comes to. -/
def ansC (kind : Int) : CandO → Bool × ByteArray × ByteArray
  | none => (false, ⟨#[]⟩, ⟨#[]⟩)
  | some (x, y) => if (dig kind x).toList = (dig kind y).toList then (true, x, y) else (false, ⟨#[]⟩, ⟨#[]⟩)
theorem cand_ev (kind : Int) (x y : ByteArray) (hx : x.size ≤ 1000000000000) (hy : y.size ≤ 1000000000000) : Ev (fun k => spec_l3Candidate.f k kind x y) (ansC kind (some (x, y))) := by
  unfold spec_l3Candidate.f
  refine (spec_dig kind x (by omega)).bind ((spec_dig kind y (by omega)).bind ?_)
  rw [ansC]
  by_cases c : (dig kind x).toList = (dig kind y).toList
  · simp only [if_pos c]; exact Ev.now _
  · simp only [if_neg c]; exact Ev.now _
theorem ended_ev (kind : Int) (o : CandO) (h : ∀ x y, o = some (x, y) → x.size ≤ 1000000000000 ∧ y.size ≤ 1000000000000) : endedO kind o = some (ansC kind o) := by
  cases o with
  | none => rfl
  | some p =>
    obtain ⟨x, y⟩ := p
    obtain ⟨hx, hy⟩ := h x y rfl
    rw [endedO, impl_dig kind x (by omega), impl_dig kind y (by omega), ansC]
    simp only [Option.bind_some]
    split <;> rfl
theorem lastB_rd (p : List ByteArray) : rdOf ByteArray.empty p ((p.length - 1 : Nat) : Int) = lastB p := by simp [rdOf, lastB]
theorem held_none {x y : ByteArray} (h : x = y) : heldO x y = none := by rw [heldO, if_pos (by rw [h])]
theorem held_some {x y : ByteArray} (h : ¬ x = y) : heldO x y = some (x, y) := by rw [heldO, if_neg (fun e => h (ofList e))]
theorem claimB_left (kind : Int) (e : ByteArray) (i n : Nat) (l : List ByteArray) (h : 2 ≤ n) (hi : i < half n) : claimB kind e i n l = nodeB kind (claimB kind e i (half n) (initB l)) (lastB l) := by rw [claimB, dif_neg (by omega), if_pos hi]
theorem claimB_right (kind : Int) (e : ByteArray) (i n : Nat) (l : List ByteArray) (h : 2 ≤ n) (hi : ¬ i < half n) : claimB kind e i n l = nodeB kind (lastB l) (claimB kind e (i - half n) (n - half n) (initB l)) := by rw [claimB, dif_neg (by omega), if_neg hi]
theorem claimB_wd (kind : Int) (e : ByteArray) (i n : Nat) (l : List ByteArray) : (claimB kind e i n l).size = wd kind := by
  rw [claimB]
  split
  · exact dig_wd _ _
  · split <;> exact dig_wd _ _
theorem down_walk (kind : Int) (e : ByteArray) (he : e.size ≤ 1000000) (n : Nat) : ∀ (i : Nat) (l p : List ByteArray), l.length = n → i < n → n < 64 → p.length = pathLen i n → (∀ x ∈ l, x.size ≤ 1000000) → (∀ y ∈ p, y.size ≤ 1000000) →
    ∃ o : CandO, Ev (fun k => walkO kind e k (i : Int) l p) o ∧ Ev (fun k => spec_l3Down.f k kind l e (i : Int) p) (ansC kind o) ∧ (∀ x y, o = some (x, y) → x.size ≤ 100000000 ∧ y.size ≤ 100000000) ∧
      (claimB kind e i n p = rootL kind l → e ≠ l.getD i ByteArray.empty → ∃ x y, o = some (x, y) ∧ x ≠ y ∧ dig kind x = dig kind y) := by
  induction n using Nat.strongRecOn with
  | _ n ih =>
    intro i l p hl hi hn hp hsl hsp
    by_cases h1 : n ≤ 1
    · obtain rfl : n = 1 := by omega
      obtain rfl : i = 0 := by omega
      obtain ⟨a, rfl⟩ := List.length_eq_one_iff.mp hl
      have ha := hsl a (by simp)
      have hrd : rdOf ByteArray.empty [a] 0 = a := by simp [rdOf]
      have h0 : ((0 : Nat) : Int) = 0 := rfl
      have hlen : (([a] : List ByteArray).length : Int) = 1 := rfl
      have e1 : Ev (fun k => walkO kind e k ((0 : Nat) : Int) [a] p) (heldO (ltx e) (ltx a)) :=
        Ev.step (f := fun _ => some (heldO (ltx e) (ltx a))) (fun k => by rw [walkO, if_pos hlen, hrd, leafText_ev e (by omega), leafText_ev a (by omega)]; rfl) (Ev.now _)
      have hroot : claimB kind e 0 1 p = leafB kind e := by rw [claimB, dif_pos (Nat.le_refl _)]
      by_cases c : e = a
      · subst c
        refine ⟨none, by rw [held_none rfl] at e1; exact e1, ?_, fun x y h => by simp at h, fun _ hne => absurd rfl hne⟩
        exact Ev.step (f := fun _ => some (false, (⟨#[]⟩ : ByteArray), (⟨#[]⟩ : ByteArray))) (fun k => by rw [spec_l3Down.f, if_pos hlen, if_pos (by rw [hlen]; decide), hrd, if_pos rfl]) (Ev.now _)
      · refine ⟨some (ltx e, ltx a), by rw [held_some (fun h => c (ltx_inj h))] at e1; exact e1, ?_, fun x y h => by simp at h; obtain ⟨rfl, rfl⟩ := h; rw [ltx_size, ltx_size]; omega, fun hc _ => ⟨_, _, rfl, fun h => c (ltx_inj h), by rw [hroot, rootL_one] at hc; exact hc⟩⟩
        refine Ev.step (f := fun k => (spec_l3Candidate.f k kind (ltx e) (ltx a)).bind fun b => some (b.1, b.2.1, b.2.2)) (fun k => by rw [spec_l3Down.f, if_pos hlen, if_pos (by rw [hlen]; decide), hrd, if_neg (fun h => c (ofList h)), if_pos (by omega), if_pos (by omega)]; rfl) ?_
        exact (cand_ev kind _ _ (by rw [ltx_size]; omega) (by rw [ltx_size]; omega)).bind (Ev.now _)
    · subst hl
      have hlt := half_lt l.length (by omega)
      have hhp := half_pos l.length
      have hpos : 0 < p.length := by
        rw [hp]
        by_cases hc : i < half l.length
        · rw [pathLen_left i _ (by omega) hc]; omega
        · rw [pathLen_right i _ (by omega) hc]; omega
      have hple := pathLen_le 6 i l.length (by omega)
      have hz := hsp (lastB p) (lastB_mem p hpos)
      have w1 : wrap64 ((p.length : Int) - 1) = ((p.length - 1 : Nat) : Int) := by unfold wrap64; omega
      have hh := halves_ev kind l (by omega) hn (fun x hx => by have := hsl x hx; omega)
      have hin := inside_ev kind l (by omega) (by omega) (fun x hx => by have := hsl x hx; omega)
      have s1 := rootL_le kind (l.take (half l.length))
      have s2 := rootL_le kind (l.drop (half l.length))
      have hne1 : ¬ (l.length : Int) = 1 := by omega
      have hroot := rootL_two kind l (by omega)
      have ntake : p.take (p.length - 1) = initB p := rfl
      by_cases hc : i < half l.length
      · have hpl : (initB p).length = pathLen i (half l.length) := by rw [initB_len, hp, pathLen_left i _ (by omega) hc]; omega
        have htl : (l.take (half l.length)).length = half l.length := by rw [List.length_take]; omega
        obtain ⟨o, hw, hd, hb, ht⟩ := ih (half l.length) hlt i (l.take (half l.length)) (initB p) htl hc (by omega) hpl (fun x hx => hsl x (List.mem_of_mem_take hx)) (fun y hy => hsp y (initB_mem p y hy))
        obtain ⟨c0, hcs, hev, hcl⟩ := impl_claim_ev kind e (by omega) (half l.length) i (initB p) hc (by omega) (by rw [hpl]; have := pathLen_le 6 i (half l.length) (by omega); omega) (fun y hy => by have := hsp y (initB_mem p y hy); omega)
        have hsc := spec_claim kind e (by omega) (half l.length) i (initB p) hc (by omega) hpl (fun y hy => by have := hsp y (initB_mem p y hy); omega)
        obtain rfl := hcl hpl
        have hcw := claimB_wd kind e i (half l.length) (initB p)
        have hgd : (l.take (half l.length)).getD i ByteArray.empty = l.getD i ByteArray.empty := by simp [List.getD, List.getElem?_take, hc]
        have hrw := rootL_size kind (half l.length) (l.take (half l.length)) (by omega)
        have hcase : (ntx (claimB kind e i (half l.length) (initB p)) (lastB p) = ntx (rootL kind (l.take (half l.length))) (rootL kind (l.drop (half l.length))) ∧ True) ∨ ¬ ntx (claimB kind e i (half l.length) (initB p)) (lastB p) = ntx (rootL kind (l.take (half l.length))) (rootL kind (l.drop (half l.length))) := by
          by_cases h : ntx (claimB kind e i (half l.length) (initB p)) (lastB p) = ntx (rootL kind (l.take (half l.length))) (rootL kind (l.drop (half l.length)))
          · exact .inl ⟨h, trivial⟩
          · exact .inr h
        have ew : ∀ o2 : CandO, Ev (fun k => orO (heldO (ntx (claimB kind e i (half l.length) (initB p)) (lastB p)) (ntx (rootL kind (l.take (half l.length))) (rootL kind (l.drop (half l.length))))) (walkO kind e k (i : Int) (l.take (half l.length)) (initB p))) o2 → Ev (fun k => walkO kind e k (i : Int) l p) o2 := by
          intro o2 h2
          refine Ev.step (fun k => by rw [walkO, if_neg hne1]) ?_
          refine (below_ev l.length (by omega)).bind ?_
          simp only [if_pos (show 1 ≤ p.length ∧ p.length ≤ 9223372036854775807 by omega), if_pos (show (0 : Int) ≤ ((half l.length : Nat) : Int) by omega), if_pos (show ((half l.length : Nat) : Int) ≤ (l.length : Int) by omega), if_pos (show (i : Int) < ((half l.length : Nat) : Int) by omega), Int.toNat_natCast, lastB_rd, ntake]
          refine hev.bind ?_
          simp only [nodeText_ev (claimB kind e i (half l.length) (initB p)) (lastB p) (by omega) (by omega), Option.bind_some]
          exact hh.bind h2
        have ed : ∀ r, Ev (fun k => spec_l3Down.j0 k kind l e (i : Int) ((half l.length : Nat) : Int) (initB p) (ntx (claimB kind e i (half l.length) (initB p)) (lastB p))) r → Ev (fun k => spec_l3Down.f k kind l e (i : Int) p) r := by
          intro r h2
          refine Ev.step (fun k => by rw [spec_l3Down.f, if_neg hne1]) ?_
          refine (split_ev l.length (by omega)).bind ?_
          simp only [w1, if_pos (show (0 : Int) ≤ ((p.length - 1 : Nat) : Int) by omega), if_pos (show ((p.length - 1 : Nat) : Int) < (p.length : Int) by omega), if_pos (show ((p.length - 1 : Nat) : Int) ≤ (p.length : Int) by omega), if_pos (show (i : Int) < ((half l.length : Nat) : Int) by omega), Int.toNat_natCast, lastB_rd, ntake]
          refine hsc.bind ?_
          simp only [if_pos (show 1 + (claimB kind e i (half l.length) (initB p)).size ≤ 9223372036854775807 by omega), if_pos (show ((⟨#[1]⟩ : ByteArray) ++ claimB kind e i (half l.length) (initB p)).size + (lastB p).size ≤ 9223372036854775807 by rw [pre_size]; omega)]
          exact h2
        rcases hcase with ⟨heq, _⟩ | hne
        · refine ⟨o, ew o ?_, ed _ ?_, hb, fun hcl hne => ?_⟩
          · rw [held_none heq]; exact hw
          · refine Ev.step (fun k => by rw [spec_l3Down.j0]) ?_
            refine hin.bind ?_
            simp only [if_pos (congrArg ByteArray.toList heq), if_pos (show (i : Int) < ((half l.length : Nat) : Int) by omega), if_pos (show (0 : Int) ≤ ((half l.length : Nat) : Int) by omega), if_pos (show ((half l.length : Nat) : Int) ≤ (l.length : Int) by omega), Int.toNat_natCast]
            exact hd.bind (Ev.now _)
          · exact ht (ntx_inj heq (by rw [hcw, hrw])).1 (by rw [hgd]; exact hne)
        · refine ⟨some (_, _), ew _ ?_, ed _ ?_, fun x y h => ?_, fun hcl _ => ⟨_, _, rfl, hne, ?_⟩⟩
          · rw [held_some hne]; exact Ev.now _
          · refine Ev.step (fun k => by rw [spec_l3Down.j0]) ?_
            refine hin.bind ?_
            simp only [if_neg (fun h => hne (ofList h))]
            exact (cand_ev kind _ _ (by rw [ntx_size]; omega) (by rw [ntx_size]; omega)).bind (Ev.now _)
          · simp only [Option.some.injEq, Prod.mk.injEq] at h
            obtain ⟨rfl, rfl⟩ := h
            rw [ntx_size, ntx_size]
            omega
          · rw [claimB_left kind e i _ p (by omega) hc, hroot] at hcl
            exact hcl
      · have hpl : (initB p).length = pathLen (i - half l.length) (l.length - half l.length) := by rw [initB_len, hp, pathLen_right i _ (by omega) hc]; omega
        have htl : (l.drop (half l.length)).length = l.length - half l.length := by rw [List.length_drop]
        have w2 : wrap64 ((i : Int) - ((half l.length : Nat) : Int)) = ((i - half l.length : Nat) : Int) := by unfold wrap64; omega
        have w3 : wrap64 ((l.length : Int) - ((half l.length : Nat) : Int)) = ((l.length - half l.length : Nat) : Int) := by unfold wrap64; omega
        obtain ⟨o, hw, hd, hb, ht⟩ := ih (l.length - half l.length) (by omega) (i - half l.length) (l.drop (half l.length)) (initB p) htl (by omega) (by omega) hpl (fun x hx => hsl x (List.mem_of_mem_drop hx)) (fun y hy => hsp y (initB_mem p y hy))
        obtain ⟨c0, hcs, hev, hcl⟩ := impl_claim_ev kind e (by omega) (l.length - half l.length) (i - half l.length) (initB p) (by omega) (by omega) (by rw [hpl]; have := pathLen_le 6 (i - half l.length) (l.length - half l.length) (by omega); omega) (fun y hy => by have := hsp y (initB_mem p y hy); omega)
        have hsc := spec_claim kind e (by omega) (l.length - half l.length) (i - half l.length) (initB p) (by omega) (by omega) hpl (fun y hy => by have := hsp y (initB_mem p y hy); omega)
        obtain rfl := hcl hpl
        have hcw := claimB_wd kind e (i - half l.length) (l.length - half l.length) (initB p)
        have hgd : (l.drop (half l.length)).getD (i - half l.length) ByteArray.empty = l.getD i ByteArray.empty := by simp [List.getD, List.getElem?_drop, show half l.length + (i - half l.length) = i by omega]
        have hrw := rootL_size kind _ (l.drop (half l.length)) (Nat.le_refl _)
        have hrl := rootL_size kind _ (l.take (half l.length)) (Nat.le_refl _)
        have ew : ∀ o2 : CandO, Ev (fun k => orO (heldO (ntx (lastB p) (claimB kind e (i - half l.length) (l.length - half l.length) (initB p))) (ntx (rootL kind (l.take (half l.length))) (rootL kind (l.drop (half l.length))))) (walkO kind e k ((i - half l.length : Nat) : Int) (l.drop (half l.length)) (initB p))) o2 → Ev (fun k => walkO kind e k (i : Int) l p) o2 := by
          intro o2 h2
          refine Ev.step (fun k => by rw [walkO, if_neg hne1]) ?_
          refine (below_ev l.length (by omega)).bind ?_
          simp only [if_pos (show 1 ≤ p.length ∧ p.length ≤ 9223372036854775807 by omega), if_pos (show (0 : Int) ≤ ((half l.length : Nat) : Int) by omega), if_pos (show ((half l.length : Nat) : Int) ≤ (l.length : Int) by omega), if_neg (show ¬ (i : Int) < ((half l.length : Nat) : Int) by omega), Int.toNat_natCast, lastB_rd, ntake, w2, w3]
          refine hev.bind ?_
          simp only [nodeText_ev (lastB p) (claimB kind e (i - half l.length) (l.length - half l.length) (initB p)) (by omega) (by omega), Option.bind_some]
          exact hh.bind h2
        have ed : ∀ r, Ev (fun k => spec_l3Down.j0 k kind l e (i : Int) ((half l.length : Nat) : Int) (initB p) (ntx (lastB p) (claimB kind e (i - half l.length) (l.length - half l.length) (initB p)))) r → Ev (fun k => spec_l3Down.f k kind l e (i : Int) p) r := by
          intro r h2
          refine Ev.step (fun k => by rw [spec_l3Down.f, if_neg hne1]) ?_
          refine (split_ev l.length (by omega)).bind ?_
          simp only [w1, if_pos (show (0 : Int) ≤ ((p.length - 1 : Nat) : Int) by omega), if_pos (show ((p.length - 1 : Nat) : Int) < (p.length : Int) by omega), if_pos (show ((p.length - 1 : Nat) : Int) ≤ (p.length : Int) by omega), if_neg (show ¬ (i : Int) < ((half l.length : Nat) : Int) by omega), Int.toNat_natCast, lastB_rd, ntake, w2, w3]
          simp only [if_pos (show 1 + (lastB p).size ≤ 9223372036854775807 by omega)]
          refine hsc.bind ?_
          simp only [if_pos (show ((⟨#[1]⟩ : ByteArray) ++ lastB p).size + (claimB kind e (i - half l.length) (l.length - half l.length) (initB p)).size ≤ 9223372036854775807 by rw [pre_size]; omega)]
          exact h2
        by_cases heq : ntx (lastB p) (claimB kind e (i - half l.length) (l.length - half l.length) (initB p)) = ntx (rootL kind (l.take (half l.length))) (rootL kind (l.drop (half l.length)))
        · refine ⟨o, ew o ?_, ed _ ?_, hb, fun hcl hne => ?_⟩
          · rw [held_none heq]; exact hw
          · refine Ev.step (fun k => by rw [spec_l3Down.j0]) ?_
            refine hin.bind ?_
            simp only [if_pos (congrArg ByteArray.toList heq), if_neg (show ¬ (i : Int) < ((half l.length : Nat) : Int) by omega), if_pos (show (0 : Int) ≤ ((half l.length : Nat) : Int) by omega), if_pos (show ((half l.length : Nat) : Int) ≤ (l.length : Int) by omega), Int.toNat_natCast, w2]
            exact hd.bind (Ev.now _)
          · have hsz := congrArg ByteArray.size heq
            rw [ntx_size, ntx_size, hcw, hrw] at hsz
            exact ht (ntx_inj heq (by omega)).2 (by rw [hgd]; exact hne)
        · refine ⟨some (_, _), ew _ ?_, ed _ ?_, fun x y h => ?_, fun hcl _ => ⟨_, _, rfl, heq, ?_⟩⟩
          · rw [held_some heq]; exact Ev.now _
          · refine Ev.step (fun k => by rw [spec_l3Down.j0]) ?_
            refine hin.bind ?_
            simp only [if_neg (fun h => heq (ofList h))]
            exact (cand_ev kind _ _ (by rw [ntx_size]; omega) (by rw [ntx_size]; omega)).bind (Ev.now _)
          · simp only [Option.some.injEq, Prod.mk.injEq] at h
            obtain ⟨rfl, rfl⟩ := h
            rw [ntx_size, ntx_size]
            omega
          · rw [claimB_right kind e i _ p (by omega) hc, hroot] at hcl
            exact hcl
end Go.Proofs.YtajkbbifemeanaaGreatDoor.Pure
end
section
set_option linter.unusedVariables false
set_option linter.unusedSimpArgs false
namespace Go.Proofs.YtajkbbifemeanaaGreatDoor.Pure
open Go Go.RowKit Go.Proofs.YtajkbbifemeanaaGreatDoor Go.Proofs.YtajkbbifemeanaaGreatDoor.L Go.Proofs.YtajkbbifemeanaaGreatDoorW.PrintWords Go.Proofs.YtajkbbifemeanaaGreatDoorW.PrintMore Go.Proofs.YtajkbbifemeanaaGreatDoorW.PrintLast
/-- A short list of short texts. -/
def ShL (n m : Nat) (l : List ByteArray) : Prop := l.length ≤ n ∧ ∀ x ∈ l, x.size ≤ m
theorem ShL.push {n m : Nat} {l : List ByteArray} (h : ShL n m l) {x : ByteArray} (hx : x.size ≤ m) : ShL (n + 1) m (l ++ [x]) := by
  refine ⟨by have := h.1; simp; omega, fun y hy => ?_⟩
  rcases List.mem_append.mp hy with hy | hy
  · exact h.2 y hy
  · rw [List.mem_singleton.mp hy]; exact hx
theorem ShL.mono {n n' m m' : Nat} {l : List ByteArray} (h : ShL n m l) (hn : n ≤ n') (hm : m ≤ m') : ShL n' m' l := ⟨Nat.le_trans h.1 hn, fun x hx => Nat.le_trans (h.2 x hx) hm⟩
theorem ShL.set {n m : Nat} {l : List ByteArray} (h : ShL n m l) (i : Nat) {x : ByteArray} (hx : x.size ≤ m) : ShL n m (l.set i x) := by
  refine ⟨by rw [List.length_set]; exact h.1, fun y hy => ?_⟩
  rcases List.mem_or_eq_of_mem_set hy with hy | rfl
  · exact h.2 y hy
  · exact hx
theorem entries_l0 {code : List Int} (hC : CodeOk code) (n d : Nat) : ∀ (i : Nat) (l : List ByteArray) (a s b : Int), i + d = n → n ≤ 20 → ShL i 3 l → Cu b a s → b + 300 * (d : Int) ≤ 100000000 →
    EvP (fun k => spec_l2DrawEntries.l0 k l (n : Int) (i : Int) code a s) (fun r => ShL n 3 r.1 ∧ Cu (b + 300 * (d : Int)) r.2.1 r.2.2) := by
  induction d with
  | zero =>
    intro i l a s b hi hn hl hc hb
    obtain rfl : i = n := by omega
    exact EvP.step (fun k => by rw [spec_l2DrawEntries.l0, if_neg (by omega)]) (EvP.now _ ⟨hl, hc.mono (by show b ≤ b + 300 * ((0 : Nat) : Int); omega)⟩)
  | succ d ih =>
    intro i l a s b hi hn hl hc hb
    refine EvP.step (fun k => by rw [spec_l2DrawEntries.l0, if_pos (by omega)]) ?_
    refine (bytes_ok hC 3 (by decide) hc (by omega)).bind fun r hr => ?_
    have := hl.1
    refine EvP.pos (by omega) ?_
    rw [wsucc i (by omega)]
    exact (ih (i + 1) _ _ _ (b + 300) (by omega) hn (hl.push (by have := hr.1; omega)) hr.2 (by omega)).mono fun r h => ⟨h.1, h.2.mono (by omega)⟩
theorem entries_ok {code : List Int} (hC : CodeOk code) {a s b : Int} (hc : Cu b a s) (hb : b ≤ 10000) :
    EvP (fun k => spec_l2DrawEntries.f k code a s 9) (fun r => ShL 9 3 r.1 ∧ Cu (b + 4000) r.2.1 r.2.2) := by
  unfold spec_l2DrawEntries.f
  have w : wrap64 (9 + 1) = 10 := (w64 (9 + 1) (by omega)).trans rfl
  rw [w]
  obtain ⟨q, a', s', e, q0, q1, hc'⟩ := pick_ok hC 10 (by decide) (by decide) hc (by omega)
  simp only [e, Option.bind_some]
  obtain ⟨n, rfl⟩ : ∃ n : Nat, q = n := ⟨q.toNat, by omega⟩
  exact (entries_l0 hC n n 0 [] a' s' (b + 2) (by omega) (by omega) ⟨by simp, fun x hx => by cases hx⟩ hc' (by omega)).mono fun r h => ⟨h.1.mono (by omega) (by omega), h.2.mono (by omega)⟩
theorem path_nil (kind : Int) (l : List ByteArray) (i m : Int) (n : Nat) : EvP (fun k => spec_Path.j0 k kind l i m true) (fun r => ShL n 32 r) :=
  EvP.step (fun k => by rw [spec_Path.j0, if_pos rfl]) (EvP.now _ ⟨by simp, fun x hx => by cases hx⟩)
theorem path_ok (kind : Int) (n : Nat) : ∀ (i : Int) (l : List ByteArray), l.length = n → 1 ≤ n → n ≤ 1000 → (∀ x ∈ l, x.size ≤ 1000000) → EvP (fun k => spec_Path.f k kind l i) (fun r => ShL n 32 r) := by
  induction n using Nat.strongRecOn with
  | _ n ih =>
    intro i l hl h1 hn hs
    subst hl
    refine EvP.step (fun k => by rw [spec_Path.f, spec_kOK, Option.bind_some]) ?_
    refine EvP.ite (fun _ => ?_) (fun _ => path_nil ..)
    simp only [between_b, Option.bind_some]
    refine EvP.ite (fun _ => ?_) (fun _ => path_nil ..)
    by_cases h2 : (l.length : Int) = 1
    · have e : ((l.length : Int) == 1) = true := beq_iff_eq.mpr h2
      rw [e]
      exact path_nil ..
    · have e : ((l.length : Int) == 1) = false := beq_eq_false_iff_ne.mpr h2
      rw [e]
      have hlt := half_lt l.length (by omega)
      have hhp := half_pos l.length
      have e1 := spec_root kind l.length (l.take (half l.length)) (by rw [List.length_take]; omega) (by rw [List.length_take]; omega) (fun e he => by have := hs e (List.mem_of_mem_take he); omega)
      have e2 := spec_root kind l.length (l.drop (half l.length)) (by rw [List.length_drop]; omega) (by rw [List.length_drop]; omega) (fun e he => by have := hs e (List.mem_of_mem_drop he); omega)
      refine EvP.step (fun k => by rw [spec_Path.j0, if_neg (by decide)]) ?_
      refine (EvP.ev (split_ev l.length (by omega))).bind fun t ht => ?_
      subst ht
      simp only [Int.toNat_natCast]
      refine EvP.ite (fun _ => ?_) (fun _ => ?_)
      · refine EvP.pos (by omega) (EvP.pos (by omega) ?_)
        refine (ih (half l.length) hlt i (l.take (half l.length)) (by rw [List.length_take]; omega) (by omega) (by omega) (fun x hx => hs x (List.mem_of_mem_take hx))).bind fun r hr => ?_
        refine (EvP.ev e2).bind fun u hu => ?_
        subst hu
        have := hr.1
        refine EvP.pos (by omega) (EvP.now _ ((hr.push (rootL_le kind _)).mono (by omega) (Nat.le_refl _)))
      · refine EvP.pos (by omega) (EvP.pos (by omega) ?_)
        refine (ih (l.length - half l.length) (by omega) _ (l.drop (half l.length)) (by rw [List.length_drop]) (by omega) (by omega) (fun x hx => hs x (List.mem_of_mem_drop hx))).bind fun r hr => ?_
        refine (EvP.ev e1).bind fun u hu => ?_
        subst hu
        have := hr.1
        refine EvP.pos (by omega) (EvP.now _ ((hr.push (rootL_le kind _)).mono (by omega) (Nat.le_refl _)))
theorem forge_l1 (kind : Int) (e : ByteArray) (he : e.size ≤ 1000) (i n : Int) (hn : 0 ≤ n) (root : ByteArray) (code : List Int) (a s : Int) (d : Nat) : ∀ (j : Nat) (l : List ByteArray), j + d = 256 → 1 ≤ l.length → ShL 64 32 l →
    EvP (fun k => spec_l3Forge.l1 k kind e i n root l (j : Int) code a s) (fun r => ShL 64 32 r.1) := by
  induction d with
  | zero =>
    intro j l hj h1 hl
    exact EvP.step (fun k => by rw [spec_l3Forge.l1, if_neg (by omega)]) (EvP.now _ hl)
  | succ d ih =>
    intro j l hj h1 hl
    have hll := hl.1
    have w1 : wrap64 ((l.length : Int) - 1) = ((l.length - 1 : Nat) : Int) := by unfold wrap64; omega
    refine EvP.step (fun k => by rw [spec_l3Forge.l1, if_pos (by omega), w1, if_pos (by omega), if_pos (by omega), Option.bind_some]) ?_
    have hx : (strOfNums [(j : Int) % 256]).size ≤ 32 := by rw [strOfNums_sizeC]; simp
    have hl' := hl.set ((l.length - 1 : Nat) : Int).toNat hx
    refine (EvP.ev (spec_path kind e (by omega) i n (by omega) root _ (by have := hl'.1; omega) (fun y hy => by have := hl'.2 y hy; omega))).bind fun t ht => ?_
    refine EvP.ite (fun _ => EvP.now _ hl') (fun _ => ?_)
    rw [wsucc j (by omega)]
    exact ih (j + 1) _ (by omega) (by rw [List.length_set]; exact h1) hl'
theorem forge_l0 {code : List Int} (hC : CodeOk code) (kind : Int) (e : ByteArray) (he : e.size ≤ 1000) (i n : Nat) (hi : i < n) (hn : n ≤ 1000) (root : ByteArray) (d : Nat) : ∀ (l : List ByteArray) (a s b : Int), ShL (pathLen i n - d) 32 l → (d = 0 → pathLen i n ≤ l.length) → (0 < d → l.length + d = pathLen i n) → Cu b a s → b + 2 * (d : Int) ≤ 10000000 →
    EvP (fun k => spec_l3Forge.l0 k kind e (i : Int) (n : Int) root l code a s) (fun r => ShL 64 32 r.1) := by
  have hpl := pathLen_le 10 i n (by omega)
  induction d with
  | zero =>
    intro l a s b hl h0 h1 hc hb
    have hll := h0 rfl
    refine EvP.step (fun k => by rw [spec_l3Forge.l0]) ?_
    refine (EvP.ev (pathLen_ev n i hi (by omega))).bind fun t ht => ?_
    subst ht
    refine EvP.neg (by omega) ?_
    have hl6 : ShL 64 32 l := hl.mono (by omega) (Nat.le_refl _)
    have j1 : ∀ b : Bool, 1 ≤ l.length ∨ b = true → EvP (fun k => spec_l3Forge.j1 k kind e (i : Int) (n : Int) root l b code a s) (fun r => ShL 64 32 r.1) := by
      intro b hb
      cases b with
      | true => exact EvP.step (fun k => by rw [spec_l3Forge.j1, if_pos rfl]) (EvP.now _ hl6)
      | false =>
        refine EvP.step (fun k => by rw [spec_l3Forge.j1, if_neg (by decide)]) ?_
        exact forge_l1 kind e he (i : Int) (n : Int) (by omega) root code a s 256 0 l (by omega) (by rcases hb with h | h; exact h; cases h) hl6
    refine EvP.ite (fun _ => j1 true (.inr rfl)) (fun h => j1 _ (.inl (by omega)))
  | succ d ih =>
    intro l a s b hl h0 h1 hc hb
    have hll := h1 (by omega)
    refine EvP.step (fun k => by rw [spec_l3Forge.l0]) ?_
    refine (EvP.ev (pathLen_ev n i hi (by omega))).bind fun t ht => ?_
    subst ht
    refine EvP.pos (by omega) ?_
    obtain ⟨q, a', s', e', q0, q1, hc'⟩ := pick_ok hC 256 (by decide) (by decide) hc (by omega)
    simp only [e', Option.bind_some]
    refine EvP.pos (by omega) ?_
    refine ih _ a' s' (b + 2) ((hl.push (by rw [strOfNums_sizeC]; simp)).mono (by omega) (Nat.le_refl _)) (fun h => by subst h; rw [List.length_append, List.length_singleton]; omega) (fun h => by rw [List.length_append, List.length_singleton]; omega) hc' (by omega)
theorem forge_ok {code : List Int} (hC : CodeOk code) (kind : Int) (e : ByteArray) (he : e.size ≤ 1000) (i n : Nat) (hi : i < n) (hn : n ≤ 1000) (root : ByteArray) {a s b : Int} (hc : Cu b a s) (hb : b ≤ 1000000) :
    EvP (fun k => spec_l3Forge.f k code a s kind e (i : Int) (n : Int) root) (fun r => ShL 64 32 r.1) := by
  have hpl := pathLen_le 10 i n (by omega)
  unfold spec_l3Forge.f
  exact forge_l0 hC kind e he i n hi hn root (pathLen i n) [] a s b ⟨by simp, fun x hx => by cases hx⟩ (fun h => by rw [h]; simp) (fun _ => by simp) hc (by omega)
theorem times_l0 (x : ByteArray) (hx : x.size ≤ 1) (n d : Nat) : ∀ (i : Nat) (l : List Int), i + d = n → n ≤ 100 → l.length ≤ i → EvP (fun k => spec_l1Times.l0 k x (n : Int) l (i : Int)) (fun r => r.size ≤ n) := by
  induction d with
  | zero =>
    intro i l hi hn hl
    exact EvP.step (fun k => by rw [spec_l1Times.l0, if_neg (by omega)]) (EvP.now _ (by rw [strOfNums_sizeC]; omega))
  | succ d ih =>
    intro i l hi hn hl
    refine EvP.step (fun k => by rw [spec_l1Times.l0, if_pos (by omega), if_pos (by omega), wsucc i (by omega)]) ?_
    refine ih (i + 1) _ (by omega) hn ?_
    have : (bytesOf x).length = x.size := by unfold bytesOf; rw [List.length_map]; rfl
    rw [List.length_append, this]
    omega
theorem kindd_ok {code : List Int} (hC : CodeOk code) {a s b : Int} (hc : Cu b a s) (hb : b ≤ 1000000) : ∃ q a' s', spec_l1DrawKind.f code a s = some (q, a', s') := by
  unfold spec_l1DrawKind.f
  obtain ⟨q, a', s', e, q0, q1, hc'⟩ := pick_ok hC 16 (by decide) (by decide) hc (by omega)
  rw [e, Option.bind_some]
  by_cases h : q = 15
  · obtain ⟨q2, a2, s2, e2, q20, q21, hc2⟩ := pick_ok hC 2 (by decide) (by decide) hc' (by omega)
    simp only [if_pos h, Option.bind_some, e2, if_pos q20, if_pos (show q2 < ((([2, (-1)] : List Int).length : Nat) : Int) from q21)]
    exact ⟨_, _, _, rfl⟩
  · simp only [if_neg h]
    exact ⟨_, _, _, rfl⟩
/-- The work drawn: kind, entries, entry, index, path. -/
def WorkOk (r : Int × List ByteArray × ByteArray × Int × List ByteArray) : Prop :=
  1 ≤ r.2.1.length ∧ ShL 20 1000 r.2.1 ∧ r.2.2.1.size ≤ 1000 ∧ (-10 ≤ r.2.2.2.1 ∧ r.2.2.2.1 ≤ 1000) ∧ ShL 100 1000 r.2.2.2.2
def WorkOk7 (r : Int × List ByteArray × ByteArray × Int × List ByteArray × Int × Int) : Prop := WorkOk (r.1, r.2.1, r.2.2.1, r.2.2.2.1, r.2.2.2.2.1)
theorem draw_j1 {code : List Int} (hC : CodeOk code) (kind : Int) (l : List ByteArray) (hl1 : 1 ≤ l.length) (hl : ShL 20 1000 l) (i : Int) (hi : 0 ≤ i) (hi2 : i < (l.length : Int)) (p : List ByteArray) (hp : ShL 20 32 p) (e : ByteArray) (he : e.size ≤ 1000) (y : Int) (c : Bool) {a s b : Int} (hc : Cu b a s) (hb : b ≤ 10000) :
    EvP (fun k => spec_l3DrawPath.j1 k kind l i p e y c code a s) WorkOk7 := by
  have hll := hl.1
  have hpl := hp.1
  have hw : ∀ (kd : Int) (e' : ByteArray) (i' : Int) (p' : List ByteArray) (a' s' : Int), e'.size ≤ 1000 → (-10 ≤ i' ∧ i' ≤ 1000) → ShL 100 1000 p' → WorkOk7 (kd, l, e', i', p', a', s') := fun kd e' i' p' a' s' h1 h2 h3 => ⟨hl1, hl, h1, h2, h3⟩
  have hp2 : ShL 100 1000 p := hp.mono (by omega) (by omega)
  refine EvP.step (fun k => by rw [spec_l3DrawPath.j1]) ?_
  refine EvP.ite (fun _ => ?_) (fun _ => ?_)
  · refine (bytes_ok hC 2 (by decide) hc (by omega)).bind fun r hr => ?_
    have hr1 : r.1.size ≤ 1000 := by have := hr.1; omega
    refine EvP.ite (fun _ => ?_) (fun _ => EvP.now _ (hw _ _ _ _ _ _ hr1 (by omega) hp2))
    refine (EvP.ev (spec_root kind l.length l (Nat.le_refl _) (by omega) (fun x hx => by have := hl.2 x hx; omega))).bind fun t ht => ?_
    obtain ⟨i', rfl⟩ := Int.eq_ofNat_of_zero_le hi
    refine (forge_ok hC kind r.1 hr1 i' l.length (by omega) (by omega) t hr.2 (by omega)).bind fun u hu => ?_
    exact EvP.now _ (hw _ _ _ _ _ _ hr1 (by omega) (hu.mono (by omega) (by omega)))
  · refine EvP.ite (fun _ => ?_) (fun _ => ?_)
    · refine EvP.ite (fun h => ?_) (fun _ => EvP.now _ (hw _ _ _ _ _ _ he (by omega) hp2))
      obtain ⟨q, a', s', e', q0, q1, hc'⟩ := pick_ok hC (p.length : Int) (by omega) (by omega) hc (by omega)
      simp only [e', Option.bind_some]
      refine (bytes_ok hC 2 (by decide) hc' (by omega)).bind fun r hr => ?_
      refine EvP.pos q0 (EvP.pos q1 (EvP.now _ (hw _ _ _ _ _ _ he (by omega) (hp2.set _ (by have := hr.1; omega)))))
    · refine EvP.ite (fun _ => ?_) (fun _ => ?_)
      · simp only [spec_wdt, Option.bind_some]
        obtain ⟨n, hn, hn2⟩ : ∃ n : Nat, wdt kind = n ∧ n ≤ 100 := by
          unfold wdt
          split
          · exact ⟨1, rfl, by omega⟩
          · exact ⟨32, rfl, by omega⟩
        rw [hn]
        have ht : EvP (fun k => spec_l1Times.f k (⟨#[119]⟩ : ByteArray) (n : Int)) (fun r => r.size ≤ n) := times_l0 (⟨#[119]⟩ : ByteArray) (by decide) n n 0 [] (by omega) hn2 (by simp)
        refine ht.bind fun r hr => ?_
        refine EvP.pos (by omega) (EvP.now _ (hw _ _ _ _ _ _ he (by omega) ((hp.mono (n' := 20) (m' := 1000) (by omega) (by omega)).push (by omega) |>.mono (by omega) (by omega))))
      · refine EvP.ite (fun _ => ?_) (fun _ => ?_)
        · have w1 : wrap64 ((l.length : Int) + 2) = (l.length : Int) + 2 := w64 _ (by omega)
          rw [w1]
          obtain ⟨q, a', s', e', q0, q1, hc'⟩ := pick_ok hC ((l.length : Int) + 2) (by omega) (by omega) hc (by omega)
          simp only [e', Option.bind_some]
          refine EvP.now _ (hw _ _ _ _ _ _ he ?_ hp2)
          rw [w64 _ (by omega)]
          omega
        · refine EvP.ite (fun _ => ?_) (fun _ => EvP.now _ (hw _ _ _ _ _ _ he (by omega) hp2))
          obtain ⟨q, a', s', e'⟩ := kindd_ok hC hc (by omega)
          simp only [e', Option.bind_some]
          exact EvP.now _ (hw _ _ _ _ _ _ he (by omega) hp2)
theorem draw_j0 {code : List Int} (hC : CodeOk code) (kind : Int) {a s b : Int} (hc : Cu b a s) (hb : b ≤ 100) : EvP (fun k => spec_l3DrawPath.j0 k kind code a s) WorkOk7 := by
  refine EvP.step (fun k => by rw [spec_l3DrawPath.j0]) ?_
  refine (entries_ok hC hc (by omega)).bind fun r hr => ?_
  have h1 := hr.1.1
  refine EvP.pos (by omega) ?_
  simp only [Option.bind_some]
  have hl := hr.1.push (x := (⟨#[101]⟩ : ByteArray)) (by decide)
  have hl0 : 1 ≤ (r.1 ++ [(⟨#[101]⟩ : ByteArray)]).length := by simp
  generalize r.1 ++ [(⟨#[101]⟩ : ByteArray)] = l at hl hl0 ⊢
  have hll := hl.1
  obtain ⟨q, a', s', e', q0, q1, hc'⟩ := pick_ok hC (l.length : Int) (by omega) (by omega) hr.2 (by omega)
  simp only [e', Option.bind_some]
  refine (path_ok kind l.length q l rfl hl0 (by omega) (fun x hx => by have := hl.2 x hx; omega)).bind fun p hp => ?_
  refine EvP.pos q0 (EvP.pos q1 ?_)
  obtain ⟨q2, a2, s2, e2, q20, q21, hc2⟩ := pick_ok hC 10 (by decide) (by decide) hc' (by omega)
  simp only [e2, Option.bind_some]
  have he : (rdOf ByteArray.empty l q).size ≤ 1000 := by have := hl.2 _ (rdOf_mem ByteArray.empty l q q0 q1); omega
  have hj := fun c => draw_j1 hC kind l hl0 (hl.mono (by omega) (by omega)) q q0 q1 p (hp.mono (by omega) (Nat.le_refl _)) _ he q2 c hc2 (by omega)
  exact EvP.ite (fun _ => hj _) (fun _ => EvP.ite (fun _ => hj _) (fun _ => EvP.ite (fun _ => hj _) (fun _ => hj _)))
theorem draw_ok {code : List Int} (hC : CodeOk code) : EvP (fun k => spec_DrawCollidePath.f k code) WorkOk := by
  unfold spec_DrawCollidePath.f spec_l3DrawPath.f
  have h0 : Cu 0 0 0 := ⟨by omega, by omega, by omega, by omega⟩
  refine EvP.bind (P := WorkOk7) ?_ (fun r hr => EvP.now _ hr)
  obtain ⟨q, a', s', e, q0, q1, hc'⟩ := pick_ok hC 2 (by decide) (by decide) h0 (by omega)
  simp only [e, Option.bind_some]
  obtain ⟨q2, a2, s2, e2, q20, q21, hc2⟩ := pick_ok hC 3 (by decide) (by decide) hc' (by omega)
  simp only [e2, Option.bind_some]
  exact EvP.ite (fun _ => draw_j0 hC 1 hc2 (by omega)) (fun _ => draw_j0 hC q hc2 (by omega))
end Go.Proofs.YtajkbbifemeanaaGreatDoor.Pure
end
section
set_option linter.unusedVariables false
set_option linter.unusedSimpArgs false
namespace Go.Proofs.YtajkbbifemeanaaGreatDoor.Pure
open Go Go.RowKit Go.Proofs.YtajkbbifemeanaaGreatDoor Go.Proofs.YtajkbbifemeanaaGreatDoor.L Go.Proofs.YtajkbbifemeanaaGreatDoorW.PrintWords Go.Proofs.YtajkbbifemeanaaGreatDoorW.PrintMore Go.Proofs.YtajkbbifemeanaaGreatDoorW.PrintLast
theorem fits_ev (kind : Int) (i : Int) (n : Nat) (hn : 1 ≤ n) (hn2 : n ≤ 2147483648) (l : List ByteArray) (hl : l.length ≤ 1000000000) :
    Ev (fun k => spec_l3PathFits.f k kind i (n : Int) l) (widOK kind l && (decide (0 ≤ i ∧ i ≤ (n : Int) - 1) && decide (l.length = pathLen i.toNat n))) := by
  unfold spec_l3PathFits.f
  have ff : ¬ (false = true) := by decide
  refine (spec_wid kind l (by omega)).bind ?_
  cases hw : widOK kind l with
  | false => simp only [if_neg ff, Bool.false_and]; exact Ev.now _
  | true =>
    have w : wrap64 ((n : Int) - 1) = (n : Int) - 1 := by unfold wrap64; omega
    simp only [if_true, between_b, Option.bind_some, Bool.true_and, decide_eq_true (show 1 ≤ (n : Int) ∧ (n : Int) ≤ 2147483648 by omega), w]
    by_cases hi : 0 ≤ i ∧ i ≤ (n : Int) - 1
    · simp only [decide_eq_true hi, if_true, Bool.true_and]
      obtain ⟨i', rfl⟩ := Int.eq_ofNat_of_zero_le hi.1
      refine (pathLen_ev n i' (by omega) (by omega)).bind ?_
      have e1 : ((l.length : Int) == ((pathLen i' n : Nat) : Int)) = decide (l.length = pathLen i' n) := by
        by_cases h : l.length = pathLen i' n
        · simp [h]
        · rw [decide_eq_false h]; exact beq_eq_false_iff_ne.2 (by omega)
      simp only [e1, Int.toNat_natCast]
      exact Ev.now _
    · simp only [decide_eq_false hi, if_neg ff, Bool.false_and]; exact Ev.now _
theorem collide (kind : Int) (l : List ByteArray) (hl1 : 1 ≤ l.length) (hl : ShL 20 1000 l) (e : ByteArray) (he : e.size ≤ 1000) (i : Int) (hi : -10 ≤ i ∧ i ≤ 1000) (p : List ByteArray) (hp : ShL 100 1000 p) :
    ∃ r : Bool × ByteArray × ByteArray, Ev (fun k => impl_CollidePath.f k kind l e i p) r ∧ Ev (fun k => spec_CollidePath.f k kind l e i p) r ∧
      (pathOk kind e i (l.length : Int) (rootL kind l) p = true → e ≠ l.getD i.toNat ByteArray.empty → ∃ x y, r = (true, x, y) ∧ x ≠ y ∧ dig kind x = dig kind y ∧ x.size ≤ 100000000 ∧ y.size ≤ 100000000) := by
  have hll := hl.1
  have hpl := hp.1
  have ff : ¬ (false = true) := by decide
  have hsp := fits_ev kind i l.length hl1 (by omega) p (by omega)
  by_cases hr : 0 ≤ i ∧ i ≤ (l.length : Int) - 1
  case neg =>
    refine ⟨(false, ⟨#[]⟩, ⟨#[]⟩), ?_, ?_, fun h => ?_⟩
    · unfold impl_CollidePath.f
      by_cases h0 : i < 0
      · simp only [if_pos h0]; exact Ev.now _
      · simp only [if_neg h0, if_pos (show i ≥ (l.length : Int) by omega)]; exact Ev.now _
    · unfold spec_CollidePath.f
      rw [decide_eq_false hr, Bool.false_and, Bool.and_false] at hsp
      refine hsp.bind ?_
      simp only [if_neg ff]
      exact Ev.now _
    · rw [pathOk, decide_eq_false hr] at h
      simp at h
  case pos =>
  obtain ⟨i', rfl⟩ := Int.eq_ofNat_of_zero_le hr.1
  rw [decide_eq_true hr, Bool.true_and, Int.toNat_natCast] at hsp
  have hiw := impl_wid kind p (by omega)
  have i1 : ∀ r, Ev (fun k => (impl_widths.f k kind p).bind fun b => if b = true then (if (p.length : Int) > 64 then some (false, (⟨#[]⟩ : ByteArray), (⟨#[]⟩ : ByteArray)) else (impl_claim.f k kind e (i' : Int) (l.length : Int) p).bind fun c => if c.2 = true then (walkO kind e k (i' : Int) l p).bind fun o => endedO kind o else some (false, (⟨#[]⟩ : ByteArray), (⟨#[]⟩ : ByteArray))) else some (false, (⟨#[]⟩ : ByteArray), (⟨#[]⟩ : ByteArray))) r → Ev (fun k => impl_CollidePath.f k kind l e (i' : Int) p) r := by
    intro r h
    unfold impl_CollidePath.f
    simp only [if_neg (show ¬ (i' : Int) < 0 by omega), if_neg (show ¬ (i' : Int) ≥ (l.length : Int) by omega)]
    exact h
  by_cases hw : widOK kind p = true
  case neg =>
    have hw' : widOK kind p = false := by simpa using hw
    rw [hw'] at hiw hsp
    refine ⟨(false, ⟨#[]⟩, ⟨#[]⟩), i1 _ (hiw.bind ?_), ?_, fun h => ?_⟩
    · simp only [if_neg ff]; exact Ev.now _
    · unfold spec_CollidePath.f
      rw [Bool.false_and] at hsp
      refine hsp.bind ?_
      simp only [if_neg ff]
      exact Ev.now _
    · rw [pathOk, hw', Bool.false_and] at h
      cases h
  case pos =>
  rw [hw] at hiw hsp
  rw [Bool.true_and] at hsp
  obtain ⟨c, hcs, hev, hcl⟩ := impl_claim_ev kind e (by omega) l.length i' p (by omega) (by omega) (by omega) (fun y hy => by have := hp.2 y hy; omega)
  by_cases hlen : p.length = pathLen i' l.length
  case neg =>
    rw [decide_eq_false hlen] at hsp hev
    refine ⟨(false, ⟨#[]⟩, ⟨#[]⟩), i1 _ (hiw.bind ?_), ?_, fun h => ?_⟩
    · simp only [if_true]
      by_cases h64 : (p.length : Int) > 64
      · simp only [if_pos h64]; exact Ev.now _
      · simp only [if_neg h64]
        refine hev.bind ?_
        simp only [if_neg ff]
        exact Ev.now _
    · unfold spec_CollidePath.f
      refine hsp.bind ?_
      simp only [if_neg ff]
      exact Ev.now _
    · rw [pathOk, Int.toNat_natCast, Int.toNat_natCast, decide_eq_false hlen] at h
      simp at h
  case pos =>
  have h5 := pathLen_le 5 i' l.length (by omega)
  rw [decide_eq_true hlen] at hsp hev
  obtain ⟨o, hwk, hd, hb, ht⟩ := down_walk kind e (by omega) l.length i' l p rfl (by omega) (by omega) hlen (fun x hx => by have := hl.2 x hx; omega) (fun y hy => by have := hp.2 y hy; omega)
  refine ⟨ansC kind o, i1 _ (hiw.bind ?_), ?_, fun h hne => ?_⟩
  · simp only [if_true, if_neg (show ¬ (p.length : Int) > 64 by omega)]
    refine hev.bind ?_
    simp only [if_true]
    refine hwk.bind ?_
    simp only [ended_ev kind o (fun x y h => by have := hb x y h; omega)]
    exact Ev.now _
  · unfold spec_CollidePath.f
    refine hsp.bind ?_
    simp only [if_true]
    exact hd.bind (Ev.now _)
  · rw [pathOk, Int.toNat_natCast, Int.toNat_natCast] at h
    simp only [Bool.and_eq_true] at h
    have hroot := ofList (beq_iff_eq.mp h.2.2.2.2)
    obtain ⟨x, y, rfl, hxy, hdd⟩ := ht hroot hne
    have hs := hb x y rfl
    refine ⟨x, y, ?_, hxy, hdd, hs.1, hs.2⟩
    rw [ansC, if_pos (congrArg ByteArray.toList hdd)]
theorem lie_ev {code : List Int} (hC : CodeOk code) : Ev (fun k => laws_FnLiePath.f k code) true := by
  have ff : ¬ (false = true) := by decide
  unfold laws_FnLiePath.f
  have hl := hC.2
  simp only [if_neg (show ¬ (code.length : Int) > 1048576 by omega)]
  obtain ⟨⟨kind, l, e, i, p⟩, hw, h1, h2, h3, h4, h5⟩ := draw_ok hC
  refine hw.bind ?_
  dsimp only at h1 h2 h3 h4 h5 ⊢
  have hll := h2.1
  have hpl := h5.1
  have hs : ∀ x ∈ l, x.size ≤ 10000000000 := fun x hx => by have := h2.2 x hx; omega
  refine (spec_root kind l.length l (Nat.le_refl _) (by omega) hs).bind ?_
  refine (spec_path kind e (by omega) i (l.length : Int) (by omega) (rootL kind l) p (by omega) (fun y hy => by have := h5.2 y hy; omega)).bind ?_
  refine (impl_path kind e (by omega) i (l.length : Int) (rootL kind l) p (by omega) (fun y hy => by have := h5.2 y hy; omega)).bind ?_
  simp only [bne_self_eq_false, if_neg ff]
  refine (impl_rootA kind l (by omega) hs).bind ?_
  simp only [bne_self_eq_false]
  refine Ev.step (fun k => by rw [laws_FnLiePath.j0, if_neg ff]) ?_
  obtain ⟨r, hi, hsp, ht⟩ := collide kind l h1 h2 e h3 i h4 p h5
  refine hi.bind ?_
  cases hok : pathOk kind e i (l.length : Int) (rootL kind l) p with
  | false =>
    simp only [if_neg ff]
    refine hsp.bind ?_
    simp only [beq_self_eq_true, Bool.and_self]
    exact Ev.now _
  | true =>
    have hr : 0 ≤ i ∧ i ≤ (l.length : Int) - 1 := by
      rw [pathOk] at hok
      simp only [Bool.and_eq_true, decide_eq_true_eq] at hok
      exact hok.2.2.1
    obtain ⟨i', rfl⟩ := Int.eq_ofNat_of_zero_le hr.1
    have hrd : rdOf ByteArray.empty l (i' : Int) = l.getD i' ByteArray.empty := by simp [rdOf]
    simp only [if_true, if_pos hr.1, if_pos (show (i' : Int) < (l.length : Int) by omega)]
    by_cases hne : e = l.getD i' ByteArray.empty
    · simp only [hrd, if_pos (congrArg ByteArray.toList hne)]
      exact Ev.now _
    · simp only [hrd, if_neg (fun h => hne (ofList h))]
      obtain ⟨x, y, rfl, hxy, hdd, hx, hy⟩ := ht hok (by rw [Int.toNat_natCast]; exact hne)
      have hcol : Ev (fun k => laws_hCollision.f k kind true x y) true := by
        unfold laws_hCollision.f
        simp only [if_true, if_neg (fun h => hxy (ofList h))]
        refine (spec_dig kind x (by omega)).bind ((spec_dig kind y (by omega)).bind ?_)
        rw [hdd, beq_self_eq_true]
        exact Ev.now _
      exact hcol.bind (Ev.now _)
end Go.Proofs.YtajkbbifemeanaaGreatDoor.Pure
end
section
set_option linter.unusedVariables false
set_option linter.unusedSimpArgs false
namespace Go.Proofs.YtajkbbifemeanaaGreatDoor.Pure
open Go Go.RowKit Go.Proofs.YtajkbbifemeanaaGreatDoor Go.Proofs.YtajkbbifemeanaaGreatDoor.L Go.Proofs.YtajkbbifemeanaaGreatDoorW.PrintWords Go.Proofs.YtajkbbifemeanaaGreatDoorW.PrintMore Go.Proofs.YtajkbbifemeanaaGreatDoorW.PrintLast
theorem fnLiePath_pure : fnLiePath.Pure0 := by
  intro l0 h0 g0
  have h : Ev (fun k => laws_FnLiePath.f k l0) true := by
    by_cases hl : (l0.length : Int) > 1048576
    · unfold laws_FnLiePath.f
      simp only [if_pos hl]
      exact Ev.now _
    have hb : ∀ y : Int, (Lit.int .u8 y).wf = true → 0 ≤ y ∧ y ≤ 255 := fun y hy => by
      have := (by simpa [Lit.wf, IntKind.min, IntKind.max, IntKind.bits, IntKind.signed] using hy : 0 ≤ y ∧ y ≤ 255)
      exact this
    exact lie_ev ⟨fun y hy => hb y (g0 y hy), by omega⟩
  exact h.rounds
end Go.Proofs.YtajkbbifemeanaaGreatDoor.Pure
namespace Go.Proofs.YtajkbbifemeanaaGreatDoor
theorem fnLiePath_holds : Rows.FnLiePathCardSaid := fnLiePath.card Pure.fnLiePath_pure
end Go.Proofs.YtajkbbifemeanaaGreatDoor
end
