/- The texts that the proof of the law FnExactEncodeStm rests on, part 5: printed functions with their contracts, words, plain laws; the last part ends in the statement itself. No condition but those that each theorem states. -/
import Derived.Test.YtjihphegmdfpfaaDoorKFnExactEncodeStm4
set_option linter.unusedVariables false
set_option linter.unusedSimpArgs false
section
namespace Go.Proofs.YtjihphegmdfpfaaDoor.L
open Go.RowKit Go.Proofs.YtjihphegmdfpfaaDoorW.PrintWords Go.Proofs.YtjihphegmdfpfaaDoorW.PrintLast Go.Proofs.YtjihphegmdfpfaaDoorW.PrintMore
attribute [local go_sem] max2_int min2_int max_two min_two max_three min_three max_four min_four
set_option linter.unusedVariables false
set_option linter.unusedSimpArgs false
mutual
def impl_EncodeStm.l0 : Nat → ByteArray → List (S51) → Int → Int → Option (ByteArray)
  | 0, _, _, _, _ => none
  | k + 1, x3, x31, x32, x33 => if x33 < x32 then (if 0 ≤ x33 then (if x33 < (x31.length : Int) then ((impl_s8.f k ((rd_T51 x31 x33).f0)).bind fun t301 => ((impl_u8.f k ((rd_T51 x31 x33).f1)).bind fun t302 => (if t301.size + t302.size ≤ 9223372036854775807 then (if x3.size + (t301 ++ t302).size ≤ 9223372036854775807 then (impl_EncodeStm.l0 k (x3 ++ (t301 ++ t302)) x31 x32 (wrap64 (x33 + 1))) else (none)) else (none)))) else (none)) else (none)) else (if (x3.size : Int) > 60000 then (some (⟨#[]⟩ : ByteArray)) else (some x3))
def impl_EncodeStm.l1 : Nat → ByteArray → List (S53) → Int → Int → Option (ByteArray)
  | 0, _, _, _, _ => none
  | k + 1, x3, x56, x57, x58 => if x58 < x57 then (if 0 ≤ x58 then (if x58 < (x56.length : Int) then ((impl_u8.f k ((rd_T53 x56 x58).f0)).bind fun t306 => (if x3.size + t306.size ≤ 9223372036854775807 then (if ((rd_T53 x56 x58).f0) = 1 then ((impl_u64.f k ((rd_T53 x56 x58).f1)).bind fun t307 => (if (x3 ++ t306).size + t307.size ≤ 9223372036854775807 then (impl_EncodeStm.l1 k ((x3 ++ t306) ++ t307) x56 x57 (wrap64 (x58 + 1))) else (none))) else ((impl_s16.f k ((rd_T53 x56 x58).f2)).bind fun t308 => (if (x3 ++ t306).size + t308.size ≤ 9223372036854775807 then (impl_EncodeStm.l1 k ((x3 ++ t306) ++ t308) x56 x57 (wrap64 (x58 + 1))) else (none)))) else (none))) else (none)) else (none)) else (if (x3.size : Int) > 60000 then (some (⟨#[]⟩ : ByteArray)) else (some x3))
def impl_EncodeStm.l2 : Nat → ByteArray → List (List (S88)) → Int → Int → Int → ByteArray → List (S51) → List (S53) → ByteArray → List (S88) → List (S88) → List (List (S88)) → Option (ByteArray)
  | 0, _, _, _, _, _, _, _, _, _, _, _, _ => none
  | k + 1, x3, x112, x113, x114, x295000, x295001, x295002, x295003, x295004, x295005, x295006, x295007 => if x114 < x113 then (if 0 ≤ x114 then (if x114 < (x112.length : Int) then ((impl_expBytes.f k (rd_L9 x112 x114)).bind fun t315 => (if x3.size + t315.size ≤ 9223372036854775807 then (impl_EncodeStm.l2 k (x3 ++ t315) x112 x113 (wrap64 (x114 + 1)) x295000 x295001 x295002 x295003 x295004 x295005 x295006 x295007) else (none))) else (none)) else (none)) else ((impl_expBytes.f k x295006).bind fun t316 => (if x3.size + t316.size ≤ 9223372036854775807 then (if ((x3 ++ t316).size : Int) > 60000 then (some (⟨#[]⟩ : ByteArray)) else (some (x3 ++ t316))) else (none)))
end
def impl_EncodeStm.f (k : Nat) (a0_0 : Int) (a0_1 : ByteArray) (l0_2 : List (S51)) (l0_3 : List (S53)) (a0_4 : ByteArray) (l0_5 : List (S88)) (l0_6 : List (S88)) (l0_7 : List (List (S88))) : Option (ByteArray) := (impl_StmOK.f k a0_0 a0_1 l0_2 l0_3 a0_4 l0_5 l0_6 l0_7).bind fun t295 => (if t295 = true then ((impl_u8.f k a0_0).bind fun t296 => ((impl_s8.f k a0_1).bind fun t297 => (if t296.size + t297.size ≤ 9223372036854775807 then (if a0_0 = 1 then ((impl_u8.f k (l0_2.length : Int)).bind fun t298 => (if (t296 ++ t297).size + t298.size ≤ 9223372036854775807 then (impl_EncodeStm.l0 k ((t296 ++ t297) ++ t298) l0_2 (l0_2.length : Int) 0) else (none))) else (if a0_0 = 2 then ((impl_u8.f k (l0_3.length : Int)).bind fun t303 => (if (t296 ++ t297).size + t303.size ≤ 9223372036854775807 then (impl_EncodeStm.l1 k ((t296 ++ t297) ++ t303) l0_3 (l0_3.length : Int) 0) else (none))) else (if a0_0 = 3 then ((impl_s8.f k a0_4).bind fun t309 => ((impl_expBytes.f k l0_5).bind fun t310 => (if t309.size + t310.size ≤ 9223372036854775807 then ((impl_expBytes.f k l0_6).bind fun t311 => (if (t309 ++ t310).size + t311.size ≤ 9223372036854775807 then (if (t296 ++ t297).size + ((t309 ++ t310) ++ t311).size ≤ 9223372036854775807 then (if (((t296 ++ t297) ++ ((t309 ++ t310) ++ t311)).size : Int) > 60000 then (some (⟨#[]⟩ : ByteArray)) else (some ((t296 ++ t297) ++ ((t309 ++ t310) ++ t311)))) else (none)) else (none))) else (none)))) else (if a0_0 = 4 then ((impl_expBytes.f k l0_6).bind fun t312 => (if (t296 ++ t297).size + t312.size ≤ 9223372036854775807 then (if (((t296 ++ t297) ++ t312).size : Int) > 60000 then (some (⟨#[]⟩ : ByteArray)) else (some ((t296 ++ t297) ++ t312))) else (none))) else (if a0_0 = 5 then ((impl_u8.f k (l0_7.length : Int)).bind fun t313 => (if (t296 ++ t297).size + t313.size ≤ 9223372036854775807 then (impl_EncodeStm.l2 k ((t296 ++ t297) ++ t313) l0_7 (l0_7.length : Int) 0 a0_0 a0_1 l0_2 l0_3 a0_4 l0_5 l0_6 l0_7) else (none))) else (if ((t296 ++ t297).size : Int) > 60000 then (some (⟨#[]⟩ : ByteArray)) else (some (t296 ++ t297)))))))) else (none)))) else (some (⟨#[]⟩ : ByteArray)))
theorem impl_EncodeStm.mono_l : ∀ k, (∀ y0 y1 y2 y3, LeO (impl_EncodeStm.l0 k y0 y1 y2 y3) (impl_EncodeStm.l0 (k + 1) y0 y1 y2 y3)) ∧ (∀ y0 y1 y2 y3, LeO (impl_EncodeStm.l1 k y0 y1 y2 y3) (impl_EncodeStm.l1 (k + 1) y0 y1 y2 y3)) ∧ (∀ y0 y1 y2 y3 y4 y5 y6 y7 y8 y9 y10 y11, LeO (impl_EncodeStm.l2 k y0 y1 y2 y3 y4 y5 y6 y7 y8 y9 y10 y11) (impl_EncodeStm.l2 (k + 1) y0 y1 y2 y3 y4 y5 y6 y7 y8 y9 y10 y11))
  | 0 => ⟨fun _ _ _ _ r h => by simp [impl_EncodeStm.l0] at h, fun _ _ _ _ r h => by simp [impl_EncodeStm.l1] at h, fun _ _ _ _ _ _ _ _ _ _ _ _ r h => by simp [impl_EncodeStm.l2] at h⟩
  | k + 1 => by
    obtain ⟨ih0, ih1, ih2⟩ := impl_EncodeStm.mono_l k
    refine ⟨?_, ?_, ?_⟩
    · intro y0 y1 y2 y3
      unfold impl_EncodeStm.l0
      repeat' first
      | (with_reducible exact ih0 _ _ _ _)
      | (with_reducible exact ih1 _ _ _ _)
      | (with_reducible exact ih2 _ _ _ _ _ _ _ _ _ _ _ _)
      | (with_reducible exact impl_StmOK.mono _ _ _ _ _ _ _ _ _)
      | (with_reducible exact impl_expBytes.mono _ _)
      | (with_reducible exact impl_s16.mono _ _)
      | (with_reducible exact impl_s8.mono _ _)
      | (with_reducible exact impl_u64.mono _ _)
      | (with_reducible exact impl_u8.mono _ _)
      | (with_reducible exact LeO.refl _)
      | (with_reducible exact LeO.none _)
      | (with_reducible refine LeO.ite ?_ ?_)
      | (with_reducible refine LeO.bind ?_ (fun _ => ?_))
      | exact ih0 _ _ _ _
      | exact ih1 _ _ _ _
      | exact ih2 _ _ _ _ _ _ _ _ _ _ _ _
      | exact impl_StmOK.mono _ _ _ _ _ _ _ _ _
      | exact impl_expBytes.mono _ _
      | exact impl_s16.mono _ _
      | exact impl_s8.mono _ _
      | exact impl_u64.mono _ _
      | exact impl_u8.mono _ _
      | exact LeO.none _
      | refine LeO.ite ?_ ?_
      | refine LeO.bind ?_ (fun _ => ?_)
    · intro y0 y1 y2 y3
      unfold impl_EncodeStm.l1
      repeat' first
      | (with_reducible exact ih0 _ _ _ _)
      | (with_reducible exact ih1 _ _ _ _)
      | (with_reducible exact ih2 _ _ _ _ _ _ _ _ _ _ _ _)
      | (with_reducible exact impl_StmOK.mono _ _ _ _ _ _ _ _ _)
      | (with_reducible exact impl_expBytes.mono _ _)
      | (with_reducible exact impl_s16.mono _ _)
      | (with_reducible exact impl_s8.mono _ _)
      | (with_reducible exact impl_u64.mono _ _)
      | (with_reducible exact impl_u8.mono _ _)
      | (with_reducible exact LeO.refl _)
      | (with_reducible exact LeO.none _)
      | (with_reducible refine LeO.ite ?_ ?_)
      | (with_reducible refine LeO.bind ?_ (fun _ => ?_))
      | exact ih0 _ _ _ _
      | exact ih1 _ _ _ _
      | exact ih2 _ _ _ _ _ _ _ _ _ _ _ _
      | exact impl_StmOK.mono _ _ _ _ _ _ _ _ _
      | exact impl_expBytes.mono _ _
      | exact impl_s16.mono _ _
      | exact impl_s8.mono _ _
      | exact impl_u64.mono _ _
      | exact impl_u8.mono _ _
      | exact LeO.none _
      | refine LeO.ite ?_ ?_
      | refine LeO.bind ?_ (fun _ => ?_)
    · intro y0 y1 y2 y3 y4 y5 y6 y7 y8 y9 y10 y11
      unfold impl_EncodeStm.l2
      repeat' first
      | (with_reducible exact ih0 _ _ _ _)
      | (with_reducible exact ih1 _ _ _ _)
      | (with_reducible exact ih2 _ _ _ _ _ _ _ _ _ _ _ _)
      | (with_reducible exact impl_StmOK.mono _ _ _ _ _ _ _ _ _)
      | (with_reducible exact impl_expBytes.mono _ _)
      | (with_reducible exact impl_s16.mono _ _)
      | (with_reducible exact impl_s8.mono _ _)
      | (with_reducible exact impl_u64.mono _ _)
      | (with_reducible exact impl_u8.mono _ _)
      | (with_reducible exact LeO.refl _)
      | (with_reducible exact LeO.none _)
      | (with_reducible refine LeO.ite ?_ ?_)
      | (with_reducible refine LeO.bind ?_ (fun _ => ?_))
      | exact ih0 _ _ _ _
      | exact ih1 _ _ _ _
      | exact ih2 _ _ _ _ _ _ _ _ _ _ _ _
      | exact impl_StmOK.mono _ _ _ _ _ _ _ _ _
      | exact impl_expBytes.mono _ _
      | exact impl_s16.mono _ _
      | exact impl_s8.mono _ _
      | exact impl_u64.mono _ _
      | exact impl_u8.mono _ _
      | exact LeO.none _
      | refine LeO.ite ?_ ?_
      | refine LeO.bind ?_ (fun _ => ?_)
theorem impl_EncodeStm.mono : ∀ a0 a1 a2 a3 a4 a5 a6 a7 k, LeO (impl_EncodeStm.f k a0 a1 a2 a3 a4 a5 a6 a7) (impl_EncodeStm.f (k + 1) a0 a1 a2 a3 a4 a5 a6 a7) := by
  intro a0 a1 a2 a3 a4 a5 a6 a7 k
  obtain ⟨ih0, ih1, ih2⟩ := impl_EncodeStm.mono_l k
  unfold impl_EncodeStm.f
  repeat' first
      | (with_reducible exact ih0 _ _ _ _)
      | (with_reducible exact ih1 _ _ _ _)
      | (with_reducible exact ih2 _ _ _ _ _ _ _ _ _ _ _ _)
      | (with_reducible exact impl_StmOK.mono _ _ _ _ _ _ _ _ _)
      | (with_reducible exact impl_expBytes.mono _ _)
      | (with_reducible exact impl_s16.mono _ _)
      | (with_reducible exact impl_s8.mono _ _)
      | (with_reducible exact impl_u64.mono _ _)
      | (with_reducible exact impl_u8.mono _ _)
      | (with_reducible exact LeO.refl _)
      | (with_reducible exact LeO.none _)
      | (with_reducible refine LeO.ite ?_ ?_)
      | (with_reducible refine LeO.bind ?_ (fun _ => ?_))
      | exact ih0 _ _ _ _
      | exact ih1 _ _ _ _
      | exact ih2 _ _ _ _ _ _ _ _ _ _ _ _
      | exact impl_StmOK.mono _ _ _ _ _ _ _ _ _
      | exact impl_expBytes.mono _ _
      | exact impl_s16.mono _ _
      | exact impl_s8.mono _ _
      | exact impl_u64.mono _ _
      | exact impl_u8.mono _ _
      | exact LeO.none _
      | refine LeO.ite ?_ ?_
      | refine LeO.bind ?_ (fun _ => ?_)
def impl_EncodeStm.T3 : Bool × List (List Nat × List Nat) := (true, [([], []), ([0], [0]), ([1], [1]), ([], []), ([3], [3]), ([4, 2], [4]), ([2, 5], [2, 5]), ([6, 5, 0, 1, 2, 3, 4, 5, 6], [6])])
def impl_EncodeStm.B3 : List Nat := [0, 1, 3, 0, 8, 31, 63, 127]
theorem impl_EncodeStm.tab3 : rtab .any (opsOf Tryd.f8 3) = impl_EncodeStm.T3 := by kernel_rfl
theorem impl_EncodeStm.bits3 : waitsOk impl_EncodeStm.T3.2 impl_EncodeStm.B3 = true := by kernel_rfl
def impl_EncodeStm.T10 : Bool × List (List Nat × List Nat) := (true, [([], []), ([], []), ([1], [1]), ([2], [2]), ([], []), ([4], [4]), ([5, 3], [5]), ([3, 6], [3, 6]), ([0, 7], [0, 7]), ([8, 6, 0, 1, 2, 3, 4, 5, 6, 7, 8], [0, 8])])
def impl_EncodeStm.B10 : List Nat := [0, 0, 2, 6, 0, 16, 62, 126, 255, 511]
theorem impl_EncodeStm.tab10 : rtab .any (opsOf Tryd.f8 10) = impl_EncodeStm.T10 := by kernel_rfl
theorem impl_EncodeStm.bits10 : waitsOk impl_EncodeStm.T10.2 impl_EncodeStm.B10 = true := by kernel_rfl
def impl_EncodeStm.T23 : Bool × List (List Nat × List Nat) := (true, [([], []), ([], []), ([1], [1]), ([2], [2]), ([], []), ([4], [4]), ([5, 3], [5]), ([3, 6], [3, 6]), ([], []), ([8], [8]), ([9, 6], [9]), ([7, 10], [7, 10]), ([0, 11], [0, 11]), ([12, 10, 0, 1, 2, 3, 4, 5, 6, 7, 8, 9, 10, 11, 12], [0, 12])])
def impl_EncodeStm.B23 : List Nat := [0, 0, 2, 6, 0, 16, 62, 126, 0, 256, 894, 2046, 4095, 8191]
theorem impl_EncodeStm.tab23 : rtab .any (opsOf Tryd.f8 23) = impl_EncodeStm.T23 := by kernel_rfl
theorem impl_EncodeStm.bits23 : waitsOk impl_EncodeStm.T23.2 impl_EncodeStm.B23 = true := by kernel_rfl
set_option maxHeartbeats 8000000 in
set_option maxRecDepth 100000 in
theorem impl_EncodeStm.calls (k : Nat) (a0_0 : Int) (a0_1 : ByteArray) (A0_2 : Option Addr) (c0_2 : Nat) (l0_2 : List (S51)) (A0_3 : Option Addr) (c0_3 : Nat) (l0_3 : List (S53)) (a0_4 : ByteArray) (A0_5 : Option Addr) (c0_5 : Nat) (l0_5 : List (S88)) (A0_6 : Option Addr) (c0_6 : Nat) (l0_6 : List (S88)) (A0_7 : Option Addr) (c0_7 : Nat) (l0_7 : List (List (S88))) (r : ByteArray) (w : World) (hG : GOK w) (hr0_2 : Kd.C k51 w A0_2 l0_2.length l0_2) (hc0_2 : l0_2.length ≤ c0_2) (hr0_3 : Kd.C k53 w A0_3 l0_3.length l0_3) (hc0_3 : l0_3.length ≤ c0_3) (hr0_5 : Kd.C k88 w A0_5 l0_5.length l0_5) (hc0_5 : l0_5.length ≤ c0_5) (hr0_6 : Kd.C k88 w A0_6 l0_6.length l0_6) (hc0_6 : l0_6.length ≤ c0_6) (hr0_7 : Kd.C (Kd.slice 88 k88) w A0_7 l0_7.length l0_7) (hc0_7 : l0_7.length ≤ c0_7) (h : impl_EncodeStm.f k a0_0 a0_1 l0_2 l0_3 a0_4 l0_5 l0_6 l0_7 = some r) :
    Calls Tryd.prog 8 #[.agg #[.int .i64 a0_0, .string a0_1, .slice A0_2 l0_2.length c0_2, .slice A0_3 l0_3.length c0_3, .string a0_4, .slice A0_5 l0_5.length c0_5, .slice A0_6 l0_6.length c0_6, .slice A0_7 l0_7.length c0_7]] w fun e w' => e = .returned (.string r) ∧ Below w.heap.size w w' := by
  have hu35 := Tryd.underlying35; have hu51 := Tryd.underlying51; have hu53 := Tryd.underlying53; have HR0_2 := qK hr0_2; have HC0_2 := qK hc0_2; clear hr0_2 hc0_2; have HR0_3 := qK hr0_3; have HC0_3 := qK hc0_3; clear hr0_3 hc0_3; have HR0_5 := qK hr0_5; have HC0_5 := qK hc0_5; clear hr0_5 hc0_5; have HR0_6 := qK hr0_6; have HC0_6 := qK hc0_6; clear hr0_6 hc0_6; have HR0_7 := qK hr0_7; have HC0_7 := qK hc0_7; clear hr0_7 hc0_7; have HB := qK (Below.refl w.heap.size w); have H : ((impl_StmOK.f k a0_0 a0_1 l0_2 l0_3 a0_4 l0_5 l0_6 l0_7).bind fun t295 => (if t295 = true then ((impl_u8.f k a0_0).bind fun t296 => ((impl_s8.f k a0_1).bind fun t297 => (if t296.size + t297.size ≤ 9223372036854775807 then (if a0_0 = 1 then ((impl_u8.f k (l0_2.length : Int)).bind fun t298 => (if (t296 ++ t297).size + t298.size ≤ 9223372036854775807 then (impl_EncodeStm.l0 k ((t296 ++ t297) ++ t298) l0_2 (l0_2.length : Int) 0) else (none))) else (if a0_0 = 2 then ((impl_u8.f k (l0_3.length : Int)).bind fun t303 => (if (t296 ++ t297).size + t303.size ≤ 9223372036854775807 then (impl_EncodeStm.l1 k ((t296 ++ t297) ++ t303) l0_3 (l0_3.length : Int) 0) else (none))) else (if a0_0 = 3 then ((impl_s8.f k a0_4).bind fun t309 => ((impl_expBytes.f k l0_5).bind fun t310 => (if t309.size + t310.size ≤ 9223372036854775807 then ((impl_expBytes.f k l0_6).bind fun t311 => (if (t309 ++ t310).size + t311.size ≤ 9223372036854775807 then (if (t296 ++ t297).size + ((t309 ++ t310) ++ t311).size ≤ 9223372036854775807 then (if (((t296 ++ t297) ++ ((t309 ++ t310) ++ t311)).size : Int) > 60000 then (some (⟨#[]⟩ : ByteArray)) else (some ((t296 ++ t297) ++ ((t309 ++ t310) ++ t311)))) else (none)) else (none))) else (none)))) else (if a0_0 = 4 then ((impl_expBytes.f k l0_6).bind fun t312 => (if (t296 ++ t297).size + t312.size ≤ 9223372036854775807 then (if (((t296 ++ t297) ++ t312).size : Int) > 60000 then (some (⟨#[]⟩ : ByteArray)) else (some ((t296 ++ t297) ++ t312))) else (none))) else (if a0_0 = 5 then ((impl_u8.f k (l0_7.length : Int)).bind fun t313 => (if (t296 ++ t297).size + t313.size ≤ 9223372036854775807 then (impl_EncodeStm.l2 k ((t296 ++ t297) ++ t313) l0_7 (l0_7.length : Int) 0 a0_0 a0_1 l0_2 l0_3 a0_4 l0_5 l0_6 l0_7) else (none))) else (if ((t296 ++ t297).size : Int) > 60000 then (some (⟨#[]⟩ : ByteArray)) else (some (t296 ++ t297)))))))) else (none)))) else (some (⟨#[]⟩ : ByteArray)))) = some r := h; clear h; replace H := Option.bind_eq_some_iff.mp H; obtain ⟨t295, A20, H⟩ := H; have A2 := qK A20; clear A20; by_cases c3 : t295 = true
  · subst c3; rw [if_pos rfl] at H; replace H := Option.bind_eq_some_iff.mp H; obtain ⟨t296, A40, H⟩ := H; have A4 := qK A40; clear A40; replace H := Option.bind_eq_some_iff.mp H; obtain ⟨t297, A50, H⟩ := H; have A5 := qK A50; clear A50; by_cases c6 : t296.size + t297.size ≤ 9223372036854775807
    · rw [if_pos c6] at H; have c6b0 := eq_true c6; have c6b1 : decide (t296.size + t297.size ≤ 9223372036854775807) = true := decide_eq_true c6; (try have c6b2 : (9223372036854775807 < t296.size + t297.size) = False := eq_false (Nat.not_lt.2 c6)); by_cases c7 : a0_0 = 1
      · rw [if_pos c7] at H; have c7b0 : (a0_0 == 1) = true := beq_iff_eq.mpr c7; have c7b1 : (a0_0 != 1) = false := bne_eq_false_iff_eq.mpr c7; clear c7; replace H := Option.bind_eq_some_iff.mp H; obtain ⟨t298, A80, H⟩ := H; have A8 := qK A80; clear A80; by_cases c9 : (t296 ++ t297).size + t298.size ≤ 9223372036854775807
        · rw [if_pos c9] at H; have c9b0 := eq_true c9; have c9b1 : decide ((t296 ++ t297).size + t298.size ≤ 9223372036854775807) = true := decide_eq_true c9; (try have c9b2 : (9223372036854775807 < (t296 ++ t297).size + t298.size) = False := eq_false (Nat.not_lt.2 c9)); (try have c9b3 := c9b2); (try simp only [ByteArray.size_append] at c9b3); have H' := qK H; clear H; go_enter Tryd.func8, Tryd.ntmps8; (try go_wp2_with (first | ((with_reducible refine gds (N := 1) rfl ?_); refine qbx 1 #[.int .i64 a0_0, .string a0_1, .slice A0_2 l0_2.length c0_2, .slice A0_3 l0_3.length c0_3, .string a0_4, .slice A0_5 l0_5.length c0_5, .slice A0_6 l0_6.length c0_6, .slice A0_7 l0_7.length c0_7] 35 ?_; intro gb294 hg w10 hbox hb; have BK294 := qK (hbox); have GW294 := qK ((qW : w.heap.size ≤ gb294)); have GE294 := GW294; replace HB := qHB HB hb; clear hb hbox hg; have hz11 := qz8 BK294.out) | ((with_reducible refine gcl (f := 27) rfl ?_); refine goesL_ (some 11) rfl rfl Tryd.func27 (by kernel_rfl) rfl #[.agg #[.int .i64 a0_0, .string a0_1, .slice A0_2 l0_2.length c0_2, .slice A0_3 l0_3.length c0_3, .string a0_4, .slice A0_5 l0_5.length c0_5, .slice A0_6 l0_6.length c0_6, .slice A0_7 l0_7.length c0_7]] rfl qA ?_; (with_reducible refine (impl_StmOK.calls k a0_0 a0_1 _ _ l0_2 _ _ l0_3 a0_4 _ _ l0_5 _ _ l0_6 _ _ l0_7 true _ ?side1 ?side2 ?side3 ?side4 ?side5 ?side6 ?side7 ?side8 ?side9 ?side10 ?side11 A2.out).mono ?_); (case side1 => exact GOK.below hG qB); (case side2 => exact qC HR0_2); (case side3 => exact HC0_2.out); (case side4 => exact qC HR0_3); (case side5 => exact HC0_3.out); (case side6 => exact qC HR0_5); (case side7 => exact HC0_5.out); (case side8 => exact qC HR0_6); (case side9 => exact HC0_6.out); (case side10 => exact qC HR0_7); (case side11 => exact HC0_7.out); rintro e w12 ⟨rfl, hb⟩; refine ⟨_, rfl, ?_⟩; replace BK294 := qbb BK294 hb; replace HB := qHB HB hb; (try clear hb); (try clear hb2); (try clear hk); (try clear hi)))); replace BK294 := qK (bkD BK294.out); replace HB := qK (bd1 HB.out); refine start_ (n := 8) (S := fun w' => w'.cell? ⟨gb294, 0, none⟩ = some (.int .i64 a0_0) ∧ w'.cell? ⟨gb294, 1, none⟩ = some (.string a0_1) ∧ w'.cell? ⟨gb294, 2, none⟩ = some (.slice A0_2 l0_2.length c0_2) ∧ w'.cell? ⟨gb294, 3, none⟩ = some (.slice A0_3 l0_3.length c0_3) ∧ w'.cell? ⟨gb294, 4, none⟩ = some (.string a0_4) ∧ w'.cell? ⟨gb294, 5, none⟩ = some (.slice A0_5 l0_5.length c0_5) ∧ w'.cell? ⟨gb294, 6, none⟩ = some (.slice A0_6 l0_6.length c0_6) ∧ w'.cell? ⟨gb294, 7, none⟩ = some (.slice A0_7 l0_7.length c0_7)) (ds := []) #[false, false, false, false, false, false, false, false] (by kernel_rfl) rfl rfl (qy8 BK294.out) (fun hHeld => ?_); refine with_tabW impl_EncodeStm.tab3 impl_EncodeStm.bits3 (fun HT_ HW_ => ?_); generalize w12.drew = w13 at BK294 HB hHeld ⊢; refine pure_ (i := 0) (N := some 13) (v := ?_) (a' := ?_) #[true, false, false, false, false, false, false, false] rfl rfl (any_of HT_.out (by kernel_rfl)) (fun _ _ _ h => h) (Or.inl ⟨by rfl, ?_⟩) ?_ ?_; rotate_left
          · intro w'; go_simp; (with_reducible rfl)
          rotate_left
          · simp only [Act.put, List.setIfInBounds_toArray, List.set_cons_zero, List.set_cons_succ, i64_w, i32_w]; rfl
          refine pure_ (i := 3) (N := some 16) (v := ?_) (a' := ?_) #[true, false, false, true, false, false, false, false] rfl rfl (any_of HT_.out (by kernel_rfl)) (fun _ _ _ h => h) (Or.inl ⟨by rfl, ?_⟩) ?_ ?_; rotate_left
          · intro w'; go_simp; (with_reducible rfl)
          rotate_left
          · simp only [Act.put, List.setIfInBounds_toArray, List.set_cons_zero, List.set_cons_succ, i64_w, i32_w]; rfl
          refine take_ (i := 1) (N := some 14) (v := ?_) (a' := ?_) #[true, true, false, true, false, false, false, false] rfl rfl (take_ofW HT_.out HW_.out (by kernel_rfl)) (fun _ _ _ h => h) (Or.inl ⟨by rfl, ?_⟩) hHeld ?_ ?_; rotate_left
          · rintro w' ⟨s0, s1, s2, s3, s4, s5, s6, s7⟩; go_simp; (with_reducible rfl)
          rotate_left
          · simp only [Act.put, List.setIfInBounds_toArray, List.set_cons_zero, List.set_cons_succ, i64_w, i32_w]; rfl
          refine take_ (i := 4) (N := some 17) (v := ?_) (a' := ?_) #[true, true, false, true, true, false, false, false] rfl rfl (take_ofW HT_.out HW_.out (by kernel_rfl)) (fun _ _ _ h => h) (Or.inl ⟨by rfl, ?_⟩) hHeld ?_ ?_; rotate_left
          · rintro w' ⟨s0, s1, s2, s3, s4, s5, s6, s7⟩; go_simp; (with_reducible rfl)
          rotate_left
          · simp only [Act.put, List.setIfInBounds_toArray, List.set_cons_zero, List.set_cons_succ, i64_w, i32_w]; rfl
          refine one_ (i := 2) (N := some 15) #[true, true, true, true, true, false, false, false] rfl rfl (one_of HT_.out (by kernel_rfl)) (by decide) (fun K hK => ?_); refine goes_ Tryd.func28 (by kernel_rfl) rfl #[.int .i64 a0_0] (by rfl) rfl rfl qA ?_; (with_reducible refine (impl_u8.calls k a0_0 t296 _ A4.out).mono ?_); rintro e w14 ⟨rfl, hb⟩; refine ⟨_, rfl, ?_⟩; replace BK294 := qbb BK294 hb; replace HB := qHB HB hb; (try clear hb); (try clear hb2); (try clear hk); (try clear hi); refine hK.out _ _ (qy8 BK294.out) (fun hHeld => ?_); clear hK K; refine norm_ (a' := ?_) ?_ ?_; rotate_left
          · show Act.put _ (some 15) _ = _; simp only [Act.put, List.setIfInBounds_toArray, List.set_cons_zero, List.set_cons_succ, i64_w, i32_w]; rfl
          refine one_ (i := 5) (N := some 18) #[true, true, true, true, true, true, false, false] rfl rfl (one_of HT_.out (by kernel_rfl)) (by decide) (fun K hK => ?_); refine goes_ Tryd.func29 (by kernel_rfl) rfl #[.string a0_1] (by rfl) rfl rfl qA ?_; (with_reducible refine (impl_s8.calls k a0_1 t297 _ A5.out).mono ?_); rintro e w15 ⟨rfl, hb⟩; refine ⟨_, rfl, ?_⟩; replace BK294 := qbb BK294 hb; replace HB := qHB HB hb; (try clear hb); (try clear hb2); (try clear hk); (try clear hi); refine hK.out _ _ (qy8 BK294.out) (fun hHeld => ?_); clear hK K; refine norm_ (a' := ?_) ?_ ?_; rotate_left
          · show Act.put _ (some 18) _ = _; simp only [Act.put, List.setIfInBounds_toArray, List.set_cons_zero, List.set_cons_succ, i64_w, i32_w]; rfl
          refine pure_ (i := 6) (N := some 19) (v := ?_) (a' := ?_) #[true, true, true, true, true, true, true, false] rfl rfl (any_of HT_.out (by kernel_rfl)) (fun _ _ _ h => h) (Or.inl ⟨by rfl, ?_⟩) ?_ ?_; rotate_left
          · intro w'; go_simp; (with_reducible rfl)
          rotate_left
          · simp only [Act.put, List.setIfInBounds_toArray, List.set_cons_zero, List.set_cons_succ, i64_w, i32_w]; rfl
          refine pure_ (i := 7) (N := some 3) (v := ?_) (a' := ?_) #[true, true, true, true, true, true, true, true] rfl rfl (any_of HT_.out (by kernel_rfl)) (fun _ _ _ h => h) (Or.inl ⟨by rfl, ?_⟩) ?_ ?_; rotate_left
          · intro w'; go_simp; (with_reducible rfl)
          rotate_left
          · simp only [Act.put, List.setIfInBounds_toArray, List.set_cons_zero, List.set_cons_succ, i64_w, i32_w]; rfl
          refine done_ (done_of HT_.out (by kernel_rfl)) ?_; obtain ⟨hcz16_0, hcz16_1, hcz16_2, hcz16_3, hcz16_4, hcz16_5, hcz16_6, hcz16_7⟩ := zC8 BK294.out; obtain ⟨hfz16_0, hfz16_1, hfz16_2, hfz16_3, hfz16_4, hfz16_5, hfz16_6, hfz16_7⟩ := zF8 BK294.out; (try go_wp2_with (first | ((with_reducible refine gcl (f := 28) rfl ?_); refine goesL_ (some 28) rfl rfl Tryd.func28 (by kernel_rfl) rfl #[.int .i64 (l0_2.length : Int)] rfl qA ?_; (with_reducible refine (impl_u8.calls k (l0_2.length : Int) t298 _ A8.out).mono ?_); rintro e w17 ⟨rfl, hb⟩; refine ⟨_, rfl, ?_⟩; replace BK294 := qbb BK294 hb; replace HB := qHB HB hb; (try clear hb); (try clear hb2); (try clear hk); (try clear hi); have hz18 := qz8 BK294.out))); go_loopg [3, 33] k (fun kq v3 v33 w' => ∃ (x3_1 : ByteArray) (x33_1 : Int), v3 = .string x3_1 ∧ v33 = .int .i64 x33_1 ∧ Aside0 (impl_EncodeStm.l0 kq x3_1 l0_2 (l0_2.length : Int) x33_1 = some r) ∧ Aside0 (kq ≤ k) ∧ Aside0 (w'.heap[gb294]? = some (.cells #[.int .i64 a0_0, .string a0_1, (.slice A0_2 l0_2.length c0_2), (.slice A0_3 l0_3.length c0_3), .string a0_4, (.slice A0_5 l0_5.length c0_5), (.slice A0_6 l0_6.length c0_6), (.slice A0_7 l0_7.length c0_7)] 35 (0, 0))) ∧ Aside0 (Below w.heap.size w w'))
          case atStart => exact ⟨((t296 ++ t297) ++ t298), (0), qS, qS, H', ⟨Nat.le_refl _⟩, ⟨by (with_reducible repeat (first | refine bdN ?_ _ | refine bkD ?_ | refine bkA ?_ _)); exact BK294.out⟩, ⟨qB⟩⟩
          case round =>
            clear H'; (try clear c2); (try clear p2); (try clear c3); (try clear c6); (try clear c6b0); (try clear c6b1); (try clear c6b2); (try clear c7); (try clear c7b0); (try clear c7b1); (try clear c8); (try clear c9); (try clear c9b0); (try clear c9b1); (try clear c9b2); (try clear hz11); (try clear hcz16_0); (try clear hcz16_1); (try clear hcz16_2); (try clear hcz16_3); (try clear hcz16_4); (try clear hcz16_5); (try clear hcz16_6); (try clear hcz16_7); (try clear hz18); (try clear hfz16_0); (try clear hfz16_1); (try clear hfz16_2); (try clear hfz16_3); (try clear hfz16_4); (try clear hfz16_5); (try clear hfz16_6); (try clear hfz16_7); obtain ⟨x3_1, x33_1, rfl, rfl, HA, HK1, BK294, HB⟩ := hrel
            cases gk with
            | zero => exact absurd HA.out (by simp [impl_EncodeStm.l0])
            | succ k1 =>
              have H := HA.out; clear HA; simp only [impl_EncodeStm.l0] at H; by_cases c19 : x33_1 < (l0_2.length : Int)
              · rw [if_pos c19] at H; have c19b0 : decide (x33_1 < (l0_2.length : Int)) = true := decide_eq_true c19; clear c19; by_cases c20 : 0 ≤ x33_1
                · rw [if_pos c20] at H; have c20b0 : decide (0 ≤ x33_1) = true := decide_eq_true c20; clear c20; by_cases c21 : x33_1 < (l0_2.length : Int)
                  · rw [if_pos c21] at H; have c21b0 : decide (x33_1 < (l0_2.length : Int)) = true := decide_eq_true c21; clear c21; replace H := Option.bind_eq_some_iff.mp H; obtain ⟨t301, A220, H⟩ := H; have A22 := qK A220; clear A220; replace H := Option.bind_eq_some_iff.mp H; obtain ⟨t302, A230, H⟩ := H; have A23 := qK A230; clear A230; by_cases c24 : t301.size + t302.size ≤ 9223372036854775807
                    · rw [if_pos c24] at H; have c24b0 := eq_true c24; have c24b1 : decide (t301.size + t302.size ≤ 9223372036854775807) = true := decide_eq_true c24; (try have c24b2 : (9223372036854775807 < t301.size + t302.size) = False := eq_false (Nat.not_lt.2 c24)); by_cases c25 : x3_1.size + (t301 ++ t302).size ≤ 9223372036854775807
                      · rw [if_pos c25] at H; have c25b0 := eq_true c25; have c25b1 : decide (x3_1.size + (t301 ++ t302).size ≤ 9223372036854775807) = true := decide_eq_true c25; (try have c25b2 : (9223372036854775807 < x3_1.size + (t301 ++ t302).size) = False := eq_false (Nat.not_lt.2 c25)); (try have c25b3 := c25b2); (try simp only [ByteArray.size_append] at c25b3); have H' := qK H; clear H; have p299 : 0 ≤ (x33_1 : Int) := of_decide_eq_true qa; have q299 : x33_1 < (l0_2.length : Int) := of_decide_eq_true qa; obtain ⟨ad299, e299, hx299_0, hx299_1⟩ := at_T51 HR0_2.out x33_1 p299 q299; cases e299; replace hx299_0 := (HB.out.cell (World.block_lt_of_cell? w _ hx299_0)).trans hx299_0; replace hx299_1 := (HB.out.cell (World.block_lt_of_cell? w _ hx299_1)).trans hx299_1; replace p299 := eq_true p299; replace q299 := eq_true q299; (try go_wp2_with (first | ((with_reducible refine gds (N := 5) rfl ?_); refine qbx 5 #[.string (⟨#[]⟩ : ByteArray), .int .i64 0] 51 ?_; intro gb300 hg w26 hbox hb; have BK300 := qK (hbox); have GW300 := qK ((qW : w.heap.size ≤ gb300)); have GE300 := GW300; replace HB := qHB HB hb; have NB294_300 := qK (qlt BK294 hg); have NB300_294 := qK (qgt BK294 hg); replace BK294 := qbb BK294 hb; clear hb hbox hg; have hnb27 := NB300_294.out; have hnc27 := NB294_300.out; have hz28 := qz2 BK300.out))); have n0_ : Aside0 (((w26.setCell ⟨gb300, 0, none⟩ (.string ((rd_T51 l0_2 x33_1).f0))).setCell ⟨gb300, 1, none⟩ (.int .i64 ((rd_T51 l0_2 x33_1).f1))).heap[gb294]? = some (.cells #[.int .i64 a0_0, .string a0_1, .slice (some ad299) l0_2.length c0_2, .slice A0_3 l0_3.length c0_3, .string a0_4, .slice A0_5 l0_5.length c0_5, .slice A0_6 l0_6.length c0_6, .slice A0_7 l0_7.length c0_7] 35 (0, 0))) := ⟨by (with_reducible repeat (first | refine bdN ?_ _ | refine bkD ?_ | refine bkA ?_ _)); refine bfa ?_ NB294_300.out _; (with_reducible repeat (first | refine bdN ?_ _ | refine bkD ?_ | refine bkA ?_ _)); refine bfa ?_ NB294_300.out _; (with_reducible repeat (first | refine bdN ?_ _ | refine bkD ?_ | refine bkA ?_ _)); exact BK294.out⟩; have n1_ : Aside0 (((w26.setCell ⟨gb300, 0, none⟩ (.string ((rd_T51 l0_2 x33_1).f0))).setCell ⟨gb300, 1, none⟩ (.int .i64 ((rd_T51 l0_2 x33_1).f1))).heap[gb300]? = some (.cells #[.string ((rd_T51 l0_2 x33_1).f0), .int .i64 ((rd_T51 l0_2 x33_1).f1)] 51 (0, 0))) := ⟨by (with_reducible repeat (first | refine bdN ?_ _ | refine bkD ?_ | refine bkA ?_ _)); refine bpu (cs := #[.string ((rd_T51 l0_2 x33_1).f0), .int .i64 0]) ?_ 1 _ rfl; (with_reducible repeat (first | refine bdN ?_ _ | refine bkD ?_ | refine bkA ?_ _)); refine bpu (cs := #[.string (⟨#[]⟩ : ByteArray), .int .i64 0]) ?_ 0 _ rfl; (with_reducible repeat (first | refine bdN ?_ _ | refine bkD ?_ | refine bkA ?_ _)); exact BK300.out⟩; have n2_ : Aside0 (Below w.heap.size w ((w26.setCell ⟨gb300, 0, none⟩ (.string ((rd_T51 l0_2 x33_1).f0))).setCell ⟨gb300, 1, none⟩ (.int .i64 ((rd_T51 l0_2 x33_1).f1)))) := ⟨qB⟩; (try clear BK294); (try clear BK300); (try clear HB); generalize ((w26.setCell ⟨gb300, 0, none⟩ (.string ((rd_T51 l0_2 x33_1).f0))).setCell ⟨gb300, 1, none⟩ (.int .i64 ((rd_T51 l0_2 x33_1).f1))) = w29 at n0_ n1_ n2_ ⊢; have BK294 := n0_; have BK300 := n1_; have HB := n2_; clear n0_ n1_ n2_; replace BK294 := qK (bkD BK294.out); replace BK300 := qK (bkD BK300.out); replace HB := qK (bd1 HB.out); refine start_ (n := 10) (S := fun w' => w'.cell? ⟨gb300, 0, none⟩ = some (.string ((rd_T51 l0_2 x33_1).f0)) ∧ w'.cell? ⟨gb300, 1, none⟩ = some (.int .i64 ((rd_T51 l0_2 x33_1).f1))) (ds := []) #[false, false, false, false, false, false, false, false, false, false] (by kernel_rfl) rfl rfl (qy2 BK300.out) (fun hHeld => ?_); refine with_tabW impl_EncodeStm.tab10 impl_EncodeStm.bits10 (fun HT_ HW_ => ?_); generalize w29.drew = w30 at BK294 BK300 HB hHeld ⊢; refine pure_ (i := 0) (N := some 37) (v := ?_) (a' := ?_) #[true, false, false, false, false, false, false, false, false, false] rfl rfl (any_of HT_.out (by kernel_rfl)) (fun _ _ _ h => h) (Or.inl ⟨by rfl, ?_⟩) ?_ ?_; rotate_left
                        · intro w'; go_simp; (with_reducible rfl)
                        rotate_left
                        · simp only [Act.put, List.setIfInBounds_toArray, List.set_cons_zero, List.set_cons_succ, i64_w, i32_w]; rfl
                        refine pure_ (i := 1) (N := some 38) (v := ?_) (a' := ?_) #[true, true, false, false, false, false, false, false, false, false] rfl rfl (any_of HT_.out (by kernel_rfl)) (fun _ _ _ h => h) (Or.inl ⟨by rfl, ?_⟩) ?_ ?_; rotate_left
                        · intro w'; go_simp; (with_reducible rfl)
                        rotate_left
                        · simp only [Act.put, List.setIfInBounds_toArray, List.set_cons_zero, List.set_cons_succ, i64_w, i32_w]; rfl
                        refine pure_ (i := 4) (N := some 41) (v := ?_) (a' := ?_) #[true, true, false, false, true, false, false, false, false, false] rfl rfl (any_of HT_.out (by kernel_rfl)) (fun _ _ _ h => h) (Or.inl ⟨by rfl, ?_⟩) ?_ ?_; rotate_left
                        · intro w'; go_simp; (with_reducible rfl)
                        rotate_left
                        · simp only [Act.put, List.setIfInBounds_toArray, List.set_cons_zero, List.set_cons_succ, i64_w, i32_w]; rfl
                        refine take_ (i := 2) (N := some 39) (v := ?_) (a' := ?_) #[true, true, true, false, true, false, false, false, false, false] rfl rfl (take_ofW HT_.out HW_.out (by kernel_rfl)) (fun _ _ _ h => h) (Or.inl ⟨by rfl, ?_⟩) hHeld ?_ ?_; rotate_left
                        · rintro w' ⟨s0, s1⟩; go_simp; (with_reducible rfl)
                        rotate_left
                        · simp only [Act.put, List.setIfInBounds_toArray, List.set_cons_zero, List.set_cons_succ, i64_w, i32_w]; rfl
                        refine take_ (i := 5) (N := some 42) (v := ?_) (a' := ?_) #[true, true, true, false, true, true, false, false, false, false] rfl rfl (take_ofW HT_.out HW_.out (by kernel_rfl)) (fun _ _ _ h => h) (Or.inl ⟨by rfl, ?_⟩) hHeld ?_ ?_; rotate_left
                        · rintro w' ⟨s0, s1⟩; go_simp; (with_reducible rfl)
                        rotate_left
                        · simp only [Act.put, List.setIfInBounds_toArray, List.set_cons_zero, List.set_cons_succ, i64_w, i32_w]; rfl
                        refine one_ (i := 3) (N := some 40) #[true, true, true, true, true, true, false, false, false, false] rfl rfl (one_of HT_.out (by kernel_rfl)) (by decide) (fun K hK => ?_); refine goes_ Tryd.func29 (by kernel_rfl) rfl #[.string ((rd_T51 l0_2 x33_1).f0)] (by rfl) rfl rfl qA ?_; (with_reducible refine (impl_s8.calls k1 ((rd_T51 l0_2 x33_1).f0) t301 _ A22.out).mono ?_); rintro e w31 ⟨rfl, hb⟩; refine ⟨_, rfl, ?_⟩; replace BK294 := qbb BK294 hb; replace BK300 := qbb BK300 hb; replace HB := qHB HB hb; (try clear hb); (try clear hb2); (try clear hk); (try clear hi); refine hK.out _ _ (qy2 BK300.out) (fun hHeld => ?_); clear hK K; refine norm_ (a' := ?_) ?_ ?_; rotate_left
                        · show Act.put _ (some 40) _ = _; simp only [Act.put, List.setIfInBounds_toArray, List.set_cons_zero, List.set_cons_succ, i64_w, i32_w]; rfl
                        refine one_ (i := 6) (N := some 43) #[true, true, true, true, true, true, true, false, false, false] rfl rfl (one_of HT_.out (by kernel_rfl)) (by decide) (fun K hK => ?_); refine goes_ Tryd.func28 (by kernel_rfl) rfl #[.int .i64 ((rd_T51 l0_2 x33_1).f1)] (by rfl) rfl rfl qA ?_; (with_reducible refine (impl_u8.calls k1 ((rd_T51 l0_2 x33_1).f1) t302 _ A23.out).mono ?_); rintro e w32 ⟨rfl, hb⟩; refine ⟨_, rfl, ?_⟩; replace BK294 := qbb BK294 hb; replace BK300 := qbb BK300 hb; replace HB := qHB HB hb; (try clear hb); (try clear hb2); (try clear hk); (try clear hi); refine hK.out _ _ (qy2 BK300.out) (fun hHeld => ?_); clear hK K; refine norm_ (a' := ?_) ?_ ?_; rotate_left
                        · show Act.put _ (some 43) _ = _; simp only [Act.put, List.setIfInBounds_toArray, List.set_cons_zero, List.set_cons_succ, i64_w, i32_w]; rfl
                        refine pure_ (i := 7) (N := some 44) (v := ?_) (a' := ?_) #[true, true, true, true, true, true, true, true, false, false] rfl rfl (any_of HT_.out (by kernel_rfl)) (fun _ _ _ h => h) (Or.inl ⟨by rfl, ?_⟩) ?_ ?_; rotate_left
                        · intro w'; go_simp; (with_reducible rfl)
                        rotate_left
                        · simp only [Act.put, List.setIfInBounds_toArray, List.set_cons_zero, List.set_cons_succ, i64_w, i32_w]; rfl
                        refine pure_ (i := 8) (N := some 45) (v := ?_) (a' := ?_) #[true, true, true, true, true, true, true, true, true, false] rfl rfl (any_of HT_.out (by kernel_rfl)) (fun _ _ _ h => h) (Or.inl ⟨by rfl, ?_⟩) ?_ ?_; rotate_left
                        · intro w'; go_simp; (with_reducible rfl)
                        rotate_left
                        · simp only [Act.put, List.setIfInBounds_toArray, List.set_cons_zero, List.set_cons_succ, i64_w, i32_w]; rfl
                        refine pure_ (i := 9) (N := some 3) (v := ?_) (a' := ?_) #[true, true, true, true, true, true, true, true, true, true] rfl rfl (any_of HT_.out (by kernel_rfl)) (fun _ _ _ h => h) (Or.inl ⟨by rfl, ?_⟩) ?_ ?_; rotate_left
                        · intro w'; go_simp; (with_reducible rfl)
                        rotate_left
                        · simp only [Act.put, List.setIfInBounds_toArray, List.set_cons_zero, List.set_cons_succ, i64_w, i32_w]; rfl
                        refine done_ (done_of HT_.out (by kernel_rfl)) ?_; (try go_wp2); go_roundg k1
                        case measure => have := HK1.out; omega
                        case rel => exact ⟨(x3_1 ++ (t301 ++ t302)), (wrap64 (x33_1 + 1)), qS, qS, H', ⟨by have := HK1.out; omega⟩, ⟨by (with_reducible repeat (first | refine bdN ?_ _ | refine bkD ?_ | refine bkA ?_ _)); exact BK294.out⟩, ⟨qB⟩⟩
                      · rw [if_neg c25] at H; exact absurd H (by simp)
                    · rw [if_neg c24] at H; exact absurd H (by simp)
                  · rw [if_neg c21] at H; exact absurd H (by simp)
                · rw [if_neg c20] at H; exact absurd H (by simp)
              · rw [if_neg c19] at H; have c19b0 : decide (x33_1 < (l0_2.length : Int)) = false := decide_eq_false c19; clear c19; by_cases c33 : (x3_1.size : Int) > 60000
                · rw [if_pos c33] at H; have c33b0 : decide (60000 < (x3_1.size : Int)) = true := decide_eq_true c33; have c33b1 : decide (60000 < x3_1.size) = true := decide_eq_true (by omega); clear c33; obtain rfl := Option.some.inj H; go_wp2; go_ret; exact ⟨qR, qB⟩
                · rw [if_neg c33] at H; have c33b0 : decide (60000 < (x3_1.size : Int)) = false := decide_eq_false c33; have c33b1 : decide (60000 < x3_1.size) = false := decide_eq_false (by omega); clear c33; obtain rfl := Option.some.inj H; go_wp2; go_ret; exact ⟨qR, qB⟩
        · rw [if_neg c9] at H; exact absurd H (by simp)
      · rw [if_neg c7] at H; have c7b0 : (a0_0 == 1) = false := beq_eq_false_iff_ne.mpr c7; have c7b1 : (a0_0 != 1) = true := bne_iff_ne.mpr c7; by_cases c34 : a0_0 = 2
        · rw [if_pos c34] at H; have c34b0 : (a0_0 == 2) = true := beq_iff_eq.mpr c34; have c34b1 : (a0_0 != 2) = false := bne_eq_false_iff_eq.mpr c34; clear c34; replace H := Option.bind_eq_some_iff.mp H; obtain ⟨t303, A350, H⟩ := H; have A35 := qK A350; clear A350; by_cases c36 : (t296 ++ t297).size + t303.size ≤ 9223372036854775807
          · rw [if_pos c36] at H; have c36b0 := eq_true c36; have c36b1 : decide ((t296 ++ t297).size + t303.size ≤ 9223372036854775807) = true := decide_eq_true c36; (try have c36b2 : (9223372036854775807 < (t296 ++ t297).size + t303.size) = False := eq_false (Nat.not_lt.2 c36)); (try have c36b3 := c36b2); (try simp only [ByteArray.size_append] at c36b3); have H' := qK H; clear H; go_enter Tryd.func8, Tryd.ntmps8; (try go_wp2_with (first | ((with_reducible refine gds (N := 1) rfl ?_); refine qbx 1 #[.int .i64 a0_0, .string a0_1, .slice A0_2 l0_2.length c0_2, .slice A0_3 l0_3.length c0_3, .string a0_4, .slice A0_5 l0_5.length c0_5, .slice A0_6 l0_6.length c0_6, .slice A0_7 l0_7.length c0_7] 35 ?_; intro gb294 hg w37 hbox hb; have BK294 := qK (hbox); have GW294 := qK ((qW : w.heap.size ≤ gb294)); have GE294 := GW294; replace HB := qHB HB hb; clear hb hbox hg; have hz38 := qz8 BK294.out) | ((with_reducible refine gcl (f := 27) rfl ?_); refine goesL_ (some 11) rfl rfl Tryd.func27 (by kernel_rfl) rfl #[.agg #[.int .i64 a0_0, .string a0_1, .slice A0_2 l0_2.length c0_2, .slice A0_3 l0_3.length c0_3, .string a0_4, .slice A0_5 l0_5.length c0_5, .slice A0_6 l0_6.length c0_6, .slice A0_7 l0_7.length c0_7]] rfl qA ?_; (with_reducible refine (impl_StmOK.calls k a0_0 a0_1 _ _ l0_2 _ _ l0_3 a0_4 _ _ l0_5 _ _ l0_6 _ _ l0_7 true _ ?side1 ?side2 ?side3 ?side4 ?side5 ?side6 ?side7 ?side8 ?side9 ?side10 ?side11 A2.out).mono ?_); (case side1 => exact GOK.below hG qB); (case side2 => exact qC HR0_2); (case side3 => exact HC0_2.out); (case side4 => exact qC HR0_3); (case side5 => exact HC0_3.out); (case side6 => exact qC HR0_5); (case side7 => exact HC0_5.out); (case side8 => exact qC HR0_6); (case side9 => exact HC0_6.out); (case side10 => exact qC HR0_7); (case side11 => exact HC0_7.out); rintro e w39 ⟨rfl, hb⟩; refine ⟨_, rfl, ?_⟩; replace BK294 := qbb BK294 hb; replace HB := qHB HB hb; (try clear hb); (try clear hb2); (try clear hk); (try clear hi)))); replace BK294 := qK (bkD BK294.out); replace HB := qK (bd1 HB.out); refine start_ (n := 8) (S := fun w' => w'.cell? ⟨gb294, 0, none⟩ = some (.int .i64 a0_0) ∧ w'.cell? ⟨gb294, 1, none⟩ = some (.string a0_1) ∧ w'.cell? ⟨gb294, 2, none⟩ = some (.slice A0_2 l0_2.length c0_2) ∧ w'.cell? ⟨gb294, 3, none⟩ = some (.slice A0_3 l0_3.length c0_3) ∧ w'.cell? ⟨gb294, 4, none⟩ = some (.string a0_4) ∧ w'.cell? ⟨gb294, 5, none⟩ = some (.slice A0_5 l0_5.length c0_5) ∧ w'.cell? ⟨gb294, 6, none⟩ = some (.slice A0_6 l0_6.length c0_6) ∧ w'.cell? ⟨gb294, 7, none⟩ = some (.slice A0_7 l0_7.length c0_7)) (ds := []) #[false, false, false, false, false, false, false, false] (by kernel_rfl) rfl rfl (qy8 BK294.out) (fun hHeld => ?_); refine with_tabW impl_EncodeStm.tab3 impl_EncodeStm.bits3 (fun HT_ HW_ => ?_); generalize w39.drew = w40 at BK294 HB hHeld ⊢; refine pure_ (i := 0) (N := some 13) (v := ?_) (a' := ?_) #[true, false, false, false, false, false, false, false] rfl rfl (any_of HT_.out (by kernel_rfl)) (fun _ _ _ h => h) (Or.inl ⟨by rfl, ?_⟩) ?_ ?_; rotate_left
            · intro w'; go_simp; (with_reducible rfl)
            rotate_left
            · simp only [Act.put, List.setIfInBounds_toArray, List.set_cons_zero, List.set_cons_succ, i64_w, i32_w]; rfl
            refine pure_ (i := 3) (N := some 16) (v := ?_) (a' := ?_) #[true, false, false, true, false, false, false, false] rfl rfl (any_of HT_.out (by kernel_rfl)) (fun _ _ _ h => h) (Or.inl ⟨by rfl, ?_⟩) ?_ ?_; rotate_left
            · intro w'; go_simp; (with_reducible rfl)
            rotate_left
            · simp only [Act.put, List.setIfInBounds_toArray, List.set_cons_zero, List.set_cons_succ, i64_w, i32_w]; rfl
            refine take_ (i := 1) (N := some 14) (v := ?_) (a' := ?_) #[true, true, false, true, false, false, false, false] rfl rfl (take_ofW HT_.out HW_.out (by kernel_rfl)) (fun _ _ _ h => h) (Or.inl ⟨by rfl, ?_⟩) hHeld ?_ ?_; rotate_left
            · rintro w' ⟨s0, s1, s2, s3, s4, s5, s6, s7⟩; go_simp; (with_reducible rfl)
            rotate_left
            · simp only [Act.put, List.setIfInBounds_toArray, List.set_cons_zero, List.set_cons_succ, i64_w, i32_w]; rfl
            refine take_ (i := 4) (N := some 17) (v := ?_) (a' := ?_) #[true, true, false, true, true, false, false, false] rfl rfl (take_ofW HT_.out HW_.out (by kernel_rfl)) (fun _ _ _ h => h) (Or.inl ⟨by rfl, ?_⟩) hHeld ?_ ?_; rotate_left
            · rintro w' ⟨s0, s1, s2, s3, s4, s5, s6, s7⟩; go_simp; (with_reducible rfl)
            rotate_left
            · simp only [Act.put, List.setIfInBounds_toArray, List.set_cons_zero, List.set_cons_succ, i64_w, i32_w]; rfl
            refine one_ (i := 2) (N := some 15) #[true, true, true, true, true, false, false, false] rfl rfl (one_of HT_.out (by kernel_rfl)) (by decide) (fun K hK => ?_); refine goes_ Tryd.func28 (by kernel_rfl) rfl #[.int .i64 a0_0] (by rfl) rfl rfl qA ?_; (with_reducible refine (impl_u8.calls k a0_0 t296 _ A4.out).mono ?_); rintro e w41 ⟨rfl, hb⟩; refine ⟨_, rfl, ?_⟩; replace BK294 := qbb BK294 hb; replace HB := qHB HB hb; (try clear hb); (try clear hb2); (try clear hk); (try clear hi); refine hK.out _ _ (qy8 BK294.out) (fun hHeld => ?_); clear hK K; refine norm_ (a' := ?_) ?_ ?_; rotate_left
            · show Act.put _ (some 15) _ = _; simp only [Act.put, List.setIfInBounds_toArray, List.set_cons_zero, List.set_cons_succ, i64_w, i32_w]; rfl
            refine one_ (i := 5) (N := some 18) #[true, true, true, true, true, true, false, false] rfl rfl (one_of HT_.out (by kernel_rfl)) (by decide) (fun K hK => ?_); refine goes_ Tryd.func29 (by kernel_rfl) rfl #[.string a0_1] (by rfl) rfl rfl qA ?_; (with_reducible refine (impl_s8.calls k a0_1 t297 _ A5.out).mono ?_); rintro e w42 ⟨rfl, hb⟩; refine ⟨_, rfl, ?_⟩; replace BK294 := qbb BK294 hb; replace HB := qHB HB hb; (try clear hb); (try clear hb2); (try clear hk); (try clear hi); refine hK.out _ _ (qy8 BK294.out) (fun hHeld => ?_); clear hK K; refine norm_ (a' := ?_) ?_ ?_; rotate_left
            · show Act.put _ (some 18) _ = _; simp only [Act.put, List.setIfInBounds_toArray, List.set_cons_zero, List.set_cons_succ, i64_w, i32_w]; rfl
            refine pure_ (i := 6) (N := some 19) (v := ?_) (a' := ?_) #[true, true, true, true, true, true, true, false] rfl rfl (any_of HT_.out (by kernel_rfl)) (fun _ _ _ h => h) (Or.inl ⟨by rfl, ?_⟩) ?_ ?_; rotate_left
            · intro w'; go_simp; (with_reducible rfl)
            rotate_left
            · simp only [Act.put, List.setIfInBounds_toArray, List.set_cons_zero, List.set_cons_succ, i64_w, i32_w]; rfl
            refine pure_ (i := 7) (N := some 3) (v := ?_) (a' := ?_) #[true, true, true, true, true, true, true, true] rfl rfl (any_of HT_.out (by kernel_rfl)) (fun _ _ _ h => h) (Or.inl ⟨by rfl, ?_⟩) ?_ ?_; rotate_left
            · intro w'; go_simp; (with_reducible rfl)
            rotate_left
            · simp only [Act.put, List.setIfInBounds_toArray, List.set_cons_zero, List.set_cons_succ, i64_w, i32_w]; rfl
            refine done_ (done_of HT_.out (by kernel_rfl)) ?_; obtain ⟨hcz43_0, hcz43_1, hcz43_2, hcz43_3, hcz43_4, hcz43_5, hcz43_6, hcz43_7⟩ := zC8 BK294.out; obtain ⟨hfz43_0, hfz43_1, hfz43_2, hfz43_3, hfz43_4, hfz43_5, hfz43_6, hfz43_7⟩ := zF8 BK294.out; (try go_wp2_with (first | ((with_reducible refine gcl (f := 28) rfl ?_); refine goesL_ (some 53) rfl rfl Tryd.func28 (by kernel_rfl) rfl #[.int .i64 (l0_3.length : Int)] rfl qA ?_; (with_reducible refine (impl_u8.calls k (l0_3.length : Int) t303 _ A35.out).mono ?_); rintro e w44 ⟨rfl, hb⟩; refine ⟨_, rfl, ?_⟩; replace BK294 := qbb BK294 hb; replace HB := qHB HB hb; (try clear hb); (try clear hb2); (try clear hk); (try clear hi); have hz45 := qz8 BK294.out))); go_loopg [3, 58] k (fun kq v3 v58 w' => ∃ (x3_1 : ByteArray) (x58_1 : Int), v3 = .string x3_1 ∧ v58 = .int .i64 x58_1 ∧ Aside0 (impl_EncodeStm.l1 kq x3_1 l0_3 (l0_3.length : Int) x58_1 = some r) ∧ Aside0 (kq ≤ k) ∧ Aside0 (w'.heap[gb294]? = some (.cells #[.int .i64 a0_0, .string a0_1, (.slice A0_2 l0_2.length c0_2), (.slice A0_3 l0_3.length c0_3), .string a0_4, (.slice A0_5 l0_5.length c0_5), (.slice A0_6 l0_6.length c0_6), (.slice A0_7 l0_7.length c0_7)] 35 (0, 0))) ∧ Aside0 (Below w.heap.size w w'))
            case atStart => exact ⟨((t296 ++ t297) ++ t303), (0), qS, qS, H', ⟨Nat.le_refl _⟩, ⟨by (with_reducible repeat (first | refine bdN ?_ _ | refine bkD ?_ | refine bkA ?_ _)); exact BK294.out⟩, ⟨qB⟩⟩
            case round =>
              clear H'; (try clear c1); (try clear c2); (try clear p2); (try clear q2); (try clear hx2); (try clear c3); (try clear c6); (try clear c6b0); (try clear c6b1); (try clear c6b2); (try clear p6); (try clear c7); (try clear c7b0); (try clear c7b1); (try clear c8); (try clear c9); (try clear c9b0); (try clear c9b1); (try clear c9b2); (try clear c19); (try clear c19b0); (try clear c20); (try clear c20b0); (try clear c21); (try clear c21b0); (try clear c24); (try clear c24b0); (try clear c24b1); (try clear c24b2); (try clear c25); (try clear c25b0); (try clear c25b1); (try clear c25b2); (try clear c27); (try clear c28); (try clear c29); (try clear p29); (try clear q29); (try clear hx29); (try clear c33); (try clear c33b0); (try clear c33b1); (try clear c34); (try clear c34b0); (try clear c34b1); (try clear c36); (try clear c36b0); (try clear c36b1); (try clear c36b2); (try clear hz11); (try clear hcz16_0); (try clear hcz16_1); (try clear hcz16_2); (try clear hcz16_3); (try clear hcz16_4); (try clear hcz16_5); (try clear hcz16_6); (try clear hcz16_7); (try clear hz18); (try clear hz28); (try clear hz38); (try clear hcz43_0); (try clear hcz43_1); (try clear hcz43_2); (try clear hcz43_3); (try clear hcz43_4); (try clear hcz43_5); (try clear hcz43_6); (try clear hcz43_7); (try clear hz45); (try clear hfz16_0); (try clear hfz16_1); (try clear hfz16_2); (try clear hfz16_3); (try clear hfz16_4); (try clear hfz16_5); (try clear hfz16_6); (try clear hfz16_7); (try clear hfz43_0); (try clear hfz43_1); (try clear hfz43_2); (try clear hfz43_3); (try clear hfz43_4); (try clear hfz43_5); (try clear hfz43_6); (try clear hfz43_7); (try clear hx299_0); (try clear hx299_1); (try clear p299); (try clear q299); obtain ⟨x3_1, x58_1, rfl, rfl, HA, HK1, BK294, HB⟩ := hrel
              cases gk with
              | zero => exact absurd HA.out (by simp [impl_EncodeStm.l1])
              | succ k1 =>
                have H := HA.out; clear HA; simp only [impl_EncodeStm.l1] at H; by_cases c46 : x58_1 < (l0_3.length : Int)
                · rw [if_pos c46] at H; have c46b0 : decide (x58_1 < (l0_3.length : Int)) = true := decide_eq_true c46; clear c46; by_cases c47 : 0 ≤ x58_1
                  · rw [if_pos c47] at H; have c47b0 : decide (0 ≤ x58_1) = true := decide_eq_true c47; clear c47; by_cases c48 : x58_1 < (l0_3.length : Int)
                    · rw [if_pos c48] at H; have c48b0 : decide (x58_1 < (l0_3.length : Int)) = true := decide_eq_true c48; clear c48; replace H := Option.bind_eq_some_iff.mp H; obtain ⟨t306, A490, H⟩ := H; have A49 := qK A490; clear A490; by_cases c50 : x3_1.size + t306.size ≤ 9223372036854775807
                      · rw [if_pos c50] at H; have c50b0 := eq_true c50; have c50b1 : decide (x3_1.size + t306.size ≤ 9223372036854775807) = true := decide_eq_true c50; (try have c50b2 : (9223372036854775807 < x3_1.size + t306.size) = False := eq_false (Nat.not_lt.2 c50)); by_cases c51 : ((rd_T53 l0_3 x58_1).f0) = 1
                        · rw [if_pos c51] at H; have c51b0 : (((rd_T53 l0_3 x58_1).f0) == 1) = true := beq_iff_eq.mpr c51; have c51b1 : (((rd_T53 l0_3 x58_1).f0) != 1) = false := bne_eq_false_iff_eq.mpr c51; clear c51; replace H := Option.bind_eq_some_iff.mp H; obtain ⟨t307, A520, H⟩ := H; have A52 := qK A520; clear A520; by_cases c53 : (x3_1 ++ t306).size + t307.size ≤ 9223372036854775807
                          · rw [if_pos c53] at H; have c53b0 := eq_true c53; have c53b1 : decide ((x3_1 ++ t306).size + t307.size ≤ 9223372036854775807) = true := decide_eq_true c53; (try have c53b2 : (9223372036854775807 < (x3_1 ++ t306).size + t307.size) = False := eq_false (Nat.not_lt.2 c53)); (try have c53b3 := c53b2); (try simp only [ByteArray.size_append] at c53b3); have H' := qK H; clear H; have p304 : 0 ≤ (x58_1 : Int) := of_decide_eq_true qa; have q304 : x58_1 < (l0_3.length : Int) := of_decide_eq_true qa; obtain ⟨ad304, e304, hx304_0, hx304_1, hx304_2⟩ := at_T53 HR0_3.out x58_1 p304 q304; cases e304; replace hx304_0 := (HB.out.cell (World.block_lt_of_cell? w _ hx304_0)).trans hx304_0; replace hx304_1 := (HB.out.cell (World.block_lt_of_cell? w _ hx304_1)).trans hx304_1; replace hx304_2 := (HB.out.cell (World.block_lt_of_cell? w _ hx304_2)).trans hx304_2; replace p304 := eq_true p304; replace q304 := eq_true q304; go_wp2_with (first | ((with_reducible refine gds (N := 7) rfl ?_); refine qbx 7 #[.int .i64 0, .int .i64 0, .string (⟨#[]⟩ : ByteArray)] 53 ?_; intro gb305 hg w54 hbox hb; have BK305 := qK (hbox); have GW305 := qK ((qW : w.heap.size ≤ gb305)); have GE305 := GW305; replace HB := qHB HB hb; have NB294_305 := qK (qlt BK294 hg); have NB305_294 := qK (qgt BK294 hg); replace BK294 := qbb BK294 hb; clear hb hbox hg; have hnb55 := NB305_294.out; have hnc55 := NB294_305.out; have hz56 := qz3 BK305.out) | ((with_reducible refine gcl (f := 28) rfl ?_); refine goesL_ (some 65) rfl rfl Tryd.func28 (by kernel_rfl) rfl #[.int .i64 ((rd_T53 l0_3 x58_1).f0)] rfl qA ?_; (with_reducible refine (impl_u8.calls k1 ((rd_T53 l0_3 x58_1).f0) t306 _ A49.out).mono ?_); rintro e w57 ⟨rfl, hb⟩; refine ⟨_, rfl, ?_⟩; replace BK294 := qK (bbe (g := gb294) (o := .cells #[.int .i64 a0_0, .string a0_1, .slice A0_2 l0_2.length c0_2, .slice (some ad304) l0_3.length c0_3, .string a0_4, .slice A0_5 l0_5.length c0_5, .slice A0_6 l0_6.length c0_6, .slice A0_7 l0_7.length c0_7] 35 (0, 0)) (by (with_reducible repeat (first | refine bdN ?_ _ | refine bkD ?_ | refine bkA ?_ _)); refine bfa ?_ NB294_305.out _; (with_reducible repeat (first | refine bdN ?_ _ | refine bkD ?_ | refine bkA ?_ _)); refine bfa ?_ NB294_305.out _; (with_reducible repeat (first | refine bdN ?_ _ | refine bkD ?_ | refine bkA ?_ _)); refine bfa ?_ NB294_305.out _; (with_reducible repeat (first | refine bdN ?_ _ | refine bkD ?_ | refine bkA ?_ _)); exact BK294.out) hb); replace BK305 := qK (bbe (g := gb305) (o := .cells #[.int .i64 ((rd_T53 l0_3 x58_1).f0), .int .i64 ((rd_T53 l0_3 x58_1).f1), .string ((rd_T53 l0_3 x58_1).f2)] 53 (0, 0)) (by (with_reducible repeat (first | refine bdN ?_ _ | refine bkD ?_ | refine bkA ?_ _)); refine bpu (cs := #[.int .i64 ((rd_T53 l0_3 x58_1).f0), .int .i64 ((rd_T53 l0_3 x58_1).f1), .string (⟨#[]⟩ : ByteArray)]) ?_ 2 _ rfl; (with_reducible repeat (first | refine bdN ?_ _ | refine bkD ?_ | refine bkA ?_ _)); refine bpu (cs := #[.int .i64 ((rd_T53 l0_3 x58_1).f0), .int .i64 0, .string (⟨#[]⟩ : ByteArray)]) ?_ 1 _ rfl; (with_reducible repeat (first | refine bdN ?_ _ | refine bkD ?_ | refine bkA ?_ _)); refine bpu (cs := #[.int .i64 0, .int .i64 0, .string (⟨#[]⟩ : ByteArray)]) ?_ 0 _ rfl; (with_reducible repeat (first | refine bdN ?_ _ | refine bkD ?_ | refine bkA ?_ _)); exact BK305.out) hb); replace HB := qHB HB hb; (try clear hb); (try clear hb2); (try clear hk); (try clear hi); have hz58 := qz3 BK305.out) | ((with_reducible refine gcl (f := 30) rfl ?_); refine goesL_ (some 73) rfl rfl Tryd.func30 (by kernel_rfl) rfl #[.int .i64 ((rd_T53 l0_3 x58_1).f1)] rfl qA ?_; (with_reducible refine (impl_u64.calls k1 ((rd_T53 l0_3 x58_1).f1) t307 _ A52.out).mono ?_); rintro e w59 ⟨rfl, hb⟩; refine ⟨_, rfl, ?_⟩; replace BK294 := qbb BK294 hb; replace BK305 := qbb BK305 hb; replace HB := qHB HB hb; (try clear hb); (try clear hb2); (try clear hk); (try clear hi))); go_roundg k1
                            case measure => have := HK1.out; omega
                            case rel => exact ⟨((x3_1 ++ t306) ++ t307), (wrap64 (x58_1 + 1)), qS, qS, H', ⟨by have := HK1.out; omega⟩, ⟨by (with_reducible repeat (first | refine bdN ?_ _ | refine bkD ?_ | refine bkA ?_ _)); exact BK294.out⟩, ⟨qB⟩⟩
                          · rw [if_neg c53] at H; exact absurd H (by simp)
                        · rw [if_neg c51] at H; have c51b0 : (((rd_T53 l0_3 x58_1).f0) == 1) = false := beq_eq_false_iff_ne.mpr c51; have c51b1 : (((rd_T53 l0_3 x58_1).f0) != 1) = true := bne_iff_ne.mpr c51; replace H := Option.bind_eq_some_iff.mp H; obtain ⟨t308, A600, H⟩ := H; have A60 := qK A600; clear A600; by_cases c61 : (x3_1 ++ t306).size + t308.size ≤ 9223372036854775807
                          · rw [if_pos c61] at H; have c61b0 := eq_true c61; have c61b1 : decide ((x3_1 ++ t306).size + t308.size ≤ 9223372036854775807) = true := decide_eq_true c61; (try have c61b2 : (9223372036854775807 < (x3_1 ++ t306).size + t308.size) = False := eq_false (Nat.not_lt.2 c61)); (try have c61b3 := c61b2); (try simp only [ByteArray.size_append] at c61b3); have H' := qK H; clear H; have p304 : 0 ≤ (x58_1 : Int) := of_decide_eq_true qa; have q304 : x58_1 < (l0_3.length : Int) := of_decide_eq_true qa; obtain ⟨ad304, e304, hx304_0, hx304_1, hx304_2⟩ := at_T53 HR0_3.out x58_1 p304 q304; cases e304; replace hx304_0 := (HB.out.cell (World.block_lt_of_cell? w _ hx304_0)).trans hx304_0; replace hx304_1 := (HB.out.cell (World.block_lt_of_cell? w _ hx304_1)).trans hx304_1; replace hx304_2 := (HB.out.cell (World.block_lt_of_cell? w _ hx304_2)).trans hx304_2; replace p304 := eq_true p304; replace q304 := eq_true q304; go_wp2_with (first | ((with_reducible refine gds (N := 7) rfl ?_); refine qbx 7 #[.int .i64 0, .int .i64 0, .string (⟨#[]⟩ : ByteArray)] 53 ?_; intro gb305 hg w62 hbox hb; have BK305 := qK (hbox); have GW305 := qK ((qW : w.heap.size ≤ gb305)); have GE305 := GW305; replace HB := qHB HB hb; have NB294_305 := qK (qlt BK294 hg); have NB305_294 := qK (qgt BK294 hg); replace BK294 := qbb BK294 hb; clear hb hbox hg; have hnb63 := NB305_294.out; have hnc63 := NB294_305.out; have hz64 := qz3 BK305.out) | ((with_reducible refine gcl (f := 28) rfl ?_); refine goesL_ (some 65) rfl rfl Tryd.func28 (by kernel_rfl) rfl #[.int .i64 ((rd_T53 l0_3 x58_1).f0)] rfl qA ?_; (with_reducible refine (impl_u8.calls k1 ((rd_T53 l0_3 x58_1).f0) t306 _ A49.out).mono ?_); rintro e w65 ⟨rfl, hb⟩; refine ⟨_, rfl, ?_⟩; replace BK294 := qK (bbe (g := gb294) (o := .cells #[.int .i64 a0_0, .string a0_1, .slice A0_2 l0_2.length c0_2, .slice (some ad304) l0_3.length c0_3, .string a0_4, .slice A0_5 l0_5.length c0_5, .slice A0_6 l0_6.length c0_6, .slice A0_7 l0_7.length c0_7] 35 (0, 0)) (by (with_reducible repeat (first | refine bdN ?_ _ | refine bkD ?_ | refine bkA ?_ _)); refine bfa ?_ NB294_305.out _; (with_reducible repeat (first | refine bdN ?_ _ | refine bkD ?_ | refine bkA ?_ _)); refine bfa ?_ NB294_305.out _; (with_reducible repeat (first | refine bdN ?_ _ | refine bkD ?_ | refine bkA ?_ _)); refine bfa ?_ NB294_305.out _; (with_reducible repeat (first | refine bdN ?_ _ | refine bkD ?_ | refine bkA ?_ _)); exact BK294.out) hb); replace BK305 := qK (bbe (g := gb305) (o := .cells #[.int .i64 ((rd_T53 l0_3 x58_1).f0), .int .i64 ((rd_T53 l0_3 x58_1).f1), .string ((rd_T53 l0_3 x58_1).f2)] 53 (0, 0)) (by (with_reducible repeat (first | refine bdN ?_ _ | refine bkD ?_ | refine bkA ?_ _)); refine bpu (cs := #[.int .i64 ((rd_T53 l0_3 x58_1).f0), .int .i64 ((rd_T53 l0_3 x58_1).f1), .string (⟨#[]⟩ : ByteArray)]) ?_ 2 _ rfl; (with_reducible repeat (first | refine bdN ?_ _ | refine bkD ?_ | refine bkA ?_ _)); refine bpu (cs := #[.int .i64 ((rd_T53 l0_3 x58_1).f0), .int .i64 0, .string (⟨#[]⟩ : ByteArray)]) ?_ 1 _ rfl; (with_reducible repeat (first | refine bdN ?_ _ | refine bkD ?_ | refine bkA ?_ _)); refine bpu (cs := #[.int .i64 0, .int .i64 0, .string (⟨#[]⟩ : ByteArray)]) ?_ 0 _ rfl; (with_reducible repeat (first | refine bdN ?_ _ | refine bkD ?_ | refine bkA ?_ _)); exact BK305.out) hb); replace HB := qHB HB hb; (try clear hb); (try clear hb2); (try clear hk); (try clear hi); have hz66 := qz3 BK305.out) | ((with_reducible refine gcl (f := 31) rfl ?_); refine goesL_ (some 78) rfl rfl Tryd.func31 (by kernel_rfl) rfl #[.string ((rd_T53 l0_3 x58_1).f2)] rfl qA ?_; (with_reducible refine (impl_s16.calls k1 ((rd_T53 l0_3 x58_1).f2) t308 _ A60.out).mono ?_); rintro e w67 ⟨rfl, hb⟩; refine ⟨_, rfl, ?_⟩; replace BK294 := qbb BK294 hb; replace BK305 := qbb BK305 hb; replace HB := qHB HB hb; (try clear hb); (try clear hb2); (try clear hk); (try clear hi))); go_roundg k1
                            case measure => have := HK1.out; omega
                            case rel => exact ⟨((x3_1 ++ t306) ++ t308), (wrap64 (x58_1 + 1)), qS, qS, H', ⟨by have := HK1.out; omega⟩, ⟨by (with_reducible repeat (first | refine bdN ?_ _ | refine bkD ?_ | refine bkA ?_ _)); exact BK294.out⟩, ⟨qB⟩⟩
                          · rw [if_neg c61] at H; exact absurd H (by simp)
                      · rw [if_neg c50] at H; exact absurd H (by simp)
                    · rw [if_neg c48] at H; exact absurd H (by simp)
                  · rw [if_neg c47] at H; exact absurd H (by simp)
                · rw [if_neg c46] at H; have c46b0 : decide (x58_1 < (l0_3.length : Int)) = false := decide_eq_false c46; clear c46; by_cases c68 : (x3_1.size : Int) > 60000
                  · rw [if_pos c68] at H; have c68b0 : decide (60000 < (x3_1.size : Int)) = true := decide_eq_true c68; have c68b1 : decide (60000 < x3_1.size) = true := decide_eq_true (by omega); clear c68; obtain rfl := Option.some.inj H; go_wp2; go_ret; exact ⟨qR, qB⟩
                  · rw [if_neg c68] at H; have c68b0 : decide (60000 < (x3_1.size : Int)) = false := decide_eq_false c68; have c68b1 : decide (60000 < x3_1.size) = false := decide_eq_false (by omega); clear c68; obtain rfl := Option.some.inj H; go_wp2; go_ret; exact ⟨qR, qB⟩
          · rw [if_neg c36] at H; exact absurd H (by simp)
        · rw [if_neg c34] at H; have c34b0 : (a0_0 == 2) = false := beq_eq_false_iff_ne.mpr c34; have c34b1 : (a0_0 != 2) = true := bne_iff_ne.mpr c34; by_cases c69 : a0_0 = 3
          · rw [if_pos c69] at H; have c69b0 : (a0_0 == 3) = true := beq_iff_eq.mpr c69; have c69b1 : (a0_0 != 3) = false := bne_eq_false_iff_eq.mpr c69; clear c69; replace H := Option.bind_eq_some_iff.mp H; obtain ⟨t309, A700, H⟩ := H; have A70 := qK A700; clear A700; replace H := Option.bind_eq_some_iff.mp H; obtain ⟨t310, A710, H⟩ := H; have A71 := qK A710; clear A710; by_cases c72 : t309.size + t310.size ≤ 9223372036854775807
            · rw [if_pos c72] at H; have c72b0 := eq_true c72; have c72b1 : decide (t309.size + t310.size ≤ 9223372036854775807) = true := decide_eq_true c72; (try have c72b2 : (9223372036854775807 < t309.size + t310.size) = False := eq_false (Nat.not_lt.2 c72)); replace H := Option.bind_eq_some_iff.mp H; obtain ⟨t311, A730, H⟩ := H; have A73 := qK A730; clear A730; by_cases c74 : (t309 ++ t310).size + t311.size ≤ 9223372036854775807
              · rw [if_pos c74] at H; have c74b0 := eq_true c74; have c74b1 : decide ((t309 ++ t310).size + t311.size ≤ 9223372036854775807) = true := decide_eq_true c74; (try have c74b2 : (9223372036854775807 < (t309 ++ t310).size + t311.size) = False := eq_false (Nat.not_lt.2 c74)); (try have c74b3 := c74b2); (try simp only [ByteArray.size_append] at c74b3); by_cases c75 : (t296 ++ t297).size + ((t309 ++ t310) ++ t311).size ≤ 9223372036854775807
                · rw [if_pos c75] at H; have c75b0 := eq_true c75; have c75b1 : decide ((t296 ++ t297).size + ((t309 ++ t310) ++ t311).size ≤ 9223372036854775807) = true := decide_eq_true c75; (try have c75b2 : (9223372036854775807 < (t296 ++ t297).size + ((t309 ++ t310) ++ t311).size) = False := eq_false (Nat.not_lt.2 c75)); (try have c75b3 := c75b2); (try simp only [ByteArray.size_append] at c75b3); by_cases c76 : (((t296 ++ t297) ++ ((t309 ++ t310) ++ t311)).size : Int) > 60000
                  · rw [if_pos c76] at H; have c76b0 : decide (60000 < (((t296 ++ t297) ++ ((t309 ++ t310) ++ t311)).size : Int)) = true := decide_eq_true c76; (try have c76b4 := c76b0); (try simp only [ByteArray.size_append, Int.natCast_add] at c76b4); have c76b1 : decide (60000 < ((t296 ++ t297) ++ ((t309 ++ t310) ++ t311)).size) = true := decide_eq_true (by omega); clear c76; obtain rfl := Option.some.inj H; go_enter Tryd.func8, Tryd.ntmps8; (try go_wp2_with (first | ((with_reducible refine gds (N := 1) rfl ?_); refine qbx 1 #[.int .i64 a0_0, .string a0_1, .slice A0_2 l0_2.length c0_2, .slice A0_3 l0_3.length c0_3, .string a0_4, .slice A0_5 l0_5.length c0_5, .slice A0_6 l0_6.length c0_6, .slice A0_7 l0_7.length c0_7] 35 ?_; intro gb294 hg w77 hbox hb; have BK294 := qK (hbox); have GW294 := qK ((qW : w.heap.size ≤ gb294)); have GE294 := GW294; replace HB := qHB HB hb; clear hb hbox hg; have hz78 := qz8 BK294.out) | ((with_reducible refine gcl (f := 27) rfl ?_); refine goesL_ (some 11) rfl rfl Tryd.func27 (by kernel_rfl) rfl #[.agg #[.int .i64 a0_0, .string a0_1, .slice A0_2 l0_2.length c0_2, .slice A0_3 l0_3.length c0_3, .string a0_4, .slice A0_5 l0_5.length c0_5, .slice A0_6 l0_6.length c0_6, .slice A0_7 l0_7.length c0_7]] rfl qA ?_; (with_reducible refine (impl_StmOK.calls k a0_0 a0_1 _ _ l0_2 _ _ l0_3 a0_4 _ _ l0_5 _ _ l0_6 _ _ l0_7 true _ ?side1 ?side2 ?side3 ?side4 ?side5 ?side6 ?side7 ?side8 ?side9 ?side10 ?side11 A2.out).mono ?_); (case side1 => exact GOK.below hG qB); (case side2 => exact qC HR0_2); (case side3 => exact HC0_2.out); (case side4 => exact qC HR0_3); (case side5 => exact HC0_3.out); (case side6 => exact qC HR0_5); (case side7 => exact HC0_5.out); (case side8 => exact qC HR0_6); (case side9 => exact HC0_6.out); (case side10 => exact qC HR0_7); (case side11 => exact HC0_7.out); rintro e w79 ⟨rfl, hb⟩; refine ⟨_, rfl, ?_⟩; replace BK294 := qbb BK294 hb; replace HB := qHB HB hb; (try clear hb); (try clear hb2); (try clear hk); (try clear hi)))); replace BK294 := qK (bkD BK294.out); replace HB := qK (bd1 HB.out); refine start_ (n := 8) (S := fun w' => w'.cell? ⟨gb294, 0, none⟩ = some (.int .i64 a0_0) ∧ w'.cell? ⟨gb294, 1, none⟩ = some (.string a0_1) ∧ w'.cell? ⟨gb294, 2, none⟩ = some (.slice A0_2 l0_2.length c0_2) ∧ w'.cell? ⟨gb294, 3, none⟩ = some (.slice A0_3 l0_3.length c0_3) ∧ w'.cell? ⟨gb294, 4, none⟩ = some (.string a0_4) ∧ w'.cell? ⟨gb294, 5, none⟩ = some (.slice A0_5 l0_5.length c0_5) ∧ w'.cell? ⟨gb294, 6, none⟩ = some (.slice A0_6 l0_6.length c0_6) ∧ w'.cell? ⟨gb294, 7, none⟩ = some (.slice A0_7 l0_7.length c0_7)) (ds := []) #[false, false, false, false, false, false, false, false] (by kernel_rfl) rfl rfl (qy8 BK294.out) (fun hHeld => ?_); refine with_tabW impl_EncodeStm.tab3 impl_EncodeStm.bits3 (fun HT_ HW_ => ?_); generalize w79.drew = w80 at BK294 HB hHeld ⊢; refine pure_ (i := 0) (N := some 13) (v := ?_) (a' := ?_) #[true, false, false, false, false, false, false, false] rfl rfl (any_of HT_.out (by kernel_rfl)) (fun _ _ _ h => h) (Or.inl ⟨by rfl, ?_⟩) ?_ ?_; rotate_left
                    · intro w'; go_simp; (with_reducible rfl)
                    rotate_left
                    · simp only [Act.put, List.setIfInBounds_toArray, List.set_cons_zero, List.set_cons_succ, i64_w, i32_w]; rfl
                    refine pure_ (i := 3) (N := some 16) (v := ?_) (a' := ?_) #[true, false, false, true, false, false, false, false] rfl rfl (any_of HT_.out (by kernel_rfl)) (fun _ _ _ h => h) (Or.inl ⟨by rfl, ?_⟩) ?_ ?_; rotate_left
                    · intro w'; go_simp; (with_reducible rfl)
                    rotate_left
                    · simp only [Act.put, List.setIfInBounds_toArray, List.set_cons_zero, List.set_cons_succ, i64_w, i32_w]; rfl
                    refine take_ (i := 1) (N := some 14) (v := ?_) (a' := ?_) #[true, true, false, true, false, false, false, false] rfl rfl (take_ofW HT_.out HW_.out (by kernel_rfl)) (fun _ _ _ h => h) (Or.inl ⟨by rfl, ?_⟩) hHeld ?_ ?_; rotate_left
                    · rintro w' ⟨s0, s1, s2, s3, s4, s5, s6, s7⟩; go_simp; (with_reducible rfl)
                    rotate_left
                    · simp only [Act.put, List.setIfInBounds_toArray, List.set_cons_zero, List.set_cons_succ, i64_w, i32_w]; rfl
                    refine take_ (i := 4) (N := some 17) (v := ?_) (a' := ?_) #[true, true, false, true, true, false, false, false] rfl rfl (take_ofW HT_.out HW_.out (by kernel_rfl)) (fun _ _ _ h => h) (Or.inl ⟨by rfl, ?_⟩) hHeld ?_ ?_; rotate_left
                    · rintro w' ⟨s0, s1, s2, s3, s4, s5, s6, s7⟩; go_simp; (with_reducible rfl)
                    rotate_left
                    · simp only [Act.put, List.setIfInBounds_toArray, List.set_cons_zero, List.set_cons_succ, i64_w, i32_w]; rfl
                    refine one_ (i := 2) (N := some 15) #[true, true, true, true, true, false, false, false] rfl rfl (one_of HT_.out (by kernel_rfl)) (by decide) (fun K hK => ?_); refine goes_ Tryd.func28 (by kernel_rfl) rfl #[.int .i64 a0_0] (by rfl) rfl rfl qA ?_; (with_reducible refine (impl_u8.calls k a0_0 t296 _ A4.out).mono ?_); rintro e w81 ⟨rfl, hb⟩; refine ⟨_, rfl, ?_⟩; replace BK294 := qbb BK294 hb; replace HB := qHB HB hb; (try clear hb); (try clear hb2); (try clear hk); (try clear hi); refine hK.out _ _ (qy8 BK294.out) (fun hHeld => ?_); clear hK K; refine norm_ (a' := ?_) ?_ ?_; rotate_left
                    · show Act.put _ (some 15) _ = _; simp only [Act.put, List.setIfInBounds_toArray, List.set_cons_zero, List.set_cons_succ, i64_w, i32_w]; rfl
                    refine one_ (i := 5) (N := some 18) #[true, true, true, true, true, true, false, false] rfl rfl (one_of HT_.out (by kernel_rfl)) (by decide) (fun K hK => ?_); refine goes_ Tryd.func29 (by kernel_rfl) rfl #[.string a0_1] (by rfl) rfl rfl qA ?_; (with_reducible refine (impl_s8.calls k a0_1 t297 _ A5.out).mono ?_); rintro e w82 ⟨rfl, hb⟩; refine ⟨_, rfl, ?_⟩; replace BK294 := qbb BK294 hb; replace HB := qHB HB hb; (try clear hb); (try clear hb2); (try clear hk); (try clear hi); refine hK.out _ _ (qy8 BK294.out) (fun hHeld => ?_); clear hK K; refine norm_ (a' := ?_) ?_ ?_; rotate_left
                    · show Act.put _ (some 18) _ = _; simp only [Act.put, List.setIfInBounds_toArray, List.set_cons_zero, List.set_cons_succ, i64_w, i32_w]; rfl
                    refine pure_ (i := 6) (N := some 19) (v := ?_) (a' := ?_) #[true, true, true, true, true, true, true, false] rfl rfl (any_of HT_.out (by kernel_rfl)) (fun _ _ _ h => h) (Or.inl ⟨by rfl, ?_⟩) ?_ ?_; rotate_left
                    · intro w'; go_simp; (with_reducible rfl)
                    rotate_left
                    · simp only [Act.put, List.setIfInBounds_toArray, List.set_cons_zero, List.set_cons_succ, i64_w, i32_w]; rfl
                    refine pure_ (i := 7) (N := some 3) (v := ?_) (a' := ?_) #[true, true, true, true, true, true, true, true] rfl rfl (any_of HT_.out (by kernel_rfl)) (fun _ _ _ h => h) (Or.inl ⟨by rfl, ?_⟩) ?_ ?_; rotate_left
                    · intro w'; go_simp; (with_reducible rfl)
                    rotate_left
                    · simp only [Act.put, List.setIfInBounds_toArray, List.set_cons_zero, List.set_cons_succ, i64_w, i32_w]; rfl
                    refine done_ (done_of HT_.out (by kernel_rfl)) ?_; obtain ⟨hcz83_0, hcz83_1, hcz83_2, hcz83_3, hcz83_4, hcz83_5, hcz83_6, hcz83_7⟩ := zC8 BK294.out; obtain ⟨hfz83_0, hfz83_1, hfz83_2, hfz83_3, hfz83_4, hfz83_5, hfz83_6, hfz83_7⟩ := zF8 BK294.out; (try go_wp2); replace BK294 := qK (bkD BK294.out); replace HB := qK (bd1 HB.out); refine start_ (n := 14) (S := fun w' => w'.cell? ⟨gb294, 0, none⟩ = some (.int .i64 a0_0) ∧ w'.cell? ⟨gb294, 1, none⟩ = some (.string a0_1) ∧ w'.cell? ⟨gb294, 2, none⟩ = some (.slice A0_2 l0_2.length c0_2) ∧ w'.cell? ⟨gb294, 3, none⟩ = some (.slice A0_3 l0_3.length c0_3) ∧ w'.cell? ⟨gb294, 4, none⟩ = some (.string a0_4) ∧ w'.cell? ⟨gb294, 5, none⟩ = some (.slice A0_5 l0_5.length c0_5) ∧ w'.cell? ⟨gb294, 6, none⟩ = some (.slice A0_6 l0_6.length c0_6) ∧ w'.cell? ⟨gb294, 7, none⟩ = some (.slice A0_7 l0_7.length c0_7)) (ds := []) #[false, false, false, false, false, false, false, false, false, false, false, false, false, false] (by kernel_rfl) rfl rfl (qy8 BK294.out) (fun hHeld => ?_); refine with_tabW impl_EncodeStm.tab23 impl_EncodeStm.bits23 (fun HT_ HW_ => ?_); generalize w82.drew = w84 at BK294 HB hHeld ⊢; refine pure_ (i := 0) (N := some 83) (v := ?_) (a' := ?_) #[true, false, false, false, false, false, false, false, false, false, false, false, false, false] rfl rfl (any_of HT_.out (by kernel_rfl)) (fun _ _ _ h => h) (Or.inl ⟨by rfl, ?_⟩) ?_ ?_; rotate_left
                    · intro w'; go_simp; (with_reducible rfl)
                    rotate_left
                    · simp only [Act.put, List.setIfInBounds_toArray, List.set_cons_zero, List.set_cons_succ, i64_w, i32_w]; rfl
                    refine pure_ (i := 1) (N := some 84) (v := ?_) (a' := ?_) #[true, true, false, false, false, false, false, false, false, false, false, false, false, false] rfl rfl (any_of HT_.out (by kernel_rfl)) (fun _ _ _ h => h) (Or.inl ⟨by rfl, ?_⟩) ?_ ?_; rotate_left
                    · intro w'; go_simp; (with_reducible rfl)
                    rotate_left
                    · simp only [Act.put, List.setIfInBounds_toArray, List.set_cons_zero, List.set_cons_succ, i64_w, i32_w]; rfl
                    refine pure_ (i := 4) (N := some 87) (v := ?_) (a' := ?_) #[true, true, false, false, true, false, false, false, false, false, false, false, false, false] rfl rfl (any_of HT_.out (by kernel_rfl)) (fun _ _ _ h => h) (Or.inl ⟨by rfl, ?_⟩) ?_ ?_; rotate_left
                    · intro w'; go_simp; (with_reducible rfl)
                    rotate_left
                    · simp only [Act.put, List.setIfInBounds_toArray, List.set_cons_zero, List.set_cons_succ, i64_w, i32_w]; rfl
                    refine pure_ (i := 8) (N := some 91) (v := ?_) (a' := ?_) #[true, true, false, false, true, false, false, false, true, false, false, false, false, false] rfl rfl (any_of HT_.out (by kernel_rfl)) (fun _ _ _ h => h) (Or.inl ⟨by rfl, ?_⟩) ?_ ?_; rotate_left
                    · intro w'; go_simp; (with_reducible rfl)
                    rotate_left
                    · simp only [Act.put, List.setIfInBounds_toArray, List.set_cons_zero, List.set_cons_succ, i64_w, i32_w]; rfl
                    refine take_ (i := 2) (N := some 85) (v := ?_) (a' := ?_) #[true, true, true, false, true, false, false, false, true, false, false, false, false, false] rfl rfl (take_ofW HT_.out HW_.out (by kernel_rfl)) (fun _ _ _ h => h) (Or.inl ⟨by rfl, ?_⟩) hHeld ?_ ?_; rotate_left
                    · rintro w' ⟨s0, s1, s2, s3, s4, s5, s6, s7⟩; go_simp; (with_reducible rfl)
                    rotate_left
                    · simp only [Act.put, List.setIfInBounds_toArray, List.set_cons_zero, List.set_cons_succ, i64_w, i32_w]; rfl
                    refine take_ (i := 5) (N := some 88) (v := ?_) (a' := ?_) #[true, true, true, false, true, true, false, false, true, false, false, false, false, false] rfl rfl (take_ofW HT_.out HW_.out (by kernel_rfl)) (fun _ _ _ h => h) (Or.inl ⟨by rfl, ?_⟩) hHeld ?_ ?_; rotate_left
                    · rintro w' ⟨s0, s1, s2, s3, s4, s5, s6, s7⟩; go_simp; (with_reducible rfl)
                    rotate_left
                    · simp only [Act.put, List.setIfInBounds_toArray, List.set_cons_zero, List.set_cons_succ, i64_w, i32_w]; rfl
                    refine take_ (i := 9) (N := some 92) (v := ?_) (a' := ?_) #[true, true, true, false, true, true, false, false, true, true, false, false, false, false] rfl rfl (take_ofW HT_.out HW_.out (by kernel_rfl)) (fun _ _ _ h => h) (Or.inl ⟨by rfl, ?_⟩) hHeld ?_ ?_; rotate_left
                    · rintro w' ⟨s0, s1, s2, s3, s4, s5, s6, s7⟩; go_simp; (with_reducible rfl)
                    rotate_left
                    · simp only [Act.put, List.setIfInBounds_toArray, List.set_cons_zero, List.set_cons_succ, i64_w, i32_w]; rfl
                    refine one_ (i := 3) (N := some 86) #[true, true, true, true, true, true, false, false, true, true, false, false, false, false] rfl rfl (one_of HT_.out (by kernel_rfl)) (by decide) (fun K hK => ?_); refine goes_ Tryd.func29 (by kernel_rfl) rfl #[.string a0_4] (by rfl) rfl rfl qA ?_; (with_reducible refine (impl_s8.calls k a0_4 t309 _ A70.out).mono ?_); rintro e w85 ⟨rfl, hb⟩; refine ⟨_, rfl, ?_⟩; replace BK294 := qbb BK294 hb; replace HB := qHB HB hb; (try clear hb); (try clear hb2); (try clear hk); (try clear hi); refine hK.out _ _ (qy8 BK294.out) (fun hHeld => ?_); clear hK K; refine norm_ (a' := ?_) ?_ ?_; rotate_left
                    · show Act.put _ (some 86) _ = _; simp only [Act.put, List.setIfInBounds_toArray, List.set_cons_zero, List.set_cons_succ, i64_w, i32_w]; rfl
                    refine one_ (i := 6) (N := some 89) #[true, true, true, true, true, true, true, false, true, true, false, false, false, false] rfl rfl (one_of HT_.out (by kernel_rfl)) (by decide) (fun K hK => ?_); refine goes_ Tryd.func32 (by kernel_rfl) rfl #[.slice A0_5 l0_5.length c0_5] (by rfl) rfl rfl qA ?_; (with_reducible refine (impl_expBytes.calls k _ _ l0_5 t310 _ ?side1 ?side2 A71.out).mono ?_); (case side1 => exact qC HR0_5); (case side2 => exact HC0_5.out); rintro e w86 ⟨rfl, hb⟩; refine ⟨_, rfl, ?_⟩; replace BK294 := qbb BK294 hb; replace HB := qHB HB hb; (try clear hb); (try clear hb2); (try clear hk); (try clear hi); refine hK.out _ _ (qy8 BK294.out) (fun hHeld => ?_); clear hK K; refine norm_ (a' := ?_) ?_ ?_; rotate_left
                    · show Act.put _ (some 89) _ = _; simp only [Act.put, List.setIfInBounds_toArray, List.set_cons_zero, List.set_cons_succ, i64_w, i32_w]; rfl
                    refine pure_ (i := 7) (N := some 90) (v := ?_) (a' := ?_) #[true, true, true, true, true, true, true, true, true, true, false, false, false, false] rfl rfl (any_of HT_.out (by kernel_rfl)) (fun _ _ _ h => h) (Or.inl ⟨by rfl, ?_⟩) ?_ ?_; rotate_left
                    · intro w'; go_simp; (with_reducible rfl)
                    rotate_left
                    · simp only [Act.put, List.setIfInBounds_toArray, List.set_cons_zero, List.set_cons_succ, i64_w, i32_w]; rfl
                    refine one_ (i := 10) (N := some 93) #[true, true, true, true, true, true, true, true, true, true, true, false, false, false] rfl rfl (one_of HT_.out (by kernel_rfl)) (by decide) (fun K hK => ?_); refine goes_ Tryd.func32 (by kernel_rfl) rfl #[.slice A0_6 l0_6.length c0_6] (by rfl) rfl rfl qA ?_; (with_reducible refine (impl_expBytes.calls k _ _ l0_6 t311 _ ?side1 ?side2 A73.out).mono ?_); (case side1 => exact qC HR0_6); (case side2 => exact HC0_6.out); rintro e w87 ⟨rfl, hb⟩; refine ⟨_, rfl, ?_⟩; replace BK294 := qbb BK294 hb; replace HB := qHB HB hb; (try clear hb); (try clear hb2); (try clear hk); (try clear hi); refine hK.out _ _ (qy8 BK294.out) (fun hHeld => ?_); clear hK K; refine norm_ (a' := ?_) ?_ ?_; rotate_left
                    · show Act.put _ (some 93) _ = _; simp only [Act.put, List.setIfInBounds_toArray, List.set_cons_zero, List.set_cons_succ, i64_w, i32_w]; rfl
                    refine pure_ (i := 11) (N := some 94) (v := ?_) (a' := ?_) #[true, true, true, true, true, true, true, true, true, true, true, true, false, false] rfl rfl (any_of HT_.out (by kernel_rfl)) (fun _ _ _ h => h) (Or.inl ⟨by rfl, ?_⟩) ?_ ?_; rotate_left
                    · intro w'; go_simp; (with_reducible rfl)
                    rotate_left
                    · simp only [Act.put, List.setIfInBounds_toArray, List.set_cons_zero, List.set_cons_succ, i64_w, i32_w]; rfl
                    refine pure_ (i := 12) (N := some 95) (v := ?_) (a' := ?_) #[true, true, true, true, true, true, true, true, true, true, true, true, true, false] rfl rfl (any_of HT_.out (by kernel_rfl)) (fun _ _ _ h => h) (Or.inl ⟨by rfl, ?_⟩) ?_ ?_; rotate_left
                    · intro w'; go_simp; (with_reducible rfl)
                    rotate_left
                    · simp only [Act.put, List.setIfInBounds_toArray, List.set_cons_zero, List.set_cons_succ, i64_w, i32_w]; rfl
                    refine pure_ (i := 13) (N := some 3) (v := ?_) (a' := ?_) #[true, true, true, true, true, true, true, true, true, true, true, true, true, true] rfl rfl (any_of HT_.out (by kernel_rfl)) (fun _ _ _ h => h) (Or.inl ⟨by rfl, ?_⟩) ?_ ?_; rotate_left
                    · intro w'; go_simp; (with_reducible rfl)
                    rotate_left
                    · simp only [Act.put, List.setIfInBounds_toArray, List.set_cons_zero, List.set_cons_succ, i64_w, i32_w]; rfl
                    refine done_ (done_of HT_.out (by kernel_rfl)) ?_; (try go_wp2); go_ret; exact ⟨qR, qB⟩
                  · rw [if_neg c76] at H; have c76b0 : decide (60000 < (((t296 ++ t297) ++ ((t309 ++ t310) ++ t311)).size : Int)) = false := decide_eq_false c76; (try have c76b4 := c76b0); (try simp only [ByteArray.size_append, Int.natCast_add] at c76b4); have c76b1 : decide (60000 < ((t296 ++ t297) ++ ((t309 ++ t310) ++ t311)).size) = false := decide_eq_false (by omega); clear c76; obtain rfl := Option.some.inj H; go_enter Tryd.func8, Tryd.ntmps8; (try go_wp2_with (first | ((with_reducible refine gds (N := 1) rfl ?_); refine qbx 1 #[.int .i64 a0_0, .string a0_1, .slice A0_2 l0_2.length c0_2, .slice A0_3 l0_3.length c0_3, .string a0_4, .slice A0_5 l0_5.length c0_5, .slice A0_6 l0_6.length c0_6, .slice A0_7 l0_7.length c0_7] 35 ?_; intro gb294 hg w88 hbox hb; have BK294 := qK (hbox); have GW294 := qK ((qW : w.heap.size ≤ gb294)); have GE294 := GW294; replace HB := qHB HB hb; clear hb hbox hg; have hz89 := qz8 BK294.out) | ((with_reducible refine gcl (f := 27) rfl ?_); refine goesL_ (some 11) rfl rfl Tryd.func27 (by kernel_rfl) rfl #[.agg #[.int .i64 a0_0, .string a0_1, .slice A0_2 l0_2.length c0_2, .slice A0_3 l0_3.length c0_3, .string a0_4, .slice A0_5 l0_5.length c0_5, .slice A0_6 l0_6.length c0_6, .slice A0_7 l0_7.length c0_7]] rfl qA ?_; (with_reducible refine (impl_StmOK.calls k a0_0 a0_1 _ _ l0_2 _ _ l0_3 a0_4 _ _ l0_5 _ _ l0_6 _ _ l0_7 true _ ?side1 ?side2 ?side3 ?side4 ?side5 ?side6 ?side7 ?side8 ?side9 ?side10 ?side11 A2.out).mono ?_); (case side1 => exact GOK.below hG qB); (case side2 => exact qC HR0_2); (case side3 => exact HC0_2.out); (case side4 => exact qC HR0_3); (case side5 => exact HC0_3.out); (case side6 => exact qC HR0_5); (case side7 => exact HC0_5.out); (case side8 => exact qC HR0_6); (case side9 => exact HC0_6.out); (case side10 => exact qC HR0_7); (case side11 => exact HC0_7.out); rintro e w90 ⟨rfl, hb⟩; refine ⟨_, rfl, ?_⟩; replace BK294 := qbb BK294 hb; replace HB := qHB HB hb; (try clear hb); (try clear hb2); (try clear hk); (try clear hi)))); replace BK294 := qK (bkD BK294.out); replace HB := qK (bd1 HB.out); refine start_ (n := 8) (S := fun w' => w'.cell? ⟨gb294, 0, none⟩ = some (.int .i64 a0_0) ∧ w'.cell? ⟨gb294, 1, none⟩ = some (.string a0_1) ∧ w'.cell? ⟨gb294, 2, none⟩ = some (.slice A0_2 l0_2.length c0_2) ∧ w'.cell? ⟨gb294, 3, none⟩ = some (.slice A0_3 l0_3.length c0_3) ∧ w'.cell? ⟨gb294, 4, none⟩ = some (.string a0_4) ∧ w'.cell? ⟨gb294, 5, none⟩ = some (.slice A0_5 l0_5.length c0_5) ∧ w'.cell? ⟨gb294, 6, none⟩ = some (.slice A0_6 l0_6.length c0_6) ∧ w'.cell? ⟨gb294, 7, none⟩ = some (.slice A0_7 l0_7.length c0_7)) (ds := []) #[false, false, false, false, false, false, false, false] (by kernel_rfl) rfl rfl (qy8 BK294.out) (fun hHeld => ?_); refine with_tabW impl_EncodeStm.tab3 impl_EncodeStm.bits3 (fun HT_ HW_ => ?_); generalize w90.drew = w91 at BK294 HB hHeld ⊢; refine pure_ (i := 0) (N := some 13) (v := ?_) (a' := ?_) #[true, false, false, false, false, false, false, false] rfl rfl (any_of HT_.out (by kernel_rfl)) (fun _ _ _ h => h) (Or.inl ⟨by rfl, ?_⟩) ?_ ?_; rotate_left
                    · intro w'; go_simp; (with_reducible rfl)
                    rotate_left
                    · simp only [Act.put, List.setIfInBounds_toArray, List.set_cons_zero, List.set_cons_succ, i64_w, i32_w]; rfl
                    refine pure_ (i := 3) (N := some 16) (v := ?_) (a' := ?_) #[true, false, false, true, false, false, false, false] rfl rfl (any_of HT_.out (by kernel_rfl)) (fun _ _ _ h => h) (Or.inl ⟨by rfl, ?_⟩) ?_ ?_; rotate_left
                    · intro w'; go_simp; (with_reducible rfl)
                    rotate_left
                    · simp only [Act.put, List.setIfInBounds_toArray, List.set_cons_zero, List.set_cons_succ, i64_w, i32_w]; rfl
                    refine take_ (i := 1) (N := some 14) (v := ?_) (a' := ?_) #[true, true, false, true, false, false, false, false] rfl rfl (take_ofW HT_.out HW_.out (by kernel_rfl)) (fun _ _ _ h => h) (Or.inl ⟨by rfl, ?_⟩) hHeld ?_ ?_; rotate_left
                    · rintro w' ⟨s0, s1, s2, s3, s4, s5, s6, s7⟩; go_simp; (with_reducible rfl)
                    rotate_left
                    · simp only [Act.put, List.setIfInBounds_toArray, List.set_cons_zero, List.set_cons_succ, i64_w, i32_w]; rfl
                    refine take_ (i := 4) (N := some 17) (v := ?_) (a' := ?_) #[true, true, false, true, true, false, false, false] rfl rfl (take_ofW HT_.out HW_.out (by kernel_rfl)) (fun _ _ _ h => h) (Or.inl ⟨by rfl, ?_⟩) hHeld ?_ ?_; rotate_left
                    · rintro w' ⟨s0, s1, s2, s3, s4, s5, s6, s7⟩; go_simp; (with_reducible rfl)
                    rotate_left
                    · simp only [Act.put, List.setIfInBounds_toArray, List.set_cons_zero, List.set_cons_succ, i64_w, i32_w]; rfl
                    refine one_ (i := 2) (N := some 15) #[true, true, true, true, true, false, false, false] rfl rfl (one_of HT_.out (by kernel_rfl)) (by decide) (fun K hK => ?_); refine goes_ Tryd.func28 (by kernel_rfl) rfl #[.int .i64 a0_0] (by rfl) rfl rfl qA ?_; (with_reducible refine (impl_u8.calls k a0_0 t296 _ A4.out).mono ?_); rintro e w92 ⟨rfl, hb⟩; refine ⟨_, rfl, ?_⟩; replace BK294 := qbb BK294 hb; replace HB := qHB HB hb; (try clear hb); (try clear hb2); (try clear hk); (try clear hi); refine hK.out _ _ (qy8 BK294.out) (fun hHeld => ?_); clear hK K; refine norm_ (a' := ?_) ?_ ?_; rotate_left
                    · show Act.put _ (some 15) _ = _; simp only [Act.put, List.setIfInBounds_toArray, List.set_cons_zero, List.set_cons_succ, i64_w, i32_w]; rfl
                    refine one_ (i := 5) (N := some 18) #[true, true, true, true, true, true, false, false] rfl rfl (one_of HT_.out (by kernel_rfl)) (by decide) (fun K hK => ?_); refine goes_ Tryd.func29 (by kernel_rfl) rfl #[.string a0_1] (by rfl) rfl rfl qA ?_; (with_reducible refine (impl_s8.calls k a0_1 t297 _ A5.out).mono ?_); rintro e w93 ⟨rfl, hb⟩; refine ⟨_, rfl, ?_⟩; replace BK294 := qbb BK294 hb; replace HB := qHB HB hb; (try clear hb); (try clear hb2); (try clear hk); (try clear hi); refine hK.out _ _ (qy8 BK294.out) (fun hHeld => ?_); clear hK K; refine norm_ (a' := ?_) ?_ ?_; rotate_left
                    · show Act.put _ (some 18) _ = _; simp only [Act.put, List.setIfInBounds_toArray, List.set_cons_zero, List.set_cons_succ, i64_w, i32_w]; rfl
                    refine pure_ (i := 6) (N := some 19) (v := ?_) (a' := ?_) #[true, true, true, true, true, true, true, false] rfl rfl (any_of HT_.out (by kernel_rfl)) (fun _ _ _ h => h) (Or.inl ⟨by rfl, ?_⟩) ?_ ?_; rotate_left
                    · intro w'; go_simp; (with_reducible rfl)
                    rotate_left
                    · simp only [Act.put, List.setIfInBounds_toArray, List.set_cons_zero, List.set_cons_succ, i64_w, i32_w]; rfl
                    refine pure_ (i := 7) (N := some 3) (v := ?_) (a' := ?_) #[true, true, true, true, true, true, true, true] rfl rfl (any_of HT_.out (by kernel_rfl)) (fun _ _ _ h => h) (Or.inl ⟨by rfl, ?_⟩) ?_ ?_; rotate_left
                    · intro w'; go_simp; (with_reducible rfl)
                    rotate_left
                    · simp only [Act.put, List.setIfInBounds_toArray, List.set_cons_zero, List.set_cons_succ, i64_w, i32_w]; rfl
                    refine done_ (done_of HT_.out (by kernel_rfl)) ?_; obtain ⟨hcz94_0, hcz94_1, hcz94_2, hcz94_3, hcz94_4, hcz94_5, hcz94_6, hcz94_7⟩ := zC8 BK294.out; obtain ⟨hfz94_0, hfz94_1, hfz94_2, hfz94_3, hfz94_4, hfz94_5, hfz94_6, hfz94_7⟩ := zF8 BK294.out; (try go_wp2); replace BK294 := qK (bkD BK294.out); replace HB := qK (bd1 HB.out); refine start_ (n := 14) (S := fun w' => w'.cell? ⟨gb294, 0, none⟩ = some (.int .i64 a0_0) ∧ w'.cell? ⟨gb294, 1, none⟩ = some (.string a0_1) ∧ w'.cell? ⟨gb294, 2, none⟩ = some (.slice A0_2 l0_2.length c0_2) ∧ w'.cell? ⟨gb294, 3, none⟩ = some (.slice A0_3 l0_3.length c0_3) ∧ w'.cell? ⟨gb294, 4, none⟩ = some (.string a0_4) ∧ w'.cell? ⟨gb294, 5, none⟩ = some (.slice A0_5 l0_5.length c0_5) ∧ w'.cell? ⟨gb294, 6, none⟩ = some (.slice A0_6 l0_6.length c0_6) ∧ w'.cell? ⟨gb294, 7, none⟩ = some (.slice A0_7 l0_7.length c0_7)) (ds := []) #[false, false, false, false, false, false, false, false, false, false, false, false, false, false] (by kernel_rfl) rfl rfl (qy8 BK294.out) (fun hHeld => ?_); refine with_tabW impl_EncodeStm.tab23 impl_EncodeStm.bits23 (fun HT_ HW_ => ?_); generalize w93.drew = w95 at BK294 HB hHeld ⊢; refine pure_ (i := 0) (N := some 83) (v := ?_) (a' := ?_) #[true, false, false, false, false, false, false, false, false, false, false, false, false, false] rfl rfl (any_of HT_.out (by kernel_rfl)) (fun _ _ _ h => h) (Or.inl ⟨by rfl, ?_⟩) ?_ ?_; rotate_left
                    · intro w'; go_simp; (with_reducible rfl)
                    rotate_left
                    · simp only [Act.put, List.setIfInBounds_toArray, List.set_cons_zero, List.set_cons_succ, i64_w, i32_w]; rfl
                    refine pure_ (i := 1) (N := some 84) (v := ?_) (a' := ?_) #[true, true, false, false, false, false, false, false, false, false, false, false, false, false] rfl rfl (any_of HT_.out (by kernel_rfl)) (fun _ _ _ h => h) (Or.inl ⟨by rfl, ?_⟩) ?_ ?_; rotate_left
                    · intro w'; go_simp; (with_reducible rfl)
                    rotate_left
                    · simp only [Act.put, List.setIfInBounds_toArray, List.set_cons_zero, List.set_cons_succ, i64_w, i32_w]; rfl
                    refine pure_ (i := 4) (N := some 87) (v := ?_) (a' := ?_) #[true, true, false, false, true, false, false, false, false, false, false, false, false, false] rfl rfl (any_of HT_.out (by kernel_rfl)) (fun _ _ _ h => h) (Or.inl ⟨by rfl, ?_⟩) ?_ ?_; rotate_left
                    · intro w'; go_simp; (with_reducible rfl)
                    rotate_left
                    · simp only [Act.put, List.setIfInBounds_toArray, List.set_cons_zero, List.set_cons_succ, i64_w, i32_w]; rfl
                    refine pure_ (i := 8) (N := some 91) (v := ?_) (a' := ?_) #[true, true, false, false, true, false, false, false, true, false, false, false, false, false] rfl rfl (any_of HT_.out (by kernel_rfl)) (fun _ _ _ h => h) (Or.inl ⟨by rfl, ?_⟩) ?_ ?_; rotate_left
                    · intro w'; go_simp; (with_reducible rfl)
                    rotate_left
                    · simp only [Act.put, List.setIfInBounds_toArray, List.set_cons_zero, List.set_cons_succ, i64_w, i32_w]; rfl
                    refine take_ (i := 2) (N := some 85) (v := ?_) (a' := ?_) #[true, true, true, false, true, false, false, false, true, false, false, false, false, false] rfl rfl (take_ofW HT_.out HW_.out (by kernel_rfl)) (fun _ _ _ h => h) (Or.inl ⟨by rfl, ?_⟩) hHeld ?_ ?_; rotate_left
                    · rintro w' ⟨s0, s1, s2, s3, s4, s5, s6, s7⟩; go_simp; (with_reducible rfl)
                    rotate_left
                    · simp only [Act.put, List.setIfInBounds_toArray, List.set_cons_zero, List.set_cons_succ, i64_w, i32_w]; rfl
                    refine take_ (i := 5) (N := some 88) (v := ?_) (a' := ?_) #[true, true, true, false, true, true, false, false, true, false, false, false, false, false] rfl rfl (take_ofW HT_.out HW_.out (by kernel_rfl)) (fun _ _ _ h => h) (Or.inl ⟨by rfl, ?_⟩) hHeld ?_ ?_; rotate_left
                    · rintro w' ⟨s0, s1, s2, s3, s4, s5, s6, s7⟩; go_simp; (with_reducible rfl)
                    rotate_left
                    · simp only [Act.put, List.setIfInBounds_toArray, List.set_cons_zero, List.set_cons_succ, i64_w, i32_w]; rfl
                    refine take_ (i := 9) (N := some 92) (v := ?_) (a' := ?_) #[true, true, true, false, true, true, false, false, true, true, false, false, false, false] rfl rfl (take_ofW HT_.out HW_.out (by kernel_rfl)) (fun _ _ _ h => h) (Or.inl ⟨by rfl, ?_⟩) hHeld ?_ ?_; rotate_left
                    · rintro w' ⟨s0, s1, s2, s3, s4, s5, s6, s7⟩; go_simp; (with_reducible rfl)
                    rotate_left
                    · simp only [Act.put, List.setIfInBounds_toArray, List.set_cons_zero, List.set_cons_succ, i64_w, i32_w]; rfl
                    refine one_ (i := 3) (N := some 86) #[true, true, true, true, true, true, false, false, true, true, false, false, false, false] rfl rfl (one_of HT_.out (by kernel_rfl)) (by decide) (fun K hK => ?_); refine goes_ Tryd.func29 (by kernel_rfl) rfl #[.string a0_4] (by rfl) rfl rfl qA ?_; (with_reducible refine (impl_s8.calls k a0_4 t309 _ A70.out).mono ?_); rintro e w96 ⟨rfl, hb⟩; refine ⟨_, rfl, ?_⟩; replace BK294 := qbb BK294 hb; replace HB := qHB HB hb; (try clear hb); (try clear hb2); (try clear hk); (try clear hi); refine hK.out _ _ (qy8 BK294.out) (fun hHeld => ?_); clear hK K; refine norm_ (a' := ?_) ?_ ?_; rotate_left
                    · show Act.put _ (some 86) _ = _; simp only [Act.put, List.setIfInBounds_toArray, List.set_cons_zero, List.set_cons_succ, i64_w, i32_w]; rfl
                    refine one_ (i := 6) (N := some 89) #[true, true, true, true, true, true, true, false, true, true, false, false, false, false] rfl rfl (one_of HT_.out (by kernel_rfl)) (by decide) (fun K hK => ?_); refine goes_ Tryd.func32 (by kernel_rfl) rfl #[.slice A0_5 l0_5.length c0_5] (by rfl) rfl rfl qA ?_; (with_reducible refine (impl_expBytes.calls k _ _ l0_5 t310 _ ?side1 ?side2 A71.out).mono ?_); (case side1 => exact qC HR0_5); (case side2 => exact HC0_5.out); rintro e w97 ⟨rfl, hb⟩; refine ⟨_, rfl, ?_⟩; replace BK294 := qbb BK294 hb; replace HB := qHB HB hb; (try clear hb); (try clear hb2); (try clear hk); (try clear hi); refine hK.out _ _ (qy8 BK294.out) (fun hHeld => ?_); clear hK K; refine norm_ (a' := ?_) ?_ ?_; rotate_left
                    · show Act.put _ (some 89) _ = _; simp only [Act.put, List.setIfInBounds_toArray, List.set_cons_zero, List.set_cons_succ, i64_w, i32_w]; rfl
                    refine pure_ (i := 7) (N := some 90) (v := ?_) (a' := ?_) #[true, true, true, true, true, true, true, true, true, true, false, false, false, false] rfl rfl (any_of HT_.out (by kernel_rfl)) (fun _ _ _ h => h) (Or.inl ⟨by rfl, ?_⟩) ?_ ?_; rotate_left
                    · intro w'; go_simp; (with_reducible rfl)
                    rotate_left
                    · simp only [Act.put, List.setIfInBounds_toArray, List.set_cons_zero, List.set_cons_succ, i64_w, i32_w]; rfl
                    refine one_ (i := 10) (N := some 93) #[true, true, true, true, true, true, true, true, true, true, true, false, false, false] rfl rfl (one_of HT_.out (by kernel_rfl)) (by decide) (fun K hK => ?_); refine goes_ Tryd.func32 (by kernel_rfl) rfl #[.slice A0_6 l0_6.length c0_6] (by rfl) rfl rfl qA ?_; (with_reducible refine (impl_expBytes.calls k _ _ l0_6 t311 _ ?side1 ?side2 A73.out).mono ?_); (case side1 => exact qC HR0_6); (case side2 => exact HC0_6.out); rintro e w98 ⟨rfl, hb⟩; refine ⟨_, rfl, ?_⟩; replace BK294 := qbb BK294 hb; replace HB := qHB HB hb; (try clear hb); (try clear hb2); (try clear hk); (try clear hi); refine hK.out _ _ (qy8 BK294.out) (fun hHeld => ?_); clear hK K; refine norm_ (a' := ?_) ?_ ?_; rotate_left
                    · show Act.put _ (some 93) _ = _; simp only [Act.put, List.setIfInBounds_toArray, List.set_cons_zero, List.set_cons_succ, i64_w, i32_w]; rfl
                    refine pure_ (i := 11) (N := some 94) (v := ?_) (a' := ?_) #[true, true, true, true, true, true, true, true, true, true, true, true, false, false] rfl rfl (any_of HT_.out (by kernel_rfl)) (fun _ _ _ h => h) (Or.inl ⟨by rfl, ?_⟩) ?_ ?_; rotate_left
                    · intro w'; go_simp; (with_reducible rfl)
                    rotate_left
                    · simp only [Act.put, List.setIfInBounds_toArray, List.set_cons_zero, List.set_cons_succ, i64_w, i32_w]; rfl
                    refine pure_ (i := 12) (N := some 95) (v := ?_) (a' := ?_) #[true, true, true, true, true, true, true, true, true, true, true, true, true, false] rfl rfl (any_of HT_.out (by kernel_rfl)) (fun _ _ _ h => h) (Or.inl ⟨by rfl, ?_⟩) ?_ ?_; rotate_left
                    · intro w'; go_simp; (with_reducible rfl)
                    rotate_left
                    · simp only [Act.put, List.setIfInBounds_toArray, List.set_cons_zero, List.set_cons_succ, i64_w, i32_w]; rfl
                    refine pure_ (i := 13) (N := some 3) (v := ?_) (a' := ?_) #[true, true, true, true, true, true, true, true, true, true, true, true, true, true] rfl rfl (any_of HT_.out (by kernel_rfl)) (fun _ _ _ h => h) (Or.inl ⟨by rfl, ?_⟩) ?_ ?_; rotate_left
                    · intro w'; go_simp; (with_reducible rfl)
                    rotate_left
                    · simp only [Act.put, List.setIfInBounds_toArray, List.set_cons_zero, List.set_cons_succ, i64_w, i32_w]; rfl
                    refine done_ (done_of HT_.out (by kernel_rfl)) ?_; (try go_wp2); go_ret; exact ⟨qR, qB⟩
                · rw [if_neg c75] at H; exact absurd H (by simp)
              · rw [if_neg c74] at H; exact absurd H (by simp)
            · rw [if_neg c72] at H; exact absurd H (by simp)
          · rw [if_neg c69] at H; have c69b0 : (a0_0 == 3) = false := beq_eq_false_iff_ne.mpr c69; have c69b1 : (a0_0 != 3) = true := bne_iff_ne.mpr c69; by_cases c99 : a0_0 = 4
            · rw [if_pos c99] at H; have c99b0 : (a0_0 == 4) = true := beq_iff_eq.mpr c99; have c99b1 : (a0_0 != 4) = false := bne_eq_false_iff_eq.mpr c99; clear c99; replace H := Option.bind_eq_some_iff.mp H; obtain ⟨t312, A1000, H⟩ := H; have A100 := qK A1000; clear A1000; by_cases c101 : (t296 ++ t297).size + t312.size ≤ 9223372036854775807
              · rw [if_pos c101] at H; have c101b0 := eq_true c101; have c101b1 : decide ((t296 ++ t297).size + t312.size ≤ 9223372036854775807) = true := decide_eq_true c101; (try have c101b2 : (9223372036854775807 < (t296 ++ t297).size + t312.size) = False := eq_false (Nat.not_lt.2 c101)); (try have c101b3 := c101b2); (try simp only [ByteArray.size_append] at c101b3); by_cases c102 : (((t296 ++ t297) ++ t312).size : Int) > 60000
                · rw [if_pos c102] at H; have c102b0 : decide (60000 < (((t296 ++ t297) ++ t312).size : Int)) = true := decide_eq_true c102; (try have c102b4 := c102b0); (try simp only [ByteArray.size_append, Int.natCast_add] at c102b4); have c102b1 : decide (60000 < ((t296 ++ t297) ++ t312).size) = true := decide_eq_true (by omega); clear c102; obtain rfl := Option.some.inj H; go_enter Tryd.func8, Tryd.ntmps8; (try go_wp2_with (first | ((with_reducible refine gds (N := 1) rfl ?_); refine qbx 1 #[.int .i64 a0_0, .string a0_1, .slice A0_2 l0_2.length c0_2, .slice A0_3 l0_3.length c0_3, .string a0_4, .slice A0_5 l0_5.length c0_5, .slice A0_6 l0_6.length c0_6, .slice A0_7 l0_7.length c0_7] 35 ?_; intro gb294 hg w103 hbox hb; have BK294 := qK (hbox); have GW294 := qK ((qW : w.heap.size ≤ gb294)); have GE294 := GW294; replace HB := qHB HB hb; clear hb hbox hg; have hz104 := qz8 BK294.out) | ((with_reducible refine gcl (f := 27) rfl ?_); refine goesL_ (some 11) rfl rfl Tryd.func27 (by kernel_rfl) rfl #[.agg #[.int .i64 a0_0, .string a0_1, .slice A0_2 l0_2.length c0_2, .slice A0_3 l0_3.length c0_3, .string a0_4, .slice A0_5 l0_5.length c0_5, .slice A0_6 l0_6.length c0_6, .slice A0_7 l0_7.length c0_7]] rfl qA ?_; (with_reducible refine (impl_StmOK.calls k a0_0 a0_1 _ _ l0_2 _ _ l0_3 a0_4 _ _ l0_5 _ _ l0_6 _ _ l0_7 true _ ?side1 ?side2 ?side3 ?side4 ?side5 ?side6 ?side7 ?side8 ?side9 ?side10 ?side11 A2.out).mono ?_); (case side1 => exact GOK.below hG qB); (case side2 => exact qC HR0_2); (case side3 => exact HC0_2.out); (case side4 => exact qC HR0_3); (case side5 => exact HC0_3.out); (case side6 => exact qC HR0_5); (case side7 => exact HC0_5.out); (case side8 => exact qC HR0_6); (case side9 => exact HC0_6.out); (case side10 => exact qC HR0_7); (case side11 => exact HC0_7.out); rintro e w105 ⟨rfl, hb⟩; refine ⟨_, rfl, ?_⟩; replace BK294 := qbb BK294 hb; replace HB := qHB HB hb; (try clear hb); (try clear hb2); (try clear hk); (try clear hi)))); replace BK294 := qK (bkD BK294.out); replace HB := qK (bd1 HB.out); refine start_ (n := 8) (S := fun w' => w'.cell? ⟨gb294, 0, none⟩ = some (.int .i64 a0_0) ∧ w'.cell? ⟨gb294, 1, none⟩ = some (.string a0_1) ∧ w'.cell? ⟨gb294, 2, none⟩ = some (.slice A0_2 l0_2.length c0_2) ∧ w'.cell? ⟨gb294, 3, none⟩ = some (.slice A0_3 l0_3.length c0_3) ∧ w'.cell? ⟨gb294, 4, none⟩ = some (.string a0_4) ∧ w'.cell? ⟨gb294, 5, none⟩ = some (.slice A0_5 l0_5.length c0_5) ∧ w'.cell? ⟨gb294, 6, none⟩ = some (.slice A0_6 l0_6.length c0_6) ∧ w'.cell? ⟨gb294, 7, none⟩ = some (.slice A0_7 l0_7.length c0_7)) (ds := []) #[false, false, false, false, false, false, false, false] (by kernel_rfl) rfl rfl (qy8 BK294.out) (fun hHeld => ?_); refine with_tabW impl_EncodeStm.tab3 impl_EncodeStm.bits3 (fun HT_ HW_ => ?_); generalize w105.drew = w106 at BK294 HB hHeld ⊢; refine pure_ (i := 0) (N := some 13) (v := ?_) (a' := ?_) #[true, false, false, false, false, false, false, false] rfl rfl (any_of HT_.out (by kernel_rfl)) (fun _ _ _ h => h) (Or.inl ⟨by rfl, ?_⟩) ?_ ?_; rotate_left
                  · intro w'; go_simp; (with_reducible rfl)
                  rotate_left
                  · simp only [Act.put, List.setIfInBounds_toArray, List.set_cons_zero, List.set_cons_succ, i64_w, i32_w]; rfl
                  refine pure_ (i := 3) (N := some 16) (v := ?_) (a' := ?_) #[true, false, false, true, false, false, false, false] rfl rfl (any_of HT_.out (by kernel_rfl)) (fun _ _ _ h => h) (Or.inl ⟨by rfl, ?_⟩) ?_ ?_; rotate_left
                  · intro w'; go_simp; (with_reducible rfl)
                  rotate_left
                  · simp only [Act.put, List.setIfInBounds_toArray, List.set_cons_zero, List.set_cons_succ, i64_w, i32_w]; rfl
                  refine take_ (i := 1) (N := some 14) (v := ?_) (a' := ?_) #[true, true, false, true, false, false, false, false] rfl rfl (take_ofW HT_.out HW_.out (by kernel_rfl)) (fun _ _ _ h => h) (Or.inl ⟨by rfl, ?_⟩) hHeld ?_ ?_; rotate_left
                  · rintro w' ⟨s0, s1, s2, s3, s4, s5, s6, s7⟩; go_simp; (with_reducible rfl)
                  rotate_left
                  · simp only [Act.put, List.setIfInBounds_toArray, List.set_cons_zero, List.set_cons_succ, i64_w, i32_w]; rfl
                  refine take_ (i := 4) (N := some 17) (v := ?_) (a' := ?_) #[true, true, false, true, true, false, false, false] rfl rfl (take_ofW HT_.out HW_.out (by kernel_rfl)) (fun _ _ _ h => h) (Or.inl ⟨by rfl, ?_⟩) hHeld ?_ ?_; rotate_left
                  · rintro w' ⟨s0, s1, s2, s3, s4, s5, s6, s7⟩; go_simp; (with_reducible rfl)
                  rotate_left
                  · simp only [Act.put, List.setIfInBounds_toArray, List.set_cons_zero, List.set_cons_succ, i64_w, i32_w]; rfl
                  refine one_ (i := 2) (N := some 15) #[true, true, true, true, true, false, false, false] rfl rfl (one_of HT_.out (by kernel_rfl)) (by decide) (fun K hK => ?_); refine goes_ Tryd.func28 (by kernel_rfl) rfl #[.int .i64 a0_0] (by rfl) rfl rfl qA ?_; (with_reducible refine (impl_u8.calls k a0_0 t296 _ A4.out).mono ?_); rintro e w107 ⟨rfl, hb⟩; refine ⟨_, rfl, ?_⟩; replace BK294 := qbb BK294 hb; replace HB := qHB HB hb; (try clear hb); (try clear hb2); (try clear hk); (try clear hi); refine hK.out _ _ (qy8 BK294.out) (fun hHeld => ?_); clear hK K; refine norm_ (a' := ?_) ?_ ?_; rotate_left
                  · show Act.put _ (some 15) _ = _; simp only [Act.put, List.setIfInBounds_toArray, List.set_cons_zero, List.set_cons_succ, i64_w, i32_w]; rfl
                  refine one_ (i := 5) (N := some 18) #[true, true, true, true, true, true, false, false] rfl rfl (one_of HT_.out (by kernel_rfl)) (by decide) (fun K hK => ?_); refine goes_ Tryd.func29 (by kernel_rfl) rfl #[.string a0_1] (by rfl) rfl rfl qA ?_; (with_reducible refine (impl_s8.calls k a0_1 t297 _ A5.out).mono ?_); rintro e w108 ⟨rfl, hb⟩; refine ⟨_, rfl, ?_⟩; replace BK294 := qbb BK294 hb; replace HB := qHB HB hb; (try clear hb); (try clear hb2); (try clear hk); (try clear hi); refine hK.out _ _ (qy8 BK294.out) (fun hHeld => ?_); clear hK K; refine norm_ (a' := ?_) ?_ ?_; rotate_left
                  · show Act.put _ (some 18) _ = _; simp only [Act.put, List.setIfInBounds_toArray, List.set_cons_zero, List.set_cons_succ, i64_w, i32_w]; rfl
                  refine pure_ (i := 6) (N := some 19) (v := ?_) (a' := ?_) #[true, true, true, true, true, true, true, false] rfl rfl (any_of HT_.out (by kernel_rfl)) (fun _ _ _ h => h) (Or.inl ⟨by rfl, ?_⟩) ?_ ?_; rotate_left
                  · intro w'; go_simp; (with_reducible rfl)
                  rotate_left
                  · simp only [Act.put, List.setIfInBounds_toArray, List.set_cons_zero, List.set_cons_succ, i64_w, i32_w]; rfl
                  refine pure_ (i := 7) (N := some 3) (v := ?_) (a' := ?_) #[true, true, true, true, true, true, true, true] rfl rfl (any_of HT_.out (by kernel_rfl)) (fun _ _ _ h => h) (Or.inl ⟨by rfl, ?_⟩) ?_ ?_; rotate_left
                  · intro w'; go_simp; (with_reducible rfl)
                  rotate_left
                  · simp only [Act.put, List.setIfInBounds_toArray, List.set_cons_zero, List.set_cons_succ, i64_w, i32_w]; rfl
                  refine done_ (done_of HT_.out (by kernel_rfl)) ?_; obtain ⟨hcz109_0, hcz109_1, hcz109_2, hcz109_3, hcz109_4, hcz109_5, hcz109_6, hcz109_7⟩ := zC8 BK294.out; obtain ⟨hfz109_0, hfz109_1, hfz109_2, hfz109_3, hfz109_4, hfz109_5, hfz109_6, hfz109_7⟩ := zF8 BK294.out; (try go_wp2_with (first | ((with_reducible refine gcl (f := 32) rfl ?_); refine goesL_ (some 101) rfl rfl Tryd.func32 (by kernel_rfl) rfl #[.slice A0_6 l0_6.length c0_6] rfl qA ?_; (with_reducible refine (impl_expBytes.calls k _ _ l0_6 t312 _ ?side1 ?side2 A100.out).mono ?_); (case side1 => exact qC HR0_6); (case side2 => exact HC0_6.out); rintro e w110 ⟨rfl, hb⟩; refine ⟨_, rfl, ?_⟩; replace BK294 := qbb BK294 hb; replace HB := qHB HB hb; (try clear hb); (try clear hb2); (try clear hk); (try clear hi)))); go_ret; exact ⟨qR, qB⟩
                · rw [if_neg c102] at H; have c102b0 : decide (60000 < (((t296 ++ t297) ++ t312).size : Int)) = false := decide_eq_false c102; (try have c102b4 := c102b0); (try simp only [ByteArray.size_append, Int.natCast_add] at c102b4); have c102b1 : decide (60000 < ((t296 ++ t297) ++ t312).size) = false := decide_eq_false (by omega); clear c102; obtain rfl := Option.some.inj H; go_enter Tryd.func8, Tryd.ntmps8; (try go_wp2_with (first | ((with_reducible refine gds (N := 1) rfl ?_); refine qbx 1 #[.int .i64 a0_0, .string a0_1, .slice A0_2 l0_2.length c0_2, .slice A0_3 l0_3.length c0_3, .string a0_4, .slice A0_5 l0_5.length c0_5, .slice A0_6 l0_6.length c0_6, .slice A0_7 l0_7.length c0_7] 35 ?_; intro gb294 hg w111 hbox hb; have BK294 := qK (hbox); have GW294 := qK ((qW : w.heap.size ≤ gb294)); have GE294 := GW294; replace HB := qHB HB hb; clear hb hbox hg; have hz112 := qz8 BK294.out) | ((with_reducible refine gcl (f := 27) rfl ?_); refine goesL_ (some 11) rfl rfl Tryd.func27 (by kernel_rfl) rfl #[.agg #[.int .i64 a0_0, .string a0_1, .slice A0_2 l0_2.length c0_2, .slice A0_3 l0_3.length c0_3, .string a0_4, .slice A0_5 l0_5.length c0_5, .slice A0_6 l0_6.length c0_6, .slice A0_7 l0_7.length c0_7]] rfl qA ?_; (with_reducible refine (impl_StmOK.calls k a0_0 a0_1 _ _ l0_2 _ _ l0_3 a0_4 _ _ l0_5 _ _ l0_6 _ _ l0_7 true _ ?side1 ?side2 ?side3 ?side4 ?side5 ?side6 ?side7 ?side8 ?side9 ?side10 ?side11 A2.out).mono ?_); (case side1 => exact GOK.below hG qB); (case side2 => exact qC HR0_2); (case side3 => exact HC0_2.out); (case side4 => exact qC HR0_3); (case side5 => exact HC0_3.out); (case side6 => exact qC HR0_5); (case side7 => exact HC0_5.out); (case side8 => exact qC HR0_6); (case side9 => exact HC0_6.out); (case side10 => exact qC HR0_7); (case side11 => exact HC0_7.out); rintro e w113 ⟨rfl, hb⟩; refine ⟨_, rfl, ?_⟩; replace BK294 := qbb BK294 hb; replace HB := qHB HB hb; (try clear hb); (try clear hb2); (try clear hk); (try clear hi)))); replace BK294 := qK (bkD BK294.out); replace HB := qK (bd1 HB.out); refine start_ (n := 8) (S := fun w' => w'.cell? ⟨gb294, 0, none⟩ = some (.int .i64 a0_0) ∧ w'.cell? ⟨gb294, 1, none⟩ = some (.string a0_1) ∧ w'.cell? ⟨gb294, 2, none⟩ = some (.slice A0_2 l0_2.length c0_2) ∧ w'.cell? ⟨gb294, 3, none⟩ = some (.slice A0_3 l0_3.length c0_3) ∧ w'.cell? ⟨gb294, 4, none⟩ = some (.string a0_4) ∧ w'.cell? ⟨gb294, 5, none⟩ = some (.slice A0_5 l0_5.length c0_5) ∧ w'.cell? ⟨gb294, 6, none⟩ = some (.slice A0_6 l0_6.length c0_6) ∧ w'.cell? ⟨gb294, 7, none⟩ = some (.slice A0_7 l0_7.length c0_7)) (ds := []) #[false, false, false, false, false, false, false, false] (by kernel_rfl) rfl rfl (qy8 BK294.out) (fun hHeld => ?_); refine with_tabW impl_EncodeStm.tab3 impl_EncodeStm.bits3 (fun HT_ HW_ => ?_); generalize w113.drew = w114 at BK294 HB hHeld ⊢; refine pure_ (i := 0) (N := some 13) (v := ?_) (a' := ?_) #[true, false, false, false, false, false, false, false] rfl rfl (any_of HT_.out (by kernel_rfl)) (fun _ _ _ h => h) (Or.inl ⟨by rfl, ?_⟩) ?_ ?_; rotate_left
                  · intro w'; go_simp; (with_reducible rfl)
                  rotate_left
                  · simp only [Act.put, List.setIfInBounds_toArray, List.set_cons_zero, List.set_cons_succ, i64_w, i32_w]; rfl
                  refine pure_ (i := 3) (N := some 16) (v := ?_) (a' := ?_) #[true, false, false, true, false, false, false, false] rfl rfl (any_of HT_.out (by kernel_rfl)) (fun _ _ _ h => h) (Or.inl ⟨by rfl, ?_⟩) ?_ ?_; rotate_left
                  · intro w'; go_simp; (with_reducible rfl)
                  rotate_left
                  · simp only [Act.put, List.setIfInBounds_toArray, List.set_cons_zero, List.set_cons_succ, i64_w, i32_w]; rfl
                  refine take_ (i := 1) (N := some 14) (v := ?_) (a' := ?_) #[true, true, false, true, false, false, false, false] rfl rfl (take_ofW HT_.out HW_.out (by kernel_rfl)) (fun _ _ _ h => h) (Or.inl ⟨by rfl, ?_⟩) hHeld ?_ ?_; rotate_left
                  · rintro w' ⟨s0, s1, s2, s3, s4, s5, s6, s7⟩; go_simp; (with_reducible rfl)
                  rotate_left
                  · simp only [Act.put, List.setIfInBounds_toArray, List.set_cons_zero, List.set_cons_succ, i64_w, i32_w]; rfl
                  refine take_ (i := 4) (N := some 17) (v := ?_) (a' := ?_) #[true, true, false, true, true, false, false, false] rfl rfl (take_ofW HT_.out HW_.out (by kernel_rfl)) (fun _ _ _ h => h) (Or.inl ⟨by rfl, ?_⟩) hHeld ?_ ?_; rotate_left
                  · rintro w' ⟨s0, s1, s2, s3, s4, s5, s6, s7⟩; go_simp; (with_reducible rfl)
                  rotate_left
                  · simp only [Act.put, List.setIfInBounds_toArray, List.set_cons_zero, List.set_cons_succ, i64_w, i32_w]; rfl
                  refine one_ (i := 2) (N := some 15) #[true, true, true, true, true, false, false, false] rfl rfl (one_of HT_.out (by kernel_rfl)) (by decide) (fun K hK => ?_); refine goes_ Tryd.func28 (by kernel_rfl) rfl #[.int .i64 a0_0] (by rfl) rfl rfl qA ?_; (with_reducible refine (impl_u8.calls k a0_0 t296 _ A4.out).mono ?_); rintro e w115 ⟨rfl, hb⟩; refine ⟨_, rfl, ?_⟩; replace BK294 := qbb BK294 hb; replace HB := qHB HB hb; (try clear hb); (try clear hb2); (try clear hk); (try clear hi); refine hK.out _ _ (qy8 BK294.out) (fun hHeld => ?_); clear hK K; refine norm_ (a' := ?_) ?_ ?_; rotate_left
                  · show Act.put _ (some 15) _ = _; simp only [Act.put, List.setIfInBounds_toArray, List.set_cons_zero, List.set_cons_succ, i64_w, i32_w]; rfl
                  refine one_ (i := 5) (N := some 18) #[true, true, true, true, true, true, false, false] rfl rfl (one_of HT_.out (by kernel_rfl)) (by decide) (fun K hK => ?_); refine goes_ Tryd.func29 (by kernel_rfl) rfl #[.string a0_1] (by rfl) rfl rfl qA ?_; (with_reducible refine (impl_s8.calls k a0_1 t297 _ A5.out).mono ?_); rintro e w116 ⟨rfl, hb⟩; refine ⟨_, rfl, ?_⟩; replace BK294 := qbb BK294 hb; replace HB := qHB HB hb; (try clear hb); (try clear hb2); (try clear hk); (try clear hi); refine hK.out _ _ (qy8 BK294.out) (fun hHeld => ?_); clear hK K; refine norm_ (a' := ?_) ?_ ?_; rotate_left
                  · show Act.put _ (some 18) _ = _; simp only [Act.put, List.setIfInBounds_toArray, List.set_cons_zero, List.set_cons_succ, i64_w, i32_w]; rfl
                  refine pure_ (i := 6) (N := some 19) (v := ?_) (a' := ?_) #[true, true, true, true, true, true, true, false] rfl rfl (any_of HT_.out (by kernel_rfl)) (fun _ _ _ h => h) (Or.inl ⟨by rfl, ?_⟩) ?_ ?_; rotate_left
                  · intro w'; go_simp; (with_reducible rfl)
                  rotate_left
                  · simp only [Act.put, List.setIfInBounds_toArray, List.set_cons_zero, List.set_cons_succ, i64_w, i32_w]; rfl
                  refine pure_ (i := 7) (N := some 3) (v := ?_) (a' := ?_) #[true, true, true, true, true, true, true, true] rfl rfl (any_of HT_.out (by kernel_rfl)) (fun _ _ _ h => h) (Or.inl ⟨by rfl, ?_⟩) ?_ ?_; rotate_left
                  · intro w'; go_simp; (with_reducible rfl)
                  rotate_left
                  · simp only [Act.put, List.setIfInBounds_toArray, List.set_cons_zero, List.set_cons_succ, i64_w, i32_w]; rfl
                  refine done_ (done_of HT_.out (by kernel_rfl)) ?_; obtain ⟨hcz117_0, hcz117_1, hcz117_2, hcz117_3, hcz117_4, hcz117_5, hcz117_6, hcz117_7⟩ := zC8 BK294.out; obtain ⟨hfz117_0, hfz117_1, hfz117_2, hfz117_3, hfz117_4, hfz117_5, hfz117_6, hfz117_7⟩ := zF8 BK294.out; (try go_wp2_with (first | ((with_reducible refine gcl (f := 32) rfl ?_); refine goesL_ (some 101) rfl rfl Tryd.func32 (by kernel_rfl) rfl #[.slice A0_6 l0_6.length c0_6] rfl qA ?_; (with_reducible refine (impl_expBytes.calls k _ _ l0_6 t312 _ ?side1 ?side2 A100.out).mono ?_); (case side1 => exact qC HR0_6); (case side2 => exact HC0_6.out); rintro e w118 ⟨rfl, hb⟩; refine ⟨_, rfl, ?_⟩; replace BK294 := qbb BK294 hb; replace HB := qHB HB hb; (try clear hb); (try clear hb2); (try clear hk); (try clear hi)))); go_ret; exact ⟨qR, qB⟩
              · rw [if_neg c101] at H; exact absurd H (by simp)
            · rw [if_neg c99] at H; have c99b0 : (a0_0 == 4) = false := beq_eq_false_iff_ne.mpr c99; have c99b1 : (a0_0 != 4) = true := bne_iff_ne.mpr c99; by_cases c119 : a0_0 = 5
              · rw [if_pos c119] at H; have c119b0 : (a0_0 == 5) = true := beq_iff_eq.mpr c119; have c119b1 : (a0_0 != 5) = false := bne_eq_false_iff_eq.mpr c119; clear c119; replace H := Option.bind_eq_some_iff.mp H; obtain ⟨t313, A1200, H⟩ := H; have A120 := qK A1200; clear A1200; by_cases c121 : (t296 ++ t297).size + t313.size ≤ 9223372036854775807
                · rw [if_pos c121] at H; have c121b0 := eq_true c121; have c121b1 : decide ((t296 ++ t297).size + t313.size ≤ 9223372036854775807) = true := decide_eq_true c121; (try have c121b2 : (9223372036854775807 < (t296 ++ t297).size + t313.size) = False := eq_false (Nat.not_lt.2 c121)); (try have c121b3 := c121b2); (try simp only [ByteArray.size_append] at c121b3); have H' := qK H; clear H; go_enter Tryd.func8, Tryd.ntmps8; (try go_wp2_with (first | ((with_reducible refine gds (N := 1) rfl ?_); refine qbx 1 #[.int .i64 a0_0, .string a0_1, .slice A0_2 l0_2.length c0_2, .slice A0_3 l0_3.length c0_3, .string a0_4, .slice A0_5 l0_5.length c0_5, .slice A0_6 l0_6.length c0_6, .slice A0_7 l0_7.length c0_7] 35 ?_; intro gb294 hg w122 hbox hb; have BK294 := qK (hbox); have GW294 := qK ((qW : w.heap.size ≤ gb294)); have GE294 := GW294; replace HB := qHB HB hb; clear hb hbox hg; have hz123 := qz8 BK294.out) | ((with_reducible refine gcl (f := 27) rfl ?_); refine goesL_ (some 11) rfl rfl Tryd.func27 (by kernel_rfl) rfl #[.agg #[.int .i64 a0_0, .string a0_1, .slice A0_2 l0_2.length c0_2, .slice A0_3 l0_3.length c0_3, .string a0_4, .slice A0_5 l0_5.length c0_5, .slice A0_6 l0_6.length c0_6, .slice A0_7 l0_7.length c0_7]] rfl qA ?_; (with_reducible refine (impl_StmOK.calls k a0_0 a0_1 _ _ l0_2 _ _ l0_3 a0_4 _ _ l0_5 _ _ l0_6 _ _ l0_7 true _ ?side1 ?side2 ?side3 ?side4 ?side5 ?side6 ?side7 ?side8 ?side9 ?side10 ?side11 A2.out).mono ?_); (case side1 => exact GOK.below hG qB); (case side2 => exact qC HR0_2); (case side3 => exact HC0_2.out); (case side4 => exact qC HR0_3); (case side5 => exact HC0_3.out); (case side6 => exact qC HR0_5); (case side7 => exact HC0_5.out); (case side8 => exact qC HR0_6); (case side9 => exact HC0_6.out); (case side10 => exact qC HR0_7); (case side11 => exact HC0_7.out); rintro e w124 ⟨rfl, hb⟩; refine ⟨_, rfl, ?_⟩; replace BK294 := qbb BK294 hb; replace HB := qHB HB hb; (try clear hb); (try clear hb2); (try clear hk); (try clear hi)))); replace BK294 := qK (bkD BK294.out); replace HB := qK (bd1 HB.out); refine start_ (n := 8) (S := fun w' => w'.cell? ⟨gb294, 0, none⟩ = some (.int .i64 a0_0) ∧ w'.cell? ⟨gb294, 1, none⟩ = some (.string a0_1) ∧ w'.cell? ⟨gb294, 2, none⟩ = some (.slice A0_2 l0_2.length c0_2) ∧ w'.cell? ⟨gb294, 3, none⟩ = some (.slice A0_3 l0_3.length c0_3) ∧ w'.cell? ⟨gb294, 4, none⟩ = some (.string a0_4) ∧ w'.cell? ⟨gb294, 5, none⟩ = some (.slice A0_5 l0_5.length c0_5) ∧ w'.cell? ⟨gb294, 6, none⟩ = some (.slice A0_6 l0_6.length c0_6) ∧ w'.cell? ⟨gb294, 7, none⟩ = some (.slice A0_7 l0_7.length c0_7)) (ds := []) #[false, false, false, false, false, false, false, false] (by kernel_rfl) rfl rfl (qy8 BK294.out) (fun hHeld => ?_); refine with_tabW impl_EncodeStm.tab3 impl_EncodeStm.bits3 (fun HT_ HW_ => ?_); generalize w124.drew = w125 at BK294 HB hHeld ⊢; refine pure_ (i := 0) (N := some 13) (v := ?_) (a' := ?_) #[true, false, false, false, false, false, false, false] rfl rfl (any_of HT_.out (by kernel_rfl)) (fun _ _ _ h => h) (Or.inl ⟨by rfl, ?_⟩) ?_ ?_; rotate_left
                  · intro w'; go_simp; (with_reducible rfl)
                  rotate_left
                  · simp only [Act.put, List.setIfInBounds_toArray, List.set_cons_zero, List.set_cons_succ, i64_w, i32_w]; rfl
                  refine pure_ (i := 3) (N := some 16) (v := ?_) (a' := ?_) #[true, false, false, true, false, false, false, false] rfl rfl (any_of HT_.out (by kernel_rfl)) (fun _ _ _ h => h) (Or.inl ⟨by rfl, ?_⟩) ?_ ?_; rotate_left
                  · intro w'; go_simp; (with_reducible rfl)
                  rotate_left
                  · simp only [Act.put, List.setIfInBounds_toArray, List.set_cons_zero, List.set_cons_succ, i64_w, i32_w]; rfl
                  refine take_ (i := 1) (N := some 14) (v := ?_) (a' := ?_) #[true, true, false, true, false, false, false, false] rfl rfl (take_ofW HT_.out HW_.out (by kernel_rfl)) (fun _ _ _ h => h) (Or.inl ⟨by rfl, ?_⟩) hHeld ?_ ?_; rotate_left
                  · rintro w' ⟨s0, s1, s2, s3, s4, s5, s6, s7⟩; go_simp; (with_reducible rfl)
                  rotate_left
                  · simp only [Act.put, List.setIfInBounds_toArray, List.set_cons_zero, List.set_cons_succ, i64_w, i32_w]; rfl
                  refine take_ (i := 4) (N := some 17) (v := ?_) (a' := ?_) #[true, true, false, true, true, false, false, false] rfl rfl (take_ofW HT_.out HW_.out (by kernel_rfl)) (fun _ _ _ h => h) (Or.inl ⟨by rfl, ?_⟩) hHeld ?_ ?_; rotate_left
                  · rintro w' ⟨s0, s1, s2, s3, s4, s5, s6, s7⟩; go_simp; (with_reducible rfl)
                  rotate_left
                  · simp only [Act.put, List.setIfInBounds_toArray, List.set_cons_zero, List.set_cons_succ, i64_w, i32_w]; rfl
                  refine one_ (i := 2) (N := some 15) #[true, true, true, true, true, false, false, false] rfl rfl (one_of HT_.out (by kernel_rfl)) (by decide) (fun K hK => ?_); refine goes_ Tryd.func28 (by kernel_rfl) rfl #[.int .i64 a0_0] (by rfl) rfl rfl qA ?_; (with_reducible refine (impl_u8.calls k a0_0 t296 _ A4.out).mono ?_); rintro e w126 ⟨rfl, hb⟩; refine ⟨_, rfl, ?_⟩; replace BK294 := qbb BK294 hb; replace HB := qHB HB hb; (try clear hb); (try clear hb2); (try clear hk); (try clear hi); refine hK.out _ _ (qy8 BK294.out) (fun hHeld => ?_); clear hK K; refine norm_ (a' := ?_) ?_ ?_; rotate_left
                  · show Act.put _ (some 15) _ = _; simp only [Act.put, List.setIfInBounds_toArray, List.set_cons_zero, List.set_cons_succ, i64_w, i32_w]; rfl
                  refine one_ (i := 5) (N := some 18) #[true, true, true, true, true, true, false, false] rfl rfl (one_of HT_.out (by kernel_rfl)) (by decide) (fun K hK => ?_); refine goes_ Tryd.func29 (by kernel_rfl) rfl #[.string a0_1] (by rfl) rfl rfl qA ?_; (with_reducible refine (impl_s8.calls k a0_1 t297 _ A5.out).mono ?_); rintro e w127 ⟨rfl, hb⟩; refine ⟨_, rfl, ?_⟩; replace BK294 := qbb BK294 hb; replace HB := qHB HB hb; (try clear hb); (try clear hb2); (try clear hk); (try clear hi); refine hK.out _ _ (qy8 BK294.out) (fun hHeld => ?_); clear hK K; refine norm_ (a' := ?_) ?_ ?_; rotate_left
                  · show Act.put _ (some 18) _ = _; simp only [Act.put, List.setIfInBounds_toArray, List.set_cons_zero, List.set_cons_succ, i64_w, i32_w]; rfl
                  refine pure_ (i := 6) (N := some 19) (v := ?_) (a' := ?_) #[true, true, true, true, true, true, true, false] rfl rfl (any_of HT_.out (by kernel_rfl)) (fun _ _ _ h => h) (Or.inl ⟨by rfl, ?_⟩) ?_ ?_; rotate_left
                  · intro w'; go_simp; (with_reducible rfl)
                  rotate_left
                  · simp only [Act.put, List.setIfInBounds_toArray, List.set_cons_zero, List.set_cons_succ, i64_w, i32_w]; rfl
                  refine pure_ (i := 7) (N := some 3) (v := ?_) (a' := ?_) #[true, true, true, true, true, true, true, true] rfl rfl (any_of HT_.out (by kernel_rfl)) (fun _ _ _ h => h) (Or.inl ⟨by rfl, ?_⟩) ?_ ?_; rotate_left
                  · intro w'; go_simp; (with_reducible rfl)
                  rotate_left
                  · simp only [Act.put, List.setIfInBounds_toArray, List.set_cons_zero, List.set_cons_succ, i64_w, i32_w]; rfl
                  refine done_ (done_of HT_.out (by kernel_rfl)) ?_; obtain ⟨hcz128_0, hcz128_1, hcz128_2, hcz128_3, hcz128_4, hcz128_5, hcz128_6, hcz128_7⟩ := zC8 BK294.out; obtain ⟨hfz128_0, hfz128_1, hfz128_2, hfz128_3, hfz128_4, hfz128_5, hfz128_6, hfz128_7⟩ := zF8 BK294.out; (try go_wp2_with (first | ((with_reducible refine gcl (f := 28) rfl ?_); refine goesL_ (some 109) rfl rfl Tryd.func28 (by kernel_rfl) rfl #[.int .i64 (l0_7.length : Int)] rfl qA ?_; (with_reducible refine (impl_u8.calls k (l0_7.length : Int) t313 _ A120.out).mono ?_); rintro e w129 ⟨rfl, hb⟩; refine ⟨_, rfl, ?_⟩; replace BK294 := qbb BK294 hb; replace HB := qHB HB hb; (try clear hb); (try clear hb2); (try clear hk); (try clear hi); have hz130 := qz8 BK294.out))); go_loopg [3, 114] k (fun kq v3 v114 w' => ∃ (x3_1 : ByteArray) (x114_1 : Int), v3 = .string x3_1 ∧ v114 = .int .i64 x114_1 ∧ Aside0 (impl_EncodeStm.l2 kq x3_1 l0_7 (l0_7.length : Int) x114_1 a0_0 a0_1 l0_2 l0_3 a0_4 l0_5 l0_6 l0_7 = some r) ∧ Aside0 (kq ≤ k) ∧ Aside0 (w'.heap[gb294]? = some (.cells #[.int .i64 a0_0, .string a0_1, (.slice A0_2 l0_2.length c0_2), (.slice A0_3 l0_3.length c0_3), .string a0_4, (.slice A0_5 l0_5.length c0_5), (.slice A0_6 l0_6.length c0_6), (.slice A0_7 l0_7.length c0_7)] 35 (0, 0))) ∧ Aside0 (Below w.heap.size w w'))
                  case atStart => exact ⟨((t296 ++ t297) ++ t313), (0), qS, qS, H', ⟨Nat.le_refl _⟩, ⟨by (with_reducible repeat (first | refine bdN ?_ _ | refine bkD ?_ | refine bkA ?_ _)); exact BK294.out⟩, ⟨qB⟩⟩
                  case round =>
                    clear H'; (try clear c1); (try clear c2); (try clear p2); (try clear c3); (try clear c6); (try clear c7); (try clear c8); (try clear c9); (try clear c10); (try clear c11); (try clear c12); (try clear c27); (try clear c28); (try clear c29); (try clear c32); (try clear c69); (try clear c69b0); (try clear c69b1); (try clear c72); (try clear c74); (try clear c75); (try clear c99); (try clear c99b0); (try clear c99b1); (try clear c101); (try clear c101b0); (try clear c101b1); (try clear c101b2); (try clear c102); (try clear c102b0); (try clear c102b1); (try clear c119); (try clear c119b0); (try clear c119b1); (try clear c121); (try clear c121b0); (try clear c121b1); (try clear c121b2); (try clear hz104); (try clear hcz109_0); (try clear hcz109_1); (try clear hcz109_2); (try clear hcz109_3); (try clear hcz109_4); (try clear hcz109_5); (try clear hcz109_6); (try clear hcz109_7); (try clear hz112); (try clear hcz117_0); (try clear hcz117_1); (try clear hcz117_2); (try clear hcz117_3); (try clear hcz117_4); (try clear hcz117_5); (try clear hcz117_6); (try clear hcz117_7); (try clear hz123); (try clear hcz128_0); (try clear hcz128_1); (try clear hcz128_2); (try clear hcz128_3); (try clear hcz128_4); (try clear hcz128_5); (try clear hcz128_6); (try clear hcz128_7); (try clear hz130); (try clear hfz109_0); (try clear hfz109_1); (try clear hfz109_2); (try clear hfz109_3); (try clear hfz109_4); (try clear hfz109_5); (try clear hfz109_6); (try clear hfz109_7); (try clear hfz117_0); (try clear hfz117_1); (try clear hfz117_2); (try clear hfz117_3); (try clear hfz117_4); (try clear hfz117_5); (try clear hfz117_6); (try clear hfz117_7); (try clear hfz128_0); (try clear hfz128_1); (try clear hfz128_2); (try clear hfz128_3); (try clear hfz128_4); (try clear hfz128_5); (try clear hfz128_6); (try clear hfz128_7); obtain ⟨x3_1, x114_1, rfl, rfl, HA, HK1, BK294, HB⟩ := hrel
                    cases gk with
                    | zero => exact absurd HA.out (by simp [impl_EncodeStm.l2])
                    | succ k1 =>
                      have H := HA.out; clear HA; simp only [impl_EncodeStm.l2] at H; by_cases c131 : x114_1 < (l0_7.length : Int)
                      · rw [if_pos c131] at H; have c131b0 : decide (x114_1 < (l0_7.length : Int)) = true := decide_eq_true c131; clear c131; by_cases c132 : 0 ≤ x114_1
                        · rw [if_pos c132] at H; have c132b0 : decide (0 ≤ x114_1) = true := decide_eq_true c132; clear c132; by_cases c133 : x114_1 < (l0_7.length : Int)
                          · rw [if_pos c133] at H; have c133b0 : decide (x114_1 < (l0_7.length : Int)) = true := decide_eq_true c133; clear c133; replace H := Option.bind_eq_some_iff.mp H; obtain ⟨t315, A1340, H⟩ := H; have A134 := qK A1340; clear A1340; by_cases c135 : x3_1.size + t315.size ≤ 9223372036854775807
                            · rw [if_pos c135] at H; have c135b0 := eq_true c135; have c135b1 : decide (x3_1.size + t315.size ≤ 9223372036854775807) = true := decide_eq_true c135; (try have c135b2 : (9223372036854775807 < x3_1.size + t315.size) = False := eq_false (Nat.not_lt.2 c135)); have H' := qK H; clear H; have p314 : 0 ≤ (x114_1 : Int) := of_decide_eq_true qa; have q314 : x114_1 < (l0_7.length : Int) := of_decide_eq_true qa; obtain ⟨ad314, A314_0, c314_0, e314, hx314_0, hl314_0, hi314_0⟩ := at_L9 HR0_7.out x114_1 p314 q314; cases e314; replace hx314_0 := (HB.out.cell (World.block_lt_of_cell? w _ hx314_0)).trans hx314_0; have HR314_0 := qK hi314_0; have HC314_0 := qK hl314_0; clear hi314_0 hl314_0; replace p314 := eq_true p314; replace q314 := eq_true q314; go_wp2_with (first | ((with_reducible refine gcl (f := 32) rfl ?_); refine goesL_ (some 120) rfl rfl Tryd.func32 (by kernel_rfl) rfl #[.slice A314_0 (rd_L9 l0_7 x114_1).length c314_0] rfl qA ?_; (with_reducible refine (impl_expBytes.calls k1 _ _ (rd_L9 l0_7 x114_1) t315 _ ?side1 ?side2 A134.out).mono ?_); (case side1 => exact qC HR314_0); (case side2 => exact HC314_0.out); rintro e w136 ⟨rfl, hb⟩; refine ⟨_, rfl, ?_⟩; replace BK294 := qbb BK294 hb; replace HB := qHB HB hb; (try clear hb); (try clear hb2); (try clear hk); (try clear hi))); go_roundg k1
                              case measure => have := HK1.out; omega
                              case rel => exact ⟨(x3_1 ++ t315), (wrap64 (x114_1 + 1)), qS, qS, H', ⟨by have := HK1.out; omega⟩, ⟨by (with_reducible repeat (first | refine bdN ?_ _ | refine bkD ?_ | refine bkA ?_ _)); exact BK294.out⟩, ⟨qB⟩⟩
                            · rw [if_neg c135] at H; exact absurd H (by simp)
                          · rw [if_neg c133] at H; exact absurd H (by simp)
                        · rw [if_neg c132] at H; exact absurd H (by simp)
                      · rw [if_neg c131] at H; have c131b0 : decide (x114_1 < (l0_7.length : Int)) = false := decide_eq_false c131; clear c131; replace H := Option.bind_eq_some_iff.mp H; obtain ⟨t316, A1370, H⟩ := H; have A137 := qK A1370; clear A1370; by_cases c138 : x3_1.size + t316.size ≤ 9223372036854775807
                        · rw [if_pos c138] at H; have c138b0 := eq_true c138; have c138b1 : decide (x3_1.size + t316.size ≤ 9223372036854775807) = true := decide_eq_true c138; (try have c138b2 : (9223372036854775807 < x3_1.size + t316.size) = False := eq_false (Nat.not_lt.2 c138)); by_cases c139 : ((x3_1 ++ t316).size : Int) > 60000
                          · rw [if_pos c139] at H; have c139b0 : decide (60000 < ((x3_1 ++ t316).size : Int)) = true := decide_eq_true c139; (try have c139b4 := c139b0); (try simp only [ByteArray.size_append, Int.natCast_add] at c139b4); have c139b1 : decide (60000 < (x3_1 ++ t316).size) = true := decide_eq_true (by omega); clear c139; obtain rfl := Option.some.inj H; obtain ⟨hcz140_0, hcz140_1, hcz140_2, hcz140_3, hcz140_4, hcz140_5, hcz140_6, hcz140_7⟩ := zC8 BK294.out; obtain ⟨hfz140_0, hfz140_1, hfz140_2, hfz140_3, hfz140_4, hfz140_5, hfz140_6, hfz140_7⟩ := zF8 BK294.out; go_wp2_with (first | ((with_reducible refine gcl (f := 32) rfl ?_); refine goesL_ (some 126) rfl rfl Tryd.func32 (by kernel_rfl) rfl #[.slice A0_6 l0_6.length c0_6] rfl qA ?_; (with_reducible refine (impl_expBytes.calls k1 _ _ l0_6 t316 _ ?side1 ?side2 A137.out).mono ?_); (case side1 => exact qC HR0_6); (case side2 => exact HC0_6.out); rintro e w141 ⟨rfl, hb⟩; refine ⟨_, rfl, ?_⟩; replace BK294 := qbb BK294 hb; replace HB := qHB HB hb; (try clear hb); (try clear hb2); (try clear hk); (try clear hi))); go_ret; exact ⟨qR, qB⟩
                          · rw [if_neg c139] at H; have c139b0 : decide (60000 < ((x3_1 ++ t316).size : Int)) = false := decide_eq_false c139; (try have c139b4 := c139b0); (try simp only [ByteArray.size_append, Int.natCast_add] at c139b4); have c139b1 : decide (60000 < (x3_1 ++ t316).size) = false := decide_eq_false (by omega); clear c139; obtain rfl := Option.some.inj H; obtain ⟨hcz142_0, hcz142_1, hcz142_2, hcz142_3, hcz142_4, hcz142_5, hcz142_6, hcz142_7⟩ := zC8 BK294.out; obtain ⟨hfz142_0, hfz142_1, hfz142_2, hfz142_3, hfz142_4, hfz142_5, hfz142_6, hfz142_7⟩ := zF8 BK294.out; go_wp2_with (first | ((with_reducible refine gcl (f := 32) rfl ?_); refine goesL_ (some 126) rfl rfl Tryd.func32 (by kernel_rfl) rfl #[.slice A0_6 l0_6.length c0_6] rfl qA ?_; (with_reducible refine (impl_expBytes.calls k1 _ _ l0_6 t316 _ ?side1 ?side2 A137.out).mono ?_); (case side1 => exact qC HR0_6); (case side2 => exact HC0_6.out); rintro e w143 ⟨rfl, hb⟩; refine ⟨_, rfl, ?_⟩; replace BK294 := qbb BK294 hb; replace HB := qHB HB hb; (try clear hb); (try clear hb2); (try clear hk); (try clear hi))); go_ret; exact ⟨qR, qB⟩
                        · rw [if_neg c138] at H; exact absurd H (by simp)
                · rw [if_neg c121] at H; exact absurd H (by simp)
              · rw [if_neg c119] at H; have c119b0 : (a0_0 == 5) = false := beq_eq_false_iff_ne.mpr c119; have c119b1 : (a0_0 != 5) = true := bne_iff_ne.mpr c119; by_cases c144 : ((t296 ++ t297).size : Int) > 60000
                · rw [if_pos c144] at H; have c144b0 : decide (60000 < ((t296 ++ t297).size : Int)) = true := decide_eq_true c144; (try have c144b4 := c144b0); (try simp only [ByteArray.size_append, Int.natCast_add] at c144b4); have c144b1 : decide (60000 < (t296 ++ t297).size) = true := decide_eq_true (by omega); clear c144; obtain rfl := Option.some.inj H; go_enter Tryd.func8, Tryd.ntmps8; (try go_wp2_with (first | ((with_reducible refine gds (N := 1) rfl ?_); refine qbx 1 #[.int .i64 a0_0, .string a0_1, .slice A0_2 l0_2.length c0_2, .slice A0_3 l0_3.length c0_3, .string a0_4, .slice A0_5 l0_5.length c0_5, .slice A0_6 l0_6.length c0_6, .slice A0_7 l0_7.length c0_7] 35 ?_; intro gb294 hg w145 hbox hb; have BK294 := qK (hbox); have GW294 := qK ((qW : w.heap.size ≤ gb294)); have GE294 := GW294; replace HB := qHB HB hb; clear hb hbox hg; have hz146 := qz8 BK294.out) | ((with_reducible refine gcl (f := 27) rfl ?_); refine goesL_ (some 11) rfl rfl Tryd.func27 (by kernel_rfl) rfl #[.agg #[.int .i64 a0_0, .string a0_1, .slice A0_2 l0_2.length c0_2, .slice A0_3 l0_3.length c0_3, .string a0_4, .slice A0_5 l0_5.length c0_5, .slice A0_6 l0_6.length c0_6, .slice A0_7 l0_7.length c0_7]] rfl qA ?_; (with_reducible refine (impl_StmOK.calls k a0_0 a0_1 _ _ l0_2 _ _ l0_3 a0_4 _ _ l0_5 _ _ l0_6 _ _ l0_7 true _ ?side1 ?side2 ?side3 ?side4 ?side5 ?side6 ?side7 ?side8 ?side9 ?side10 ?side11 A2.out).mono ?_); (case side1 => exact GOK.below hG qB); (case side2 => exact qC HR0_2); (case side3 => exact HC0_2.out); (case side4 => exact qC HR0_3); (case side5 => exact HC0_3.out); (case side6 => exact qC HR0_5); (case side7 => exact HC0_5.out); (case side8 => exact qC HR0_6); (case side9 => exact HC0_6.out); (case side10 => exact qC HR0_7); (case side11 => exact HC0_7.out); rintro e w147 ⟨rfl, hb⟩; refine ⟨_, rfl, ?_⟩; replace BK294 := qbb BK294 hb; replace HB := qHB HB hb; (try clear hb); (try clear hb2); (try clear hk); (try clear hi)))); replace BK294 := qK (bkD BK294.out); replace HB := qK (bd1 HB.out); refine start_ (n := 8) (S := fun w' => w'.cell? ⟨gb294, 0, none⟩ = some (.int .i64 a0_0) ∧ w'.cell? ⟨gb294, 1, none⟩ = some (.string a0_1) ∧ w'.cell? ⟨gb294, 2, none⟩ = some (.slice A0_2 l0_2.length c0_2) ∧ w'.cell? ⟨gb294, 3, none⟩ = some (.slice A0_3 l0_3.length c0_3) ∧ w'.cell? ⟨gb294, 4, none⟩ = some (.string a0_4) ∧ w'.cell? ⟨gb294, 5, none⟩ = some (.slice A0_5 l0_5.length c0_5) ∧ w'.cell? ⟨gb294, 6, none⟩ = some (.slice A0_6 l0_6.length c0_6) ∧ w'.cell? ⟨gb294, 7, none⟩ = some (.slice A0_7 l0_7.length c0_7)) (ds := []) #[false, false, false, false, false, false, false, false] (by kernel_rfl) rfl rfl (qy8 BK294.out) (fun hHeld => ?_); refine with_tabW impl_EncodeStm.tab3 impl_EncodeStm.bits3 (fun HT_ HW_ => ?_); generalize w147.drew = w148 at BK294 HB hHeld ⊢; refine pure_ (i := 0) (N := some 13) (v := ?_) (a' := ?_) #[true, false, false, false, false, false, false, false] rfl rfl (any_of HT_.out (by kernel_rfl)) (fun _ _ _ h => h) (Or.inl ⟨by rfl, ?_⟩) ?_ ?_; rotate_left
                  · intro w'; go_simp; (with_reducible rfl)
                  rotate_left
                  · simp only [Act.put, List.setIfInBounds_toArray, List.set_cons_zero, List.set_cons_succ, i64_w, i32_w]; rfl
                  refine pure_ (i := 3) (N := some 16) (v := ?_) (a' := ?_) #[true, false, false, true, false, false, false, false] rfl rfl (any_of HT_.out (by kernel_rfl)) (fun _ _ _ h => h) (Or.inl ⟨by rfl, ?_⟩) ?_ ?_; rotate_left
                  · intro w'; go_simp; (with_reducible rfl)
                  rotate_left
                  · simp only [Act.put, List.setIfInBounds_toArray, List.set_cons_zero, List.set_cons_succ, i64_w, i32_w]; rfl
                  refine take_ (i := 1) (N := some 14) (v := ?_) (a' := ?_) #[true, true, false, true, false, false, false, false] rfl rfl (take_ofW HT_.out HW_.out (by kernel_rfl)) (fun _ _ _ h => h) (Or.inl ⟨by rfl, ?_⟩) hHeld ?_ ?_; rotate_left
                  · rintro w' ⟨s0, s1, s2, s3, s4, s5, s6, s7⟩; go_simp; (with_reducible rfl)
                  rotate_left
                  · simp only [Act.put, List.setIfInBounds_toArray, List.set_cons_zero, List.set_cons_succ, i64_w, i32_w]; rfl
                  refine take_ (i := 4) (N := some 17) (v := ?_) (a' := ?_) #[true, true, false, true, true, false, false, false] rfl rfl (take_ofW HT_.out HW_.out (by kernel_rfl)) (fun _ _ _ h => h) (Or.inl ⟨by rfl, ?_⟩) hHeld ?_ ?_; rotate_left
                  · rintro w' ⟨s0, s1, s2, s3, s4, s5, s6, s7⟩; go_simp; (with_reducible rfl)
                  rotate_left
                  · simp only [Act.put, List.setIfInBounds_toArray, List.set_cons_zero, List.set_cons_succ, i64_w, i32_w]; rfl
                  refine one_ (i := 2) (N := some 15) #[true, true, true, true, true, false, false, false] rfl rfl (one_of HT_.out (by kernel_rfl)) (by decide) (fun K hK => ?_); refine goes_ Tryd.func28 (by kernel_rfl) rfl #[.int .i64 a0_0] (by rfl) rfl rfl qA ?_; (with_reducible refine (impl_u8.calls k a0_0 t296 _ A4.out).mono ?_); rintro e w149 ⟨rfl, hb⟩; refine ⟨_, rfl, ?_⟩; replace BK294 := qbb BK294 hb; replace HB := qHB HB hb; (try clear hb); (try clear hb2); (try clear hk); (try clear hi); refine hK.out _ _ (qy8 BK294.out) (fun hHeld => ?_); clear hK K; refine norm_ (a' := ?_) ?_ ?_; rotate_left
                  · show Act.put _ (some 15) _ = _; simp only [Act.put, List.setIfInBounds_toArray, List.set_cons_zero, List.set_cons_succ, i64_w, i32_w]; rfl
                  refine one_ (i := 5) (N := some 18) #[true, true, true, true, true, true, false, false] rfl rfl (one_of HT_.out (by kernel_rfl)) (by decide) (fun K hK => ?_); refine goes_ Tryd.func29 (by kernel_rfl) rfl #[.string a0_1] (by rfl) rfl rfl qA ?_; (with_reducible refine (impl_s8.calls k a0_1 t297 _ A5.out).mono ?_); rintro e w150 ⟨rfl, hb⟩; refine ⟨_, rfl, ?_⟩; replace BK294 := qbb BK294 hb; replace HB := qHB HB hb; (try clear hb); (try clear hb2); (try clear hk); (try clear hi); refine hK.out _ _ (qy8 BK294.out) (fun hHeld => ?_); clear hK K; refine norm_ (a' := ?_) ?_ ?_; rotate_left
                  · show Act.put _ (some 18) _ = _; simp only [Act.put, List.setIfInBounds_toArray, List.set_cons_zero, List.set_cons_succ, i64_w, i32_w]; rfl
                  refine pure_ (i := 6) (N := some 19) (v := ?_) (a' := ?_) #[true, true, true, true, true, true, true, false] rfl rfl (any_of HT_.out (by kernel_rfl)) (fun _ _ _ h => h) (Or.inl ⟨by rfl, ?_⟩) ?_ ?_; rotate_left
                  · intro w'; go_simp; (with_reducible rfl)
                  rotate_left
                  · simp only [Act.put, List.setIfInBounds_toArray, List.set_cons_zero, List.set_cons_succ, i64_w, i32_w]; rfl
                  refine pure_ (i := 7) (N := some 3) (v := ?_) (a' := ?_) #[true, true, true, true, true, true, true, true] rfl rfl (any_of HT_.out (by kernel_rfl)) (fun _ _ _ h => h) (Or.inl ⟨by rfl, ?_⟩) ?_ ?_; rotate_left
                  · intro w'; go_simp; (with_reducible rfl)
                  rotate_left
                  · simp only [Act.put, List.setIfInBounds_toArray, List.set_cons_zero, List.set_cons_succ, i64_w, i32_w]; rfl
                  refine done_ (done_of HT_.out (by kernel_rfl)) ?_; obtain ⟨hcz151_0, hcz151_1, hcz151_2, hcz151_3, hcz151_4, hcz151_5, hcz151_6, hcz151_7⟩ := zC8 BK294.out; obtain ⟨hfz151_0, hfz151_1, hfz151_2, hfz151_3, hfz151_4, hfz151_5, hfz151_6, hfz151_7⟩ := zF8 BK294.out; (try go_wp2); go_ret; exact ⟨qR, qB⟩
                · rw [if_neg c144] at H; have c144b0 : decide (60000 < ((t296 ++ t297).size : Int)) = false := decide_eq_false c144; (try have c144b4 := c144b0); (try simp only [ByteArray.size_append, Int.natCast_add] at c144b4); have c144b1 : decide (60000 < (t296 ++ t297).size) = false := decide_eq_false (by omega); clear c144; obtain rfl := Option.some.inj H; go_enter Tryd.func8, Tryd.ntmps8; (try go_wp2_with (first | ((with_reducible refine gds (N := 1) rfl ?_); refine qbx 1 #[.int .i64 a0_0, .string a0_1, .slice A0_2 l0_2.length c0_2, .slice A0_3 l0_3.length c0_3, .string a0_4, .slice A0_5 l0_5.length c0_5, .slice A0_6 l0_6.length c0_6, .slice A0_7 l0_7.length c0_7] 35 ?_; intro gb294 hg w152 hbox hb; have BK294 := qK (hbox); have GW294 := qK ((qW : w.heap.size ≤ gb294)); have GE294 := GW294; replace HB := qHB HB hb; clear hb hbox hg; have hz153 := qz8 BK294.out) | ((with_reducible refine gcl (f := 27) rfl ?_); refine goesL_ (some 11) rfl rfl Tryd.func27 (by kernel_rfl) rfl #[.agg #[.int .i64 a0_0, .string a0_1, .slice A0_2 l0_2.length c0_2, .slice A0_3 l0_3.length c0_3, .string a0_4, .slice A0_5 l0_5.length c0_5, .slice A0_6 l0_6.length c0_6, .slice A0_7 l0_7.length c0_7]] rfl qA ?_; (with_reducible refine (impl_StmOK.calls k a0_0 a0_1 _ _ l0_2 _ _ l0_3 a0_4 _ _ l0_5 _ _ l0_6 _ _ l0_7 true _ ?side1 ?side2 ?side3 ?side4 ?side5 ?side6 ?side7 ?side8 ?side9 ?side10 ?side11 A2.out).mono ?_); (case side1 => exact GOK.below hG qB); (case side2 => exact qC HR0_2); (case side3 => exact HC0_2.out); (case side4 => exact qC HR0_3); (case side5 => exact HC0_3.out); (case side6 => exact qC HR0_5); (case side7 => exact HC0_5.out); (case side8 => exact qC HR0_6); (case side9 => exact HC0_6.out); (case side10 => exact qC HR0_7); (case side11 => exact HC0_7.out); rintro e w154 ⟨rfl, hb⟩; refine ⟨_, rfl, ?_⟩; replace BK294 := qbb BK294 hb; replace HB := qHB HB hb; (try clear hb); (try clear hb2); (try clear hk); (try clear hi)))); replace BK294 := qK (bkD BK294.out); replace HB := qK (bd1 HB.out); refine start_ (n := 8) (S := fun w' => w'.cell? ⟨gb294, 0, none⟩ = some (.int .i64 a0_0) ∧ w'.cell? ⟨gb294, 1, none⟩ = some (.string a0_1) ∧ w'.cell? ⟨gb294, 2, none⟩ = some (.slice A0_2 l0_2.length c0_2) ∧ w'.cell? ⟨gb294, 3, none⟩ = some (.slice A0_3 l0_3.length c0_3) ∧ w'.cell? ⟨gb294, 4, none⟩ = some (.string a0_4) ∧ w'.cell? ⟨gb294, 5, none⟩ = some (.slice A0_5 l0_5.length c0_5) ∧ w'.cell? ⟨gb294, 6, none⟩ = some (.slice A0_6 l0_6.length c0_6) ∧ w'.cell? ⟨gb294, 7, none⟩ = some (.slice A0_7 l0_7.length c0_7)) (ds := []) #[false, false, false, false, false, false, false, false] (by kernel_rfl) rfl rfl (qy8 BK294.out) (fun hHeld => ?_); refine with_tabW impl_EncodeStm.tab3 impl_EncodeStm.bits3 (fun HT_ HW_ => ?_); generalize w154.drew = w155 at BK294 HB hHeld ⊢; refine pure_ (i := 0) (N := some 13) (v := ?_) (a' := ?_) #[true, false, false, false, false, false, false, false] rfl rfl (any_of HT_.out (by kernel_rfl)) (fun _ _ _ h => h) (Or.inl ⟨by rfl, ?_⟩) ?_ ?_; rotate_left
                  · intro w'; go_simp; (with_reducible rfl)
                  rotate_left
                  · simp only [Act.put, List.setIfInBounds_toArray, List.set_cons_zero, List.set_cons_succ, i64_w, i32_w]; rfl
                  refine pure_ (i := 3) (N := some 16) (v := ?_) (a' := ?_) #[true, false, false, true, false, false, false, false] rfl rfl (any_of HT_.out (by kernel_rfl)) (fun _ _ _ h => h) (Or.inl ⟨by rfl, ?_⟩) ?_ ?_; rotate_left
                  · intro w'; go_simp; (with_reducible rfl)
                  rotate_left
                  · simp only [Act.put, List.setIfInBounds_toArray, List.set_cons_zero, List.set_cons_succ, i64_w, i32_w]; rfl
                  refine take_ (i := 1) (N := some 14) (v := ?_) (a' := ?_) #[true, true, false, true, false, false, false, false] rfl rfl (take_ofW HT_.out HW_.out (by kernel_rfl)) (fun _ _ _ h => h) (Or.inl ⟨by rfl, ?_⟩) hHeld ?_ ?_; rotate_left
                  · rintro w' ⟨s0, s1, s2, s3, s4, s5, s6, s7⟩; go_simp; (with_reducible rfl)
                  rotate_left
                  · simp only [Act.put, List.setIfInBounds_toArray, List.set_cons_zero, List.set_cons_succ, i64_w, i32_w]; rfl
                  refine take_ (i := 4) (N := some 17) (v := ?_) (a' := ?_) #[true, true, false, true, true, false, false, false] rfl rfl (take_ofW HT_.out HW_.out (by kernel_rfl)) (fun _ _ _ h => h) (Or.inl ⟨by rfl, ?_⟩) hHeld ?_ ?_; rotate_left
                  · rintro w' ⟨s0, s1, s2, s3, s4, s5, s6, s7⟩; go_simp; (with_reducible rfl)
                  rotate_left
                  · simp only [Act.put, List.setIfInBounds_toArray, List.set_cons_zero, List.set_cons_succ, i64_w, i32_w]; rfl
                  refine one_ (i := 2) (N := some 15) #[true, true, true, true, true, false, false, false] rfl rfl (one_of HT_.out (by kernel_rfl)) (by decide) (fun K hK => ?_); refine goes_ Tryd.func28 (by kernel_rfl) rfl #[.int .i64 a0_0] (by rfl) rfl rfl qA ?_; (with_reducible refine (impl_u8.calls k a0_0 t296 _ A4.out).mono ?_); rintro e w156 ⟨rfl, hb⟩; refine ⟨_, rfl, ?_⟩; replace BK294 := qbb BK294 hb; replace HB := qHB HB hb; (try clear hb); (try clear hb2); (try clear hk); (try clear hi); refine hK.out _ _ (qy8 BK294.out) (fun hHeld => ?_); clear hK K; refine norm_ (a' := ?_) ?_ ?_; rotate_left
                  · show Act.put _ (some 15) _ = _; simp only [Act.put, List.setIfInBounds_toArray, List.set_cons_zero, List.set_cons_succ, i64_w, i32_w]; rfl
                  refine one_ (i := 5) (N := some 18) #[true, true, true, true, true, true, false, false] rfl rfl (one_of HT_.out (by kernel_rfl)) (by decide) (fun K hK => ?_); refine goes_ Tryd.func29 (by kernel_rfl) rfl #[.string a0_1] (by rfl) rfl rfl qA ?_; (with_reducible refine (impl_s8.calls k a0_1 t297 _ A5.out).mono ?_); rintro e w157 ⟨rfl, hb⟩; refine ⟨_, rfl, ?_⟩; replace BK294 := qbb BK294 hb; replace HB := qHB HB hb; (try clear hb); (try clear hb2); (try clear hk); (try clear hi); refine hK.out _ _ (qy8 BK294.out) (fun hHeld => ?_); clear hK K; refine norm_ (a' := ?_) ?_ ?_; rotate_left
                  · show Act.put _ (some 18) _ = _; simp only [Act.put, List.setIfInBounds_toArray, List.set_cons_zero, List.set_cons_succ, i64_w, i32_w]; rfl
                  refine pure_ (i := 6) (N := some 19) (v := ?_) (a' := ?_) #[true, true, true, true, true, true, true, false] rfl rfl (any_of HT_.out (by kernel_rfl)) (fun _ _ _ h => h) (Or.inl ⟨by rfl, ?_⟩) ?_ ?_; rotate_left
                  · intro w'; go_simp; (with_reducible rfl)
                  rotate_left
                  · simp only [Act.put, List.setIfInBounds_toArray, List.set_cons_zero, List.set_cons_succ, i64_w, i32_w]; rfl
                  refine pure_ (i := 7) (N := some 3) (v := ?_) (a' := ?_) #[true, true, true, true, true, true, true, true] rfl rfl (any_of HT_.out (by kernel_rfl)) (fun _ _ _ h => h) (Or.inl ⟨by rfl, ?_⟩) ?_ ?_; rotate_left
                  · intro w'; go_simp; (with_reducible rfl)
                  rotate_left
                  · simp only [Act.put, List.setIfInBounds_toArray, List.set_cons_zero, List.set_cons_succ, i64_w, i32_w]; rfl
                  refine done_ (done_of HT_.out (by kernel_rfl)) ?_; obtain ⟨hcz158_0, hcz158_1, hcz158_2, hcz158_3, hcz158_4, hcz158_5, hcz158_6, hcz158_7⟩ := zC8 BK294.out; obtain ⟨hfz158_0, hfz158_1, hfz158_2, hfz158_3, hfz158_4, hfz158_5, hfz158_6, hfz158_7⟩ := zF8 BK294.out; (try go_wp2); go_ret; exact ⟨qR, qB⟩
    · rw [if_neg c6] at H; exact absurd H (by simp)
  · replace c3 := Bool.eq_false_iff.mpr c3; subst c3; rw [if_neg qff] at H; obtain rfl := Option.some.inj H; go_enter Tryd.func8, Tryd.ntmps8; go_wp2_with (first | ((with_reducible refine gds (N := 1) rfl ?_); refine qbx 1 #[.int .i64 a0_0, .string a0_1, .slice A0_2 l0_2.length c0_2, .slice A0_3 l0_3.length c0_3, .string a0_4, .slice A0_5 l0_5.length c0_5, .slice A0_6 l0_6.length c0_6, .slice A0_7 l0_7.length c0_7] 35 ?_; intro gb294 hg w159 hbox hb; have BK294 := qK (hbox); have GW294 := qK ((qW : w.heap.size ≤ gb294)); have GE294 := GW294; replace HB := qHB HB hb; clear hb hbox hg; have hz160 := qz8 BK294.out) | ((with_reducible refine gcl (f := 27) rfl ?_); refine goesL_ (some 11) rfl rfl Tryd.func27 (by kernel_rfl) rfl #[.agg #[.int .i64 a0_0, .string a0_1, .slice A0_2 l0_2.length c0_2, .slice A0_3 l0_3.length c0_3, .string a0_4, .slice A0_5 l0_5.length c0_5, .slice A0_6 l0_6.length c0_6, .slice A0_7 l0_7.length c0_7]] rfl qA ?_; (with_reducible refine (impl_StmOK.calls k a0_0 a0_1 _ _ l0_2 _ _ l0_3 a0_4 _ _ l0_5 _ _ l0_6 _ _ l0_7 false _ ?side1 ?side2 ?side3 ?side4 ?side5 ?side6 ?side7 ?side8 ?side9 ?side10 ?side11 A2.out).mono ?_); (case side1 => exact GOK.below hG qB); (case side2 => exact qC HR0_2); (case side3 => exact HC0_2.out); (case side4 => exact qC HR0_3); (case side5 => exact HC0_3.out); (case side6 => exact qC HR0_5); (case side7 => exact HC0_5.out); (case side8 => exact qC HR0_6); (case side9 => exact HC0_6.out); (case side10 => exact qC HR0_7); (case side11 => exact HC0_7.out); rintro e w161 ⟨rfl, hb⟩; refine ⟨_, rfl, ?_⟩; replace BK294 := qbb BK294 hb; replace HB := qHB HB hb; (try clear hb); (try clear hb2); (try clear hk); (try clear hi))); go_ret; exact ⟨qR, qB⟩
end Go.Proofs.YtjihphegmdfpfaaDoor.L
end
section
namespace Go.Proofs.YtjihphegmdfpfaaDoor.L
open Go.RowKit Go.Proofs.YtjihphegmdfpfaaDoorW.PrintWords Go.Proofs.YtjihphegmdfpfaaDoorW.PrintLast Go.Proofs.YtjihphegmdfpfaaDoorW.PrintMore
attribute [local go_sem] max2_int min2_int max_two min_two max_three min_three max_four min_four
set_option linter.unusedVariables false
set_option linter.unusedSimpArgs false
def laws_eqColumn.f (a0_0 : ByteArray) (a0_1 : Int) (a1_0 : ByteArray) (a1_1 : Int) : Option (Bool) := if a0_0.toList = a1_0.toList then (if a0_1 = a1_1 then (some true) else (some false)) else (some false)
set_option maxHeartbeats 8000000 in
set_option maxRecDepth 100000 in
theorem laws_eqColumn.calls (a0_0 : ByteArray) (a0_1 : Int) (a1_0 : ByteArray) (a1_1 : Int) (r : Bool) (w : World) (h : laws_eqColumn.f a0_0 a0_1 a1_0 a1_1 = some r) :
    Calls Tryd.prog 67 #[.agg #[.string a0_0, .int .i64 a0_1], .agg #[.string a1_0, .int .i64 a1_1]] w fun e w' => e = .returned (.bool r) ∧ Below w.heap.size w w' := by
  have hu51 := Tryd.underlying51; have HB := qK (Below.refl w.heap.size w); have H : (if a0_0.toList = a1_0.toList then (if a0_1 = a1_1 then (some true) else (some false)) else (some false)) = some r := h; clear h; by_cases c3 : a0_0.toList = a1_0.toList
  · rw [if_pos c3] at H; have c3b0 : (a0_0.toList == a1_0.toList) = true := beq_iff_eq.mpr c3; have c3b1 : (a0_0.toList != a1_0.toList) = false := bne_eq_false_iff_eq.mpr c3; clear c3; by_cases c4 : a0_1 = a1_1
    · rw [if_pos c4] at H; have c4b0 : (a0_1 == a1_1) = true := beq_iff_eq.mpr c4; have c4b1 : (a0_1 != a1_1) = false := bne_eq_false_iff_eq.mpr c4; clear c4; obtain rfl := Option.some.inj H; go_enter Tryd.func67, Tryd.ntmps67; go_wp2_with (first | ((with_reducible refine gds (N := 2) rfl ?_); refine qbx 2 #[.string a0_0, .int .i64 a0_1] 51 ?_; intro gb317 hg w5 hbox hb; have BK317 := qK (hbox); have GW317 := qK ((qW : w.heap.size ≤ gb317)); have GE317 := GW317; replace HB := qHB HB hb; clear hb hbox hg) | ((with_reducible refine gds (N := 3) rfl ?_); refine qbx 3 #[.string a1_0, .int .i64 a1_1] 51 ?_; intro gb318 hg w6 hbox hb; have BK318 := qK (hbox); have GW318 := qK ((qW : w.heap.size ≤ gb318)); have GE318 := GW318; replace HB := qHB HB hb; have NB317_318 := qK (qlt BK317 hg); have NB318_317 := qK (qgt BK317 hg); replace BK317 := qbb BK317 hb; clear hb hbox hg; have hnb7 := NB317_318.out; have hnc7 := NB318_317.out; have hz8 := qz2 BK317.out; have hz9 := qz2 BK318.out)); go_ret; exact ⟨qR, qB⟩
    · rw [if_neg c4] at H; have c4b0 : (a0_1 == a1_1) = false := beq_eq_false_iff_ne.mpr c4; have c4b1 : (a0_1 != a1_1) = true := bne_iff_ne.mpr c4; obtain rfl := Option.some.inj H; go_enter Tryd.func67, Tryd.ntmps67; go_wp2_with (first | ((with_reducible refine gds (N := 2) rfl ?_); refine qbx 2 #[.string a0_0, .int .i64 a0_1] 51 ?_; intro gb317 hg w10 hbox hb; have BK317 := qK (hbox); have GW317 := qK ((qW : w.heap.size ≤ gb317)); have GE317 := GW317; replace HB := qHB HB hb; clear hb hbox hg) | ((with_reducible refine gds (N := 3) rfl ?_); refine qbx 3 #[.string a1_0, .int .i64 a1_1] 51 ?_; intro gb318 hg w11 hbox hb; have BK318 := qK (hbox); have GW318 := qK ((qW : w.heap.size ≤ gb318)); have GE318 := GW318; replace HB := qHB HB hb; have NB317_318 := qK (qlt BK317 hg); have NB318_317 := qK (qgt BK317 hg); replace BK317 := qbb BK317 hb; clear hb hbox hg; have hnb12 := NB317_318.out; have hnc12 := NB318_317.out; have hz13 := qz2 BK317.out; have hz14 := qz2 BK318.out)); go_ret; exact ⟨qR, qB⟩
  · rw [if_neg c3] at H; have c3b0 : (a0_0.toList == a1_0.toList) = false := beq_eq_false_iff_ne.mpr c3; have c3b1 : (a0_0.toList != a1_0.toList) = true := bne_iff_ne.mpr c3; obtain rfl := Option.some.inj H; go_enter Tryd.func67, Tryd.ntmps67; go_wp2_with (first | ((with_reducible refine gds (N := 2) rfl ?_); refine qbx 2 #[.string a0_0, .int .i64 a0_1] 51 ?_; intro gb317 hg w15 hbox hb; have BK317 := qK (hbox); have GW317 := qK ((qW : w.heap.size ≤ gb317)); have GE317 := GW317; replace HB := qHB HB hb; clear hb hbox hg) | ((with_reducible refine gds (N := 3) rfl ?_); refine qbx 3 #[.string a1_0, .int .i64 a1_1] 51 ?_; intro gb318 hg w16 hbox hb; have BK318 := qK (hbox); have GW318 := qK ((qW : w.heap.size ≤ gb318)); have GE318 := GW318; replace HB := qHB HB hb; have NB317_318 := qK (qlt BK317 hg); have NB318_317 := qK (qgt BK317 hg); replace BK317 := qbb BK317 hb; clear hb hbox hg; have hnb17 := NB317_318.out; have hnc17 := NB318_317.out; have hz18 := qz2 BK317.out; have hz19 := qz2 BK318.out)); go_ret; exact ⟨qR, qB⟩
def laws_eqColumnS.l0 : Nat → List (S51) → List (S51) → Int → Option (Bool)
  | 0, _, _, _ => none
  | k + 1, x0, x1, x5 => if x5 < (x0.length : Int) then (if 0 ≤ x5 then (if x5 < (x1.length : Int) then ((laws_eqColumn.f ((rd_T51 x0 x5).f0) ((rd_T51 x0 x5).f1) ((rd_T51 x1 x5).f0) ((rd_T51 x1 x5).f1)).bind fun t321 => (if t321 = true then (laws_eqColumnS.l0 k x0 x1 (wrap64 (x5 + 1))) else (some false))) else (none)) else (none)) else (some true)
def laws_eqColumnS.f (k : Nat) (l0 : List (S51)) (l1 : List (S51)) : Option (Bool) := if (l0.length : Int) = (l1.length : Int) then (laws_eqColumnS.l0 k l0 l1 0) else (some false)
theorem laws_eqColumnS.mono_l : ∀ k, (∀ y0 y1 y2, LeO (laws_eqColumnS.l0 k y0 y1 y2) (laws_eqColumnS.l0 (k + 1) y0 y1 y2))
  | 0 => fun _ _ _ r h => by simp [laws_eqColumnS.l0] at h
  | k + 1 => by
    have ih0 := laws_eqColumnS.mono_l k
    · intro y0 y1 y2
      unfold laws_eqColumnS.l0
      repeat' first
      | (with_reducible exact ih0 _ _ _)
      | (with_reducible exact LeO.refl _)
      | (with_reducible exact LeO.none _)
      | (with_reducible refine LeO.ite ?_ ?_)
      | (with_reducible refine LeO.bind ?_ (fun _ => ?_))
      | exact ih0 _ _ _
      | exact LeO.none _
      | refine LeO.ite ?_ ?_
      | refine LeO.bind ?_ (fun _ => ?_)
theorem laws_eqColumnS.mono : ∀ a0 a1 k, LeO (laws_eqColumnS.f k a0 a1) (laws_eqColumnS.f (k + 1) a0 a1) := by
  intro a0 a1 k
  have ih0 := laws_eqColumnS.mono_l k
  unfold laws_eqColumnS.f
  repeat' first
      | (with_reducible exact ih0 _ _ _)
      | (with_reducible exact LeO.refl _)
      | (with_reducible exact LeO.none _)
      | (with_reducible refine LeO.ite ?_ ?_)
      | (with_reducible refine LeO.bind ?_ (fun _ => ?_))
      | exact ih0 _ _ _
      | exact LeO.none _
      | refine LeO.ite ?_ ?_
      | refine LeO.bind ?_ (fun _ => ?_)
def laws_eqColumnS.T6 : Bool × List (List Nat × List Nat) := (true, [([], []), ([], []), ([0, 1], [0, 1]), ([2], [2]), ([], []), ([], []), ([4, 5], [4, 5]), ([6], [6]), ([3, 7], [3, 7]), ([8], [8])])
def laws_eqColumnS.B6 : List Nat := [0, 0, 3, 7, 0, 0, 48, 112, 255, 511]
theorem laws_eqColumnS.tab6 : rtab .any (opsOf Tryd.f33 6) = laws_eqColumnS.T6 := by kernel_rfl
theorem laws_eqColumnS.bits6 : waitsOk laws_eqColumnS.T6.2 laws_eqColumnS.B6 = true := by kernel_rfl
set_option maxHeartbeats 8000000 in
set_option maxRecDepth 100000 in
theorem laws_eqColumnS.calls (k : Nat) (A0 : Option Addr) (c0 : Nat) (l0 : List (S51)) (A1 : Option Addr) (c1 : Nat) (l1 : List (S51)) (r : Bool) (w : World) (hr0 : Kd.C k51 w A0 l0.length l0) (hc0 : l0.length ≤ c0) (hr1 : Kd.C k51 w A1 l1.length l1) (hc1 : l1.length ≤ c1) (h : laws_eqColumnS.f k l0 l1 = some r) :
    Calls Tryd.prog 33 #[.slice A0 l0.length c0, .slice A1 l1.length c1] w fun e w' => e = .returned (.bool r) ∧ Below w.heap.size w w' := by
  have hu51 := Tryd.underlying51; have HR0 := qK hr0; have HC0 := qK hc0; clear hr0 hc0; have HR1 := qK hr1; have HC1 := qK hc1; clear hr1 hc1; have HB := qK (Below.refl w.heap.size w); have H : (if (l0.length : Int) = (l1.length : Int) then (laws_eqColumnS.l0 k l0 l1 0) else (some false)) = some r := h; clear h; by_cases c3 : (l0.length : Int) = (l1.length : Int)
  · rw [if_pos c3] at H; have c3b0 : ((l0.length : Int) == (l1.length : Int)) = true := beq_iff_eq.mpr c3; have c3b1 : ((l0.length : Int) != (l1.length : Int)) = false := bne_eq_false_iff_eq.mpr c3; (have c3b2 : (l0.length == l1.length) = true := by first | simpa using c3 | (simp at c3 ⊢; omega)); clear c3; have H' := qK H; clear H; go_enter Tryd.func33, Tryd.ntmps33; go_wp2; go_loopg [5] k (fun kq v5 w' => ∃ (x5_1 : Int), v5 = .int .i64 x5_1 ∧ Aside0 (laws_eqColumnS.l0 kq l0 l1 x5_1 = some r) ∧ Aside0 (kq ≤ k) ∧ Aside0 (Below w.heap.size w w'))
    case atStart => exact ⟨(0), qS, H', ⟨Nat.le_refl _⟩, ⟨qB⟩⟩
    case round =>
      clear H'; (try clear c1); (try clear p2); (try clear c3); (try clear c3b0); (try clear c3b1); (try clear c3b2); obtain ⟨x5_1, rfl, HA, HK1, HB⟩ := hrel
      cases gk with
      | zero => exact absurd HA.out (by simp [laws_eqColumnS.l0])
      | succ k1 =>
        have H := HA.out; clear HA; simp only [laws_eqColumnS.l0] at H; by_cases c4 : x5_1 < (l0.length : Int)
        · rw [if_pos c4] at H; have c4b0 : decide (x5_1 < (l0.length : Int)) = true := decide_eq_true c4; clear c4; by_cases c5 : 0 ≤ x5_1
          · rw [if_pos c5] at H; have c5b0 : decide (0 ≤ x5_1) = true := decide_eq_true c5; clear c5; by_cases c6 : x5_1 < (l1.length : Int)
            · rw [if_pos c6] at H; have c6b0 : decide (x5_1 < (l1.length : Int)) = true := decide_eq_true c6; clear c6; replace H := Option.bind_eq_some_iff.mp H; obtain ⟨t321, A70, H⟩ := H; have A7 := qK A70; clear A70; by_cases c8 : t321 = true
              · subst c8; rw [if_pos rfl] at H; have H' := qK H; clear H; (try go_wp2); replace HB := qK (bd1 HB.out); have p319 : 0 ≤ (x5_1 : Int) := of_decide_eq_true qa; have q319 : x5_1 < (l0.length : Int) := of_decide_eq_true qa; obtain ⟨ad319, e319, hx319_0, hx319_1⟩ := at_T51 HR0.out x5_1 p319 q319; have hw319_1 := hx319_1; have hw319_0 := hx319_0; cases e319; replace hx319_0 := (HB.out.cell (World.block_lt_of_cell? w _ hx319_0)).trans hx319_0; replace hx319_1 := (HB.out.cell (World.block_lt_of_cell? w _ hx319_1)).trans hx319_1; replace p319 := eq_true p319; replace q319 := eq_true q319; have p320 : 0 ≤ (x5_1 : Int) := of_decide_eq_true qa; have q320 : x5_1 < (l1.length : Int) := of_decide_eq_true qa; obtain ⟨ad320, e320, hx320_0, hx320_1⟩ := at_T51 HR1.out x5_1 p320 q320; have hw320_1 := hx320_1; have hw320_0 := hx320_0; cases e320; replace hx320_0 := (HB.out.cell (World.block_lt_of_cell? w _ hx320_0)).trans hx320_0; replace hx320_1 := (HB.out.cell (World.block_lt_of_cell? w _ hx320_1)).trans hx320_1; replace p320 := eq_true p320; replace q320 := eq_true q320; refine start_ (n := 10) (S := fun w' => w'.cell? (ad319.add ((x5_1).toNat * 2)) = some (.string ((rd_T51 l0 x5_1).f0)) ∧ w'.cell? ⟨(ad319.add ((x5_1).toNat * 2)).block, (ad319.add ((x5_1).toNat * 2)).off + 1, none⟩ = some (.int .i64 ((rd_T51 l0 x5_1).f1)) ∧ w'.cell? (ad320.add ((x5_1).toNat * 2)) = some (.string ((rd_T51 l1 x5_1).f0)) ∧ w'.cell? ⟨(ad320.add ((x5_1).toNat * 2)).block, (ad320.add ((x5_1).toNat * 2)).off + 1, none⟩ = some (.int .i64 ((rd_T51 l1 x5_1).f1))) (ds := []) #[false, false, false, false, false, false, false, false, false, false] (by kernel_rfl) rfl rfl ⟨((HB.out.cell (World.block_lt_of_cell? w _ hw319_0)).trans hw319_0), ((HB.out.cell (World.block_lt_of_cell? w _ hw319_1)).trans hw319_1), ((HB.out.cell (World.block_lt_of_cell? w _ hw320_0)).trans hw320_0), ((HB.out.cell (World.block_lt_of_cell? w _ hw320_1)).trans hw320_1)⟩ (fun hHeld => ?_); refine with_tabW laws_eqColumnS.tab6 laws_eqColumnS.bits6 (fun HT_ HW_ => ?_); generalize wr.drew = w9 at HB hx319_0 hx319_1 hx320_0 hx320_1 hHeld ⊢; refine pure_ (i := 0) (N := some 17) (v := ?_) (a' := ?_) #[true, false, false, false, false, false, false, false, false, false] rfl rfl (any_of HT_.out (by kernel_rfl)) (fun _ _ _ h => h) (Or.inl ⟨by rfl, ?_⟩) ?_ ?_; rotate_left
                · intro w'; go_simp; (with_reducible rfl)
                rotate_left
                · simp only [Act.put, List.setIfInBounds_toArray, List.set_cons_zero, List.set_cons_succ, i64_w, i32_w]; rfl
                refine pure_ (i := 1) (N := some 18) (v := ?_) (a' := ?_) #[true, true, false, false, false, false, false, false, false, false] rfl rfl (any_of HT_.out (by kernel_rfl)) (fun _ _ _ h => h) (Or.inl ⟨by rfl, ?_⟩) ?_ ?_; rotate_left
                · intro w'; go_simp; (with_reducible rfl)
                rotate_left
                · simp only [Act.put, List.setIfInBounds_toArray, List.set_cons_zero, List.set_cons_succ, i64_w, i32_w]; rfl
                refine pure_ (i := 2) (N := some 19) (v := ?_) (a' := ?_) #[true, true, true, false, false, false, false, false, false, false] rfl rfl (any_of HT_.out (by kernel_rfl)) (fun _ _ _ h => h) (Or.inl ⟨by rfl, ?_⟩) ?_ ?_; rotate_left
                · intro w'; go_simp; (with_reducible rfl)
                rotate_left
                · simp only [Act.put, List.setIfInBounds_toArray, List.set_cons_zero, List.set_cons_succ, i64_w, i32_w]; rfl
                refine pure_ (i := 4) (N := some 21) (v := ?_) (a' := ?_) #[true, true, true, false, true, false, false, false, false, false] rfl rfl (any_of HT_.out (by kernel_rfl)) (fun _ _ _ h => h) (Or.inl ⟨by rfl, ?_⟩) ?_ ?_; rotate_left
                · intro w'; go_simp; (with_reducible rfl)
                rotate_left
                · simp only [Act.put, List.setIfInBounds_toArray, List.set_cons_zero, List.set_cons_succ, i64_w, i32_w]; rfl
                refine pure_ (i := 5) (N := some 22) (v := ?_) (a' := ?_) #[true, true, true, false, true, true, false, false, false, false] rfl rfl (any_of HT_.out (by kernel_rfl)) (fun _ _ _ h => h) (Or.inl ⟨by rfl, ?_⟩) ?_ ?_; rotate_left
                · intro w'; go_simp; (with_reducible rfl)
                rotate_left
                · simp only [Act.put, List.setIfInBounds_toArray, List.set_cons_zero, List.set_cons_succ, i64_w, i32_w]; rfl
                refine pure_ (i := 6) (N := some 23) (v := ?_) (a' := ?_) #[true, true, true, false, true, true, true, false, false, false] rfl rfl (any_of HT_.out (by kernel_rfl)) (fun _ _ _ h => h) (Or.inl ⟨by rfl, ?_⟩) ?_ ?_; rotate_left
                · intro w'; go_simp; (with_reducible rfl)
                rotate_left
                · simp only [Act.put, List.setIfInBounds_toArray, List.set_cons_zero, List.set_cons_succ, i64_w, i32_w]; rfl
                refine take_ (i := 3) (N := some 20) (v := ?_) (a' := ?_) #[true, true, true, true, true, true, true, false, false, false] rfl rfl (take_ofW HT_.out HW_.out (by kernel_rfl)) (fun _ _ _ h => h) (Or.inl ⟨by rfl, ?_⟩) hHeld ?_ ?_; rotate_left
                · rintro w' ⟨s0, s1, s2, s3⟩; go_simp; (with_reducible rfl)
                rotate_left
                · simp only [Act.put, List.setIfInBounds_toArray, List.set_cons_zero, List.set_cons_succ, i64_w, i32_w]; rfl
                refine take_ (i := 7) (N := some 24) (v := ?_) (a' := ?_) #[true, true, true, true, true, true, true, true, false, false] rfl rfl (take_ofW HT_.out HW_.out (by kernel_rfl)) (fun _ _ _ h => h) (Or.inl ⟨by rfl, ?_⟩) hHeld ?_ ?_; rotate_left
                · rintro w' ⟨s0, s1, s2, s3⟩; go_simp; (with_reducible rfl)
                rotate_left
                · simp only [Act.put, List.setIfInBounds_toArray, List.set_cons_zero, List.set_cons_succ, i64_w, i32_w]; rfl
                refine one_ (i := 8) (N := some 25) #[true, true, true, true, true, true, true, true, true, false] rfl rfl (one_of HT_.out (by kernel_rfl)) (by decide) (fun K hK => ?_); refine goes_ Tryd.func67 (by kernel_rfl) rfl #[.agg #[.string ((rd_T51 l0 x5_1).f0), .int .i64 ((rd_T51 l0 x5_1).f1)], .agg #[.string ((rd_T51 l1 x5_1).f0), .int .i64 ((rd_T51 l1 x5_1).f1)]] (by rfl) rfl rfl qA ?_; (with_reducible refine (laws_eqColumn.calls ((rd_T51 l0 x5_1).f0) ((rd_T51 l0 x5_1).f1) ((rd_T51 l1 x5_1).f0) ((rd_T51 l1 x5_1).f1) true _ A7.out).mono ?_); rintro e w10 ⟨rfl, hb⟩; refine ⟨_, rfl, ?_⟩; replace HB := qHB HB hb; (try clear hb); (try clear hb2); (try clear hk); (try clear hi); refine hK.out _ _ ⟨((HB.out.cell (World.block_lt_of_cell? w _ hw319_0)).trans hw319_0), ((HB.out.cell (World.block_lt_of_cell? w _ hw319_1)).trans hw319_1), ((HB.out.cell (World.block_lt_of_cell? w _ hw320_0)).trans hw320_0), ((HB.out.cell (World.block_lt_of_cell? w _ hw320_1)).trans hw320_1)⟩ (fun hHeld => ?_); clear hK K; refine norm_ (a' := ?_) ?_ ?_; rotate_left
                · show Act.put _ (some 25) _ = _; simp only [Act.put, List.setIfInBounds_toArray, List.set_cons_zero, List.set_cons_succ, i64_w, i32_w]; rfl
                refine pure_ (i := 9) (N := some 26) (v := ?_) (a' := ?_) #[true, true, true, true, true, true, true, true, true, true] rfl rfl (any_of HT_.out (by kernel_rfl)) (fun _ _ _ h => h) (Or.inl ⟨by rfl, ?_⟩) ?_ ?_; rotate_left
                · intro w'; go_simp; (with_reducible rfl)
                rotate_left
                · simp only [Act.put, List.setIfInBounds_toArray, List.set_cons_zero, List.set_cons_succ, i64_w, i32_w]; rfl
                refine done_ (done_of HT_.out (by kernel_rfl)) ?_; (try go_wp2); go_roundg k1
                case measure => have := HK1.out; omega
                case rel => exact ⟨(wrap64 (x5_1 + 1)), qS, H', ⟨by have := HK1.out; omega⟩, ⟨qB⟩⟩
              · replace c8 := Bool.eq_false_iff.mpr c8; subst c8; rw [if_neg qff] at H; obtain rfl := Option.some.inj H; (try go_wp2); replace HB := qK (bd1 HB.out); have p319 : 0 ≤ (x5_1 : Int) := of_decide_eq_true qa; have q319 : x5_1 < (l0.length : Int) := of_decide_eq_true qa; obtain ⟨ad319, e319, hx319_0, hx319_1⟩ := at_T51 HR0.out x5_1 p319 q319; have hw319_1 := hx319_1; have hw319_0 := hx319_0; cases e319; replace hx319_0 := (HB.out.cell (World.block_lt_of_cell? w _ hx319_0)).trans hx319_0; replace hx319_1 := (HB.out.cell (World.block_lt_of_cell? w _ hx319_1)).trans hx319_1; replace p319 := eq_true p319; replace q319 := eq_true q319; have p320 : 0 ≤ (x5_1 : Int) := of_decide_eq_true qa; have q320 : x5_1 < (l1.length : Int) := of_decide_eq_true qa; obtain ⟨ad320, e320, hx320_0, hx320_1⟩ := at_T51 HR1.out x5_1 p320 q320; have hw320_1 := hx320_1; have hw320_0 := hx320_0; cases e320; replace hx320_0 := (HB.out.cell (World.block_lt_of_cell? w _ hx320_0)).trans hx320_0; replace hx320_1 := (HB.out.cell (World.block_lt_of_cell? w _ hx320_1)).trans hx320_1; replace p320 := eq_true p320; replace q320 := eq_true q320; refine start_ (n := 10) (S := fun w' => w'.cell? (ad319.add ((x5_1).toNat * 2)) = some (.string ((rd_T51 l0 x5_1).f0)) ∧ w'.cell? ⟨(ad319.add ((x5_1).toNat * 2)).block, (ad319.add ((x5_1).toNat * 2)).off + 1, none⟩ = some (.int .i64 ((rd_T51 l0 x5_1).f1)) ∧ w'.cell? (ad320.add ((x5_1).toNat * 2)) = some (.string ((rd_T51 l1 x5_1).f0)) ∧ w'.cell? ⟨(ad320.add ((x5_1).toNat * 2)).block, (ad320.add ((x5_1).toNat * 2)).off + 1, none⟩ = some (.int .i64 ((rd_T51 l1 x5_1).f1))) (ds := []) #[false, false, false, false, false, false, false, false, false, false] (by kernel_rfl) rfl rfl ⟨((HB.out.cell (World.block_lt_of_cell? w _ hw319_0)).trans hw319_0), ((HB.out.cell (World.block_lt_of_cell? w _ hw319_1)).trans hw319_1), ((HB.out.cell (World.block_lt_of_cell? w _ hw320_0)).trans hw320_0), ((HB.out.cell (World.block_lt_of_cell? w _ hw320_1)).trans hw320_1)⟩ (fun hHeld => ?_); refine with_tabW laws_eqColumnS.tab6 laws_eqColumnS.bits6 (fun HT_ HW_ => ?_); generalize wr.drew = w11 at HB hx319_0 hx319_1 hx320_0 hx320_1 hHeld ⊢; refine pure_ (i := 0) (N := some 17) (v := ?_) (a' := ?_) #[true, false, false, false, false, false, false, false, false, false] rfl rfl (any_of HT_.out (by kernel_rfl)) (fun _ _ _ h => h) (Or.inl ⟨by rfl, ?_⟩) ?_ ?_; rotate_left
                · intro w'; go_simp; (with_reducible rfl)
                rotate_left
                · simp only [Act.put, List.setIfInBounds_toArray, List.set_cons_zero, List.set_cons_succ, i64_w, i32_w]; rfl
                refine pure_ (i := 1) (N := some 18) (v := ?_) (a' := ?_) #[true, true, false, false, false, false, false, false, false, false] rfl rfl (any_of HT_.out (by kernel_rfl)) (fun _ _ _ h => h) (Or.inl ⟨by rfl, ?_⟩) ?_ ?_; rotate_left
                · intro w'; go_simp; (with_reducible rfl)
                rotate_left
                · simp only [Act.put, List.setIfInBounds_toArray, List.set_cons_zero, List.set_cons_succ, i64_w, i32_w]; rfl
                refine pure_ (i := 2) (N := some 19) (v := ?_) (a' := ?_) #[true, true, true, false, false, false, false, false, false, false] rfl rfl (any_of HT_.out (by kernel_rfl)) (fun _ _ _ h => h) (Or.inl ⟨by rfl, ?_⟩) ?_ ?_; rotate_left
                · intro w'; go_simp; (with_reducible rfl)
                rotate_left
                · simp only [Act.put, List.setIfInBounds_toArray, List.set_cons_zero, List.set_cons_succ, i64_w, i32_w]; rfl
                refine pure_ (i := 4) (N := some 21) (v := ?_) (a' := ?_) #[true, true, true, false, true, false, false, false, false, false] rfl rfl (any_of HT_.out (by kernel_rfl)) (fun _ _ _ h => h) (Or.inl ⟨by rfl, ?_⟩) ?_ ?_; rotate_left
                · intro w'; go_simp; (with_reducible rfl)
                rotate_left
                · simp only [Act.put, List.setIfInBounds_toArray, List.set_cons_zero, List.set_cons_succ, i64_w, i32_w]; rfl
                refine pure_ (i := 5) (N := some 22) (v := ?_) (a' := ?_) #[true, true, true, false, true, true, false, false, false, false] rfl rfl (any_of HT_.out (by kernel_rfl)) (fun _ _ _ h => h) (Or.inl ⟨by rfl, ?_⟩) ?_ ?_; rotate_left
                · intro w'; go_simp; (with_reducible rfl)
                rotate_left
                · simp only [Act.put, List.setIfInBounds_toArray, List.set_cons_zero, List.set_cons_succ, i64_w, i32_w]; rfl
                refine pure_ (i := 6) (N := some 23) (v := ?_) (a' := ?_) #[true, true, true, false, true, true, true, false, false, false] rfl rfl (any_of HT_.out (by kernel_rfl)) (fun _ _ _ h => h) (Or.inl ⟨by rfl, ?_⟩) ?_ ?_; rotate_left
                · intro w'; go_simp; (with_reducible rfl)
                rotate_left
                · simp only [Act.put, List.setIfInBounds_toArray, List.set_cons_zero, List.set_cons_succ, i64_w, i32_w]; rfl
                refine take_ (i := 3) (N := some 20) (v := ?_) (a' := ?_) #[true, true, true, true, true, true, true, false, false, false] rfl rfl (take_ofW HT_.out HW_.out (by kernel_rfl)) (fun _ _ _ h => h) (Or.inl ⟨by rfl, ?_⟩) hHeld ?_ ?_; rotate_left
                · rintro w' ⟨s0, s1, s2, s3⟩; go_simp; (with_reducible rfl)
                rotate_left
                · simp only [Act.put, List.setIfInBounds_toArray, List.set_cons_zero, List.set_cons_succ, i64_w, i32_w]; rfl
                refine take_ (i := 7) (N := some 24) (v := ?_) (a' := ?_) #[true, true, true, true, true, true, true, true, false, false] rfl rfl (take_ofW HT_.out HW_.out (by kernel_rfl)) (fun _ _ _ h => h) (Or.inl ⟨by rfl, ?_⟩) hHeld ?_ ?_; rotate_left
                · rintro w' ⟨s0, s1, s2, s3⟩; go_simp; (with_reducible rfl)
                rotate_left
                · simp only [Act.put, List.setIfInBounds_toArray, List.set_cons_zero, List.set_cons_succ, i64_w, i32_w]; rfl
                refine one_ (i := 8) (N := some 25) #[true, true, true, true, true, true, true, true, true, false] rfl rfl (one_of HT_.out (by kernel_rfl)) (by decide) (fun K hK => ?_); refine goes_ Tryd.func67 (by kernel_rfl) rfl #[.agg #[.string ((rd_T51 l0 x5_1).f0), .int .i64 ((rd_T51 l0 x5_1).f1)], .agg #[.string ((rd_T51 l1 x5_1).f0), .int .i64 ((rd_T51 l1 x5_1).f1)]] (by rfl) rfl rfl qA ?_; (with_reducible refine (laws_eqColumn.calls ((rd_T51 l0 x5_1).f0) ((rd_T51 l0 x5_1).f1) ((rd_T51 l1 x5_1).f0) ((rd_T51 l1 x5_1).f1) false _ A7.out).mono ?_); rintro e w12 ⟨rfl, hb⟩; refine ⟨_, rfl, ?_⟩; replace HB := qHB HB hb; (try clear hb); (try clear hb2); (try clear hk); (try clear hi); refine hK.out _ _ ⟨((HB.out.cell (World.block_lt_of_cell? w _ hw319_0)).trans hw319_0), ((HB.out.cell (World.block_lt_of_cell? w _ hw319_1)).trans hw319_1), ((HB.out.cell (World.block_lt_of_cell? w _ hw320_0)).trans hw320_0), ((HB.out.cell (World.block_lt_of_cell? w _ hw320_1)).trans hw320_1)⟩ (fun hHeld => ?_); clear hK K; refine norm_ (a' := ?_) ?_ ?_; rotate_left
                · show Act.put _ (some 25) _ = _; simp only [Act.put, List.setIfInBounds_toArray, List.set_cons_zero, List.set_cons_succ, i64_w, i32_w]; rfl
                refine pure_ (i := 9) (N := some 26) (v := ?_) (a' := ?_) #[true, true, true, true, true, true, true, true, true, true] rfl rfl (any_of HT_.out (by kernel_rfl)) (fun _ _ _ h => h) (Or.inl ⟨by rfl, ?_⟩) ?_ ?_; rotate_left
                · intro w'; go_simp; (with_reducible rfl)
                rotate_left
                · simp only [Act.put, List.setIfInBounds_toArray, List.set_cons_zero, List.set_cons_succ, i64_w, i32_w]; rfl
                refine done_ (done_of HT_.out (by kernel_rfl)) ?_; (try go_wp2); go_ret; exact ⟨qR, qB⟩
            · rw [if_neg c6] at H; exact absurd H (by simp)
          · rw [if_neg c5] at H; exact absurd H (by simp)
        · rw [if_neg c4] at H; have c4b0 : decide (x5_1 < (l0.length : Int)) = false := decide_eq_false c4; clear c4; obtain rfl := Option.some.inj H; go_wp2; go_ret; exact ⟨qR, qB⟩
  · rw [if_neg c3] at H; have c3b0 : ((l0.length : Int) == (l1.length : Int)) = false := beq_eq_false_iff_ne.mpr c3; have c3b1 : ((l0.length : Int) != (l1.length : Int)) = true := bne_iff_ne.mpr c3; (have c3b2 : (l0.length == l1.length) = false := by first | simpa using c3 | (simp at c3 ⊢; omega)); obtain rfl := Option.some.inj H; go_enter Tryd.func33, Tryd.ntmps33; go_wp2; go_ret; exact ⟨qR, qB⟩
def laws_eqValue.f (a0_0 : Int) (a0_1 : Int) (a0_2 : ByteArray) (a1_0 : Int) (a1_1 : Int) (a1_2 : ByteArray) : Option (Bool) := if a0_0 = a1_0 then (if a0_1 = a1_1 then (if a0_2.toList = a1_2.toList then (some true) else (some false)) else (some false)) else (some false)
set_option maxHeartbeats 8000000 in
set_option maxRecDepth 100000 in
theorem laws_eqValue.calls (a0_0 : Int) (a0_1 : Int) (a0_2 : ByteArray) (a1_0 : Int) (a1_1 : Int) (a1_2 : ByteArray) (r : Bool) (w : World) (h : laws_eqValue.f a0_0 a0_1 a0_2 a1_0 a1_1 a1_2 = some r) :
    Calls Tryd.prog 68 #[.agg #[.int .i64 a0_0, .int .i64 a0_1, .string a0_2], .agg #[.int .i64 a1_0, .int .i64 a1_1, .string a1_2]] w fun e w' => e = .returned (.bool r) ∧ Below w.heap.size w w' := by
  have hu53 := Tryd.underlying53; have HB := qK (Below.refl w.heap.size w); have H : (if a0_0 = a1_0 then (if a0_1 = a1_1 then (if a0_2.toList = a1_2.toList then (some true) else (some false)) else (some false)) else (some false)) = some r := h; clear h; by_cases c3 : a0_0 = a1_0
  · rw [if_pos c3] at H; have c3b0 : (a0_0 == a1_0) = true := beq_iff_eq.mpr c3; have c3b1 : (a0_0 != a1_0) = false := bne_eq_false_iff_eq.mpr c3; clear c3; by_cases c4 : a0_1 = a1_1
    · rw [if_pos c4] at H; have c4b0 : (a0_1 == a1_1) = true := beq_iff_eq.mpr c4; have c4b1 : (a0_1 != a1_1) = false := bne_eq_false_iff_eq.mpr c4; clear c4; by_cases c5 : a0_2.toList = a1_2.toList
      · rw [if_pos c5] at H; have c5b0 : (a0_2.toList == a1_2.toList) = true := beq_iff_eq.mpr c5; have c5b1 : (a0_2.toList != a1_2.toList) = false := bne_eq_false_iff_eq.mpr c5; clear c5; obtain rfl := Option.some.inj H; go_enter Tryd.func68, Tryd.ntmps68; go_wp2_with (first | ((with_reducible refine gds (N := 2) rfl ?_); refine qbx 2 #[.int .i64 a0_0, .int .i64 a0_1, .string a0_2] 53 ?_; intro gb322 hg w6 hbox hb; have BK322 := qK (hbox); have GW322 := qK ((qW : w.heap.size ≤ gb322)); have GE322 := GW322; replace HB := qHB HB hb; clear hb hbox hg) | ((with_reducible refine gds (N := 3) rfl ?_); refine qbx 3 #[.int .i64 a1_0, .int .i64 a1_1, .string a1_2] 53 ?_; intro gb323 hg w7 hbox hb; have BK323 := qK (hbox); have GW323 := qK ((qW : w.heap.size ≤ gb323)); have GE323 := GW323; replace HB := qHB HB hb; have NB322_323 := qK (qlt BK322 hg); have NB323_322 := qK (qgt BK322 hg); replace BK322 := qbb BK322 hb; clear hb hbox hg; have hnb8 := NB322_323.out; have hnc8 := NB323_322.out; have hz9 := qz3 BK322.out; have hz10 := qz3 BK323.out)); go_ret; exact ⟨qR, qB⟩
      · rw [if_neg c5] at H; have c5b0 : (a0_2.toList == a1_2.toList) = false := beq_eq_false_iff_ne.mpr c5; have c5b1 : (a0_2.toList != a1_2.toList) = true := bne_iff_ne.mpr c5; obtain rfl := Option.some.inj H; go_enter Tryd.func68, Tryd.ntmps68; go_wp2_with (first | ((with_reducible refine gds (N := 2) rfl ?_); refine qbx 2 #[.int .i64 a0_0, .int .i64 a0_1, .string a0_2] 53 ?_; intro gb322 hg w11 hbox hb; have BK322 := qK (hbox); have GW322 := qK ((qW : w.heap.size ≤ gb322)); have GE322 := GW322; replace HB := qHB HB hb; clear hb hbox hg) | ((with_reducible refine gds (N := 3) rfl ?_); refine qbx 3 #[.int .i64 a1_0, .int .i64 a1_1, .string a1_2] 53 ?_; intro gb323 hg w12 hbox hb; have BK323 := qK (hbox); have GW323 := qK ((qW : w.heap.size ≤ gb323)); have GE323 := GW323; replace HB := qHB HB hb; have NB322_323 := qK (qlt BK322 hg); have NB323_322 := qK (qgt BK322 hg); replace BK322 := qbb BK322 hb; clear hb hbox hg; have hnb13 := NB322_323.out; have hnc13 := NB323_322.out; have hz14 := qz3 BK322.out; have hz15 := qz3 BK323.out)); go_ret; exact ⟨qR, qB⟩
    · rw [if_neg c4] at H; have c4b0 : (a0_1 == a1_1) = false := beq_eq_false_iff_ne.mpr c4; have c4b1 : (a0_1 != a1_1) = true := bne_iff_ne.mpr c4; obtain rfl := Option.some.inj H; go_enter Tryd.func68, Tryd.ntmps68; go_wp2_with (first | ((with_reducible refine gds (N := 2) rfl ?_); refine qbx 2 #[.int .i64 a0_0, .int .i64 a0_1, .string a0_2] 53 ?_; intro gb322 hg w16 hbox hb; have BK322 := qK (hbox); have GW322 := qK ((qW : w.heap.size ≤ gb322)); have GE322 := GW322; replace HB := qHB HB hb; clear hb hbox hg) | ((with_reducible refine gds (N := 3) rfl ?_); refine qbx 3 #[.int .i64 a1_0, .int .i64 a1_1, .string a1_2] 53 ?_; intro gb323 hg w17 hbox hb; have BK323 := qK (hbox); have GW323 := qK ((qW : w.heap.size ≤ gb323)); have GE323 := GW323; replace HB := qHB HB hb; have NB322_323 := qK (qlt BK322 hg); have NB323_322 := qK (qgt BK322 hg); replace BK322 := qbb BK322 hb; clear hb hbox hg; have hnb18 := NB322_323.out; have hnc18 := NB323_322.out; have hz19 := qz3 BK322.out; have hz20 := qz3 BK323.out)); go_ret; exact ⟨qR, qB⟩
  · rw [if_neg c3] at H; have c3b0 : (a0_0 == a1_0) = false := beq_eq_false_iff_ne.mpr c3; have c3b1 : (a0_0 != a1_0) = true := bne_iff_ne.mpr c3; obtain rfl := Option.some.inj H; go_enter Tryd.func68, Tryd.ntmps68; go_wp2_with (first | ((with_reducible refine gds (N := 2) rfl ?_); refine qbx 2 #[.int .i64 a0_0, .int .i64 a0_1, .string a0_2] 53 ?_; intro gb322 hg w21 hbox hb; have BK322 := qK (hbox); have GW322 := qK ((qW : w.heap.size ≤ gb322)); have GE322 := GW322; replace HB := qHB HB hb; clear hb hbox hg) | ((with_reducible refine gds (N := 3) rfl ?_); refine qbx 3 #[.int .i64 a1_0, .int .i64 a1_1, .string a1_2] 53 ?_; intro gb323 hg w22 hbox hb; have BK323 := qK (hbox); have GW323 := qK ((qW : w.heap.size ≤ gb323)); have GE323 := GW323; replace HB := qHB HB hb; have NB322_323 := qK (qlt BK322 hg); have NB323_322 := qK (qgt BK322 hg); replace BK322 := qbb BK322 hb; clear hb hbox hg; have hnb23 := NB322_323.out; have hnc23 := NB323_322.out; have hz24 := qz3 BK322.out; have hz25 := qz3 BK323.out)); go_ret; exact ⟨qR, qB⟩
def laws_eqValueS.l0 : Nat → List (S53) → List (S53) → Int → Option (Bool)
  | 0, _, _, _ => none
  | k + 1, x0, x1, x5 => if x5 < (x0.length : Int) then (if 0 ≤ x5 then (if x5 < (x1.length : Int) then ((laws_eqValue.f ((rd_T53 x0 x5).f0) ((rd_T53 x0 x5).f1) ((rd_T53 x0 x5).f2) ((rd_T53 x1 x5).f0) ((rd_T53 x1 x5).f1) ((rd_T53 x1 x5).f2)).bind fun t326 => (if t326 = true then (laws_eqValueS.l0 k x0 x1 (wrap64 (x5 + 1))) else (some false))) else (none)) else (none)) else (some true)
def laws_eqValueS.f (k : Nat) (l0 : List (S53)) (l1 : List (S53)) : Option (Bool) := if (l0.length : Int) = (l1.length : Int) then (laws_eqValueS.l0 k l0 l1 0) else (some false)
theorem laws_eqValueS.mono_l : ∀ k, (∀ y0 y1 y2, LeO (laws_eqValueS.l0 k y0 y1 y2) (laws_eqValueS.l0 (k + 1) y0 y1 y2))
  | 0 => fun _ _ _ r h => by simp [laws_eqValueS.l0] at h
  | k + 1 => by
    have ih0 := laws_eqValueS.mono_l k
    · intro y0 y1 y2
      unfold laws_eqValueS.l0
      repeat' first
      | (with_reducible exact ih0 _ _ _)
      | (with_reducible exact LeO.refl _)
      | (with_reducible exact LeO.none _)
      | (with_reducible refine LeO.ite ?_ ?_)
      | (with_reducible refine LeO.bind ?_ (fun _ => ?_))
      | exact ih0 _ _ _
      | exact LeO.none _
      | refine LeO.ite ?_ ?_
      | refine LeO.bind ?_ (fun _ => ?_)
theorem laws_eqValueS.mono : ∀ a0 a1 k, LeO (laws_eqValueS.f k a0 a1) (laws_eqValueS.f (k + 1) a0 a1) := by
  intro a0 a1 k
  have ih0 := laws_eqValueS.mono_l k
  unfold laws_eqValueS.f
  repeat' first
      | (with_reducible exact ih0 _ _ _)
      | (with_reducible exact LeO.refl _)
      | (with_reducible exact LeO.none _)
      | (with_reducible refine LeO.ite ?_ ?_)
      | (with_reducible refine LeO.bind ?_ (fun _ => ?_))
      | exact ih0 _ _ _
      | exact LeO.none _
      | refine LeO.ite ?_ ?_
      | refine LeO.bind ?_ (fun _ => ?_)
def laws_eqValueS.T6 : Bool × List (List Nat × List Nat) := (true, [([], []), ([], []), ([0, 1], [0, 1]), ([2], [2]), ([], []), ([], []), ([4, 5], [4, 5]), ([6], [6]), ([3, 7], [3, 7]), ([8], [8])])
def laws_eqValueS.B6 : List Nat := [0, 0, 3, 7, 0, 0, 48, 112, 255, 511]
theorem laws_eqValueS.tab6 : rtab .any (opsOf Tryd.f34 6) = laws_eqValueS.T6 := by kernel_rfl
theorem laws_eqValueS.bits6 : waitsOk laws_eqValueS.T6.2 laws_eqValueS.B6 = true := by kernel_rfl
set_option maxHeartbeats 8000000 in
set_option maxRecDepth 100000 in
theorem laws_eqValueS.calls (k : Nat) (A0 : Option Addr) (c0 : Nat) (l0 : List (S53)) (A1 : Option Addr) (c1 : Nat) (l1 : List (S53)) (r : Bool) (w : World) (hr0 : Kd.C k53 w A0 l0.length l0) (hc0 : l0.length ≤ c0) (hr1 : Kd.C k53 w A1 l1.length l1) (hc1 : l1.length ≤ c1) (h : laws_eqValueS.f k l0 l1 = some r) :
    Calls Tryd.prog 34 #[.slice A0 l0.length c0, .slice A1 l1.length c1] w fun e w' => e = .returned (.bool r) ∧ Below w.heap.size w w' := by
  have hu53 := Tryd.underlying53; have HR0 := qK hr0; have HC0 := qK hc0; clear hr0 hc0; have HR1 := qK hr1; have HC1 := qK hc1; clear hr1 hc1; have HB := qK (Below.refl w.heap.size w); have H : (if (l0.length : Int) = (l1.length : Int) then (laws_eqValueS.l0 k l0 l1 0) else (some false)) = some r := h; clear h; by_cases c3 : (l0.length : Int) = (l1.length : Int)
  · rw [if_pos c3] at H; have c3b0 : ((l0.length : Int) == (l1.length : Int)) = true := beq_iff_eq.mpr c3; have c3b1 : ((l0.length : Int) != (l1.length : Int)) = false := bne_eq_false_iff_eq.mpr c3; (have c3b2 : (l0.length == l1.length) = true := by first | simpa using c3 | (simp at c3 ⊢; omega)); clear c3; have H' := qK H; clear H; go_enter Tryd.func34, Tryd.ntmps34; go_wp2; go_loopg [5] k (fun kq v5 w' => ∃ (x5_1 : Int), v5 = .int .i64 x5_1 ∧ Aside0 (laws_eqValueS.l0 kq l0 l1 x5_1 = some r) ∧ Aside0 (kq ≤ k) ∧ Aside0 (Below w.heap.size w w'))
    case atStart => exact ⟨(0), qS, H', ⟨Nat.le_refl _⟩, ⟨qB⟩⟩
    case round =>
      clear H'; (try clear c1); (try clear p2); (try clear c3); (try clear c3b0); (try clear c3b1); (try clear c3b2); obtain ⟨x5_1, rfl, HA, HK1, HB⟩ := hrel
      cases gk with
      | zero => exact absurd HA.out (by simp [laws_eqValueS.l0])
      | succ k1 =>
        have H := HA.out; clear HA; simp only [laws_eqValueS.l0] at H; by_cases c4 : x5_1 < (l0.length : Int)
        · rw [if_pos c4] at H; have c4b0 : decide (x5_1 < (l0.length : Int)) = true := decide_eq_true c4; clear c4; by_cases c5 : 0 ≤ x5_1
          · rw [if_pos c5] at H; have c5b0 : decide (0 ≤ x5_1) = true := decide_eq_true c5; clear c5; by_cases c6 : x5_1 < (l1.length : Int)
            · rw [if_pos c6] at H; have c6b0 : decide (x5_1 < (l1.length : Int)) = true := decide_eq_true c6; clear c6; replace H := Option.bind_eq_some_iff.mp H; obtain ⟨t326, A70, H⟩ := H; have A7 := qK A70; clear A70; by_cases c8 : t326 = true
              · subst c8; rw [if_pos rfl] at H; have H' := qK H; clear H; (try go_wp2); replace HB := qK (bd1 HB.out); have p324 : 0 ≤ (x5_1 : Int) := of_decide_eq_true qa; have q324 : x5_1 < (l0.length : Int) := of_decide_eq_true qa; obtain ⟨ad324, e324, hx324_0, hx324_1, hx324_2⟩ := at_T53 HR0.out x5_1 p324 q324; have hw324_2 := hx324_2; have hw324_1 := hx324_1; have hw324_0 := hx324_0; cases e324; replace hx324_0 := (HB.out.cell (World.block_lt_of_cell? w _ hx324_0)).trans hx324_0; replace hx324_1 := (HB.out.cell (World.block_lt_of_cell? w _ hx324_1)).trans hx324_1; replace hx324_2 := (HB.out.cell (World.block_lt_of_cell? w _ hx324_2)).trans hx324_2; replace p324 := eq_true p324; replace q324 := eq_true q324; have p325 : 0 ≤ (x5_1 : Int) := of_decide_eq_true qa; have q325 : x5_1 < (l1.length : Int) := of_decide_eq_true qa; obtain ⟨ad325, e325, hx325_0, hx325_1, hx325_2⟩ := at_T53 HR1.out x5_1 p325 q325; have hw325_2 := hx325_2; have hw325_1 := hx325_1; have hw325_0 := hx325_0; cases e325; replace hx325_0 := (HB.out.cell (World.block_lt_of_cell? w _ hx325_0)).trans hx325_0; replace hx325_1 := (HB.out.cell (World.block_lt_of_cell? w _ hx325_1)).trans hx325_1; replace hx325_2 := (HB.out.cell (World.block_lt_of_cell? w _ hx325_2)).trans hx325_2; replace p325 := eq_true p325; replace q325 := eq_true q325; refine start_ (n := 10) (S := fun w' => w'.cell? (ad324.add ((x5_1).toNat * 3)) = some (.int .i64 ((rd_T53 l0 x5_1).f0)) ∧ w'.cell? ⟨(ad324.add ((x5_1).toNat * 3)).block, (ad324.add ((x5_1).toNat * 3)).off + 1, none⟩ = some (.int .i64 ((rd_T53 l0 x5_1).f1)) ∧ w'.cell? ⟨(ad324.add ((x5_1).toNat * 3)).block, (ad324.add ((x5_1).toNat * 3)).off + 2, none⟩ = some (.string ((rd_T53 l0 x5_1).f2)) ∧ w'.cell? (ad325.add ((x5_1).toNat * 3)) = some (.int .i64 ((rd_T53 l1 x5_1).f0)) ∧ w'.cell? ⟨(ad325.add ((x5_1).toNat * 3)).block, (ad325.add ((x5_1).toNat * 3)).off + 1, none⟩ = some (.int .i64 ((rd_T53 l1 x5_1).f1)) ∧ w'.cell? ⟨(ad325.add ((x5_1).toNat * 3)).block, (ad325.add ((x5_1).toNat * 3)).off + 2, none⟩ = some (.string ((rd_T53 l1 x5_1).f2))) (ds := []) #[false, false, false, false, false, false, false, false, false, false] (by kernel_rfl) rfl rfl ⟨((HB.out.cell (World.block_lt_of_cell? w _ hw324_0)).trans hw324_0), ((HB.out.cell (World.block_lt_of_cell? w _ hw324_1)).trans hw324_1), ((HB.out.cell (World.block_lt_of_cell? w _ hw324_2)).trans hw324_2), ((HB.out.cell (World.block_lt_of_cell? w _ hw325_0)).trans hw325_0), ((HB.out.cell (World.block_lt_of_cell? w _ hw325_1)).trans hw325_1), ((HB.out.cell (World.block_lt_of_cell? w _ hw325_2)).trans hw325_2)⟩ (fun hHeld => ?_); refine with_tabW laws_eqValueS.tab6 laws_eqValueS.bits6 (fun HT_ HW_ => ?_); generalize wr.drew = w9 at HB hx324_0 hx324_1 hx324_2 hx325_0 hx325_1 hx325_2 hHeld ⊢; refine pure_ (i := 0) (N := some 17) (v := ?_) (a' := ?_) #[true, false, false, false, false, false, false, false, false, false] rfl rfl (any_of HT_.out (by kernel_rfl)) (fun _ _ _ h => h) (Or.inl ⟨by rfl, ?_⟩) ?_ ?_; rotate_left
                · intro w'; go_simp; (with_reducible rfl)
                rotate_left
                · simp only [Act.put, List.setIfInBounds_toArray, List.set_cons_zero, List.set_cons_succ, i64_w, i32_w]; rfl
                refine pure_ (i := 1) (N := some 18) (v := ?_) (a' := ?_) #[true, true, false, false, false, false, false, false, false, false] rfl rfl (any_of HT_.out (by kernel_rfl)) (fun _ _ _ h => h) (Or.inl ⟨by rfl, ?_⟩) ?_ ?_; rotate_left
                · intro w'; go_simp; (with_reducible rfl)
                rotate_left
                · simp only [Act.put, List.setIfInBounds_toArray, List.set_cons_zero, List.set_cons_succ, i64_w, i32_w]; rfl
                refine pure_ (i := 2) (N := some 19) (v := ?_) (a' := ?_) #[true, true, true, false, false, false, false, false, false, false] rfl rfl (any_of HT_.out (by kernel_rfl)) (fun _ _ _ h => h) (Or.inl ⟨by rfl, ?_⟩) ?_ ?_; rotate_left
                · intro w'; go_simp; (with_reducible rfl)
                rotate_left
                · simp only [Act.put, List.setIfInBounds_toArray, List.set_cons_zero, List.set_cons_succ, i64_w, i32_w]; rfl
                refine pure_ (i := 4) (N := some 21) (v := ?_) (a' := ?_) #[true, true, true, false, true, false, false, false, false, false] rfl rfl (any_of HT_.out (by kernel_rfl)) (fun _ _ _ h => h) (Or.inl ⟨by rfl, ?_⟩) ?_ ?_; rotate_left
                · intro w'; go_simp; (with_reducible rfl)
                rotate_left
                · simp only [Act.put, List.setIfInBounds_toArray, List.set_cons_zero, List.set_cons_succ, i64_w, i32_w]; rfl
                refine pure_ (i := 5) (N := some 22) (v := ?_) (a' := ?_) #[true, true, true, false, true, true, false, false, false, false] rfl rfl (any_of HT_.out (by kernel_rfl)) (fun _ _ _ h => h) (Or.inl ⟨by rfl, ?_⟩) ?_ ?_; rotate_left
                · intro w'; go_simp; (with_reducible rfl)
                rotate_left
                · simp only [Act.put, List.setIfInBounds_toArray, List.set_cons_zero, List.set_cons_succ, i64_w, i32_w]; rfl
                refine pure_ (i := 6) (N := some 23) (v := ?_) (a' := ?_) #[true, true, true, false, true, true, true, false, false, false] rfl rfl (any_of HT_.out (by kernel_rfl)) (fun _ _ _ h => h) (Or.inl ⟨by rfl, ?_⟩) ?_ ?_; rotate_left
                · intro w'; go_simp; (with_reducible rfl)
                rotate_left
                · simp only [Act.put, List.setIfInBounds_toArray, List.set_cons_zero, List.set_cons_succ, i64_w, i32_w]; rfl
                refine take_ (i := 3) (N := some 20) (v := ?_) (a' := ?_) #[true, true, true, true, true, true, true, false, false, false] rfl rfl (take_ofW HT_.out HW_.out (by kernel_rfl)) (fun _ _ _ h => h) (Or.inl ⟨by rfl, ?_⟩) hHeld ?_ ?_; rotate_left
                · rintro w' ⟨s0, s1, s2, s3, s4, s5⟩; go_simp; (with_reducible rfl)
                rotate_left
                · simp only [Act.put, List.setIfInBounds_toArray, List.set_cons_zero, List.set_cons_succ, i64_w, i32_w]; rfl
                refine take_ (i := 7) (N := some 24) (v := ?_) (a' := ?_) #[true, true, true, true, true, true, true, true, false, false] rfl rfl (take_ofW HT_.out HW_.out (by kernel_rfl)) (fun _ _ _ h => h) (Or.inl ⟨by rfl, ?_⟩) hHeld ?_ ?_; rotate_left
                · rintro w' ⟨s0, s1, s2, s3, s4, s5⟩; go_simp; (with_reducible rfl)
                rotate_left
                · simp only [Act.put, List.setIfInBounds_toArray, List.set_cons_zero, List.set_cons_succ, i64_w, i32_w]; rfl
                refine one_ (i := 8) (N := some 25) #[true, true, true, true, true, true, true, true, true, false] rfl rfl (one_of HT_.out (by kernel_rfl)) (by decide) (fun K hK => ?_); refine goes_ Tryd.func68 (by kernel_rfl) rfl #[.agg #[.int .i64 ((rd_T53 l0 x5_1).f0), .int .i64 ((rd_T53 l0 x5_1).f1), .string ((rd_T53 l0 x5_1).f2)], .agg #[.int .i64 ((rd_T53 l1 x5_1).f0), .int .i64 ((rd_T53 l1 x5_1).f1), .string ((rd_T53 l1 x5_1).f2)]] (by rfl) rfl rfl qA ?_; (with_reducible refine (laws_eqValue.calls ((rd_T53 l0 x5_1).f0) ((rd_T53 l0 x5_1).f1) ((rd_T53 l0 x5_1).f2) ((rd_T53 l1 x5_1).f0) ((rd_T53 l1 x5_1).f1) ((rd_T53 l1 x5_1).f2) true _ A7.out).mono ?_); rintro e w10 ⟨rfl, hb⟩; refine ⟨_, rfl, ?_⟩; replace HB := qHB HB hb; (try clear hb); (try clear hb2); (try clear hk); (try clear hi); refine hK.out _ _ ⟨((HB.out.cell (World.block_lt_of_cell? w _ hw324_0)).trans hw324_0), ((HB.out.cell (World.block_lt_of_cell? w _ hw324_1)).trans hw324_1), ((HB.out.cell (World.block_lt_of_cell? w _ hw324_2)).trans hw324_2), ((HB.out.cell (World.block_lt_of_cell? w _ hw325_0)).trans hw325_0), ((HB.out.cell (World.block_lt_of_cell? w _ hw325_1)).trans hw325_1), ((HB.out.cell (World.block_lt_of_cell? w _ hw325_2)).trans hw325_2)⟩ (fun hHeld => ?_); clear hK K; refine norm_ (a' := ?_) ?_ ?_; rotate_left
                · show Act.put _ (some 25) _ = _; simp only [Act.put, List.setIfInBounds_toArray, List.set_cons_zero, List.set_cons_succ, i64_w, i32_w]; rfl
                refine pure_ (i := 9) (N := some 26) (v := ?_) (a' := ?_) #[true, true, true, true, true, true, true, true, true, true] rfl rfl (any_of HT_.out (by kernel_rfl)) (fun _ _ _ h => h) (Or.inl ⟨by rfl, ?_⟩) ?_ ?_; rotate_left
                · intro w'; go_simp; (with_reducible rfl)
                rotate_left
                · simp only [Act.put, List.setIfInBounds_toArray, List.set_cons_zero, List.set_cons_succ, i64_w, i32_w]; rfl
                refine done_ (done_of HT_.out (by kernel_rfl)) ?_; (try go_wp2); go_roundg k1
                case measure => have := HK1.out; omega
                case rel => exact ⟨(wrap64 (x5_1 + 1)), qS, H', ⟨by have := HK1.out; omega⟩, ⟨qB⟩⟩
              · replace c8 := Bool.eq_false_iff.mpr c8; subst c8; rw [if_neg qff] at H; obtain rfl := Option.some.inj H; (try go_wp2); replace HB := qK (bd1 HB.out); have p324 : 0 ≤ (x5_1 : Int) := of_decide_eq_true qa; have q324 : x5_1 < (l0.length : Int) := of_decide_eq_true qa; obtain ⟨ad324, e324, hx324_0, hx324_1, hx324_2⟩ := at_T53 HR0.out x5_1 p324 q324; have hw324_2 := hx324_2; have hw324_1 := hx324_1; have hw324_0 := hx324_0; cases e324; replace hx324_0 := (HB.out.cell (World.block_lt_of_cell? w _ hx324_0)).trans hx324_0; replace hx324_1 := (HB.out.cell (World.block_lt_of_cell? w _ hx324_1)).trans hx324_1; replace hx324_2 := (HB.out.cell (World.block_lt_of_cell? w _ hx324_2)).trans hx324_2; replace p324 := eq_true p324; replace q324 := eq_true q324; have p325 : 0 ≤ (x5_1 : Int) := of_decide_eq_true qa; have q325 : x5_1 < (l1.length : Int) := of_decide_eq_true qa; obtain ⟨ad325, e325, hx325_0, hx325_1, hx325_2⟩ := at_T53 HR1.out x5_1 p325 q325; have hw325_2 := hx325_2; have hw325_1 := hx325_1; have hw325_0 := hx325_0; cases e325; replace hx325_0 := (HB.out.cell (World.block_lt_of_cell? w _ hx325_0)).trans hx325_0; replace hx325_1 := (HB.out.cell (World.block_lt_of_cell? w _ hx325_1)).trans hx325_1; replace hx325_2 := (HB.out.cell (World.block_lt_of_cell? w _ hx325_2)).trans hx325_2; replace p325 := eq_true p325; replace q325 := eq_true q325; refine start_ (n := 10) (S := fun w' => w'.cell? (ad324.add ((x5_1).toNat * 3)) = some (.int .i64 ((rd_T53 l0 x5_1).f0)) ∧ w'.cell? ⟨(ad324.add ((x5_1).toNat * 3)).block, (ad324.add ((x5_1).toNat * 3)).off + 1, none⟩ = some (.int .i64 ((rd_T53 l0 x5_1).f1)) ∧ w'.cell? ⟨(ad324.add ((x5_1).toNat * 3)).block, (ad324.add ((x5_1).toNat * 3)).off + 2, none⟩ = some (.string ((rd_T53 l0 x5_1).f2)) ∧ w'.cell? (ad325.add ((x5_1).toNat * 3)) = some (.int .i64 ((rd_T53 l1 x5_1).f0)) ∧ w'.cell? ⟨(ad325.add ((x5_1).toNat * 3)).block, (ad325.add ((x5_1).toNat * 3)).off + 1, none⟩ = some (.int .i64 ((rd_T53 l1 x5_1).f1)) ∧ w'.cell? ⟨(ad325.add ((x5_1).toNat * 3)).block, (ad325.add ((x5_1).toNat * 3)).off + 2, none⟩ = some (.string ((rd_T53 l1 x5_1).f2))) (ds := []) #[false, false, false, false, false, false, false, false, false, false] (by kernel_rfl) rfl rfl ⟨((HB.out.cell (World.block_lt_of_cell? w _ hw324_0)).trans hw324_0), ((HB.out.cell (World.block_lt_of_cell? w _ hw324_1)).trans hw324_1), ((HB.out.cell (World.block_lt_of_cell? w _ hw324_2)).trans hw324_2), ((HB.out.cell (World.block_lt_of_cell? w _ hw325_0)).trans hw325_0), ((HB.out.cell (World.block_lt_of_cell? w _ hw325_1)).trans hw325_1), ((HB.out.cell (World.block_lt_of_cell? w _ hw325_2)).trans hw325_2)⟩ (fun hHeld => ?_); refine with_tabW laws_eqValueS.tab6 laws_eqValueS.bits6 (fun HT_ HW_ => ?_); generalize wr.drew = w11 at HB hx324_0 hx324_1 hx324_2 hx325_0 hx325_1 hx325_2 hHeld ⊢; refine pure_ (i := 0) (N := some 17) (v := ?_) (a' := ?_) #[true, false, false, false, false, false, false, false, false, false] rfl rfl (any_of HT_.out (by kernel_rfl)) (fun _ _ _ h => h) (Or.inl ⟨by rfl, ?_⟩) ?_ ?_; rotate_left
                · intro w'; go_simp; (with_reducible rfl)
                rotate_left
                · simp only [Act.put, List.setIfInBounds_toArray, List.set_cons_zero, List.set_cons_succ, i64_w, i32_w]; rfl
                refine pure_ (i := 1) (N := some 18) (v := ?_) (a' := ?_) #[true, true, false, false, false, false, false, false, false, false] rfl rfl (any_of HT_.out (by kernel_rfl)) (fun _ _ _ h => h) (Or.inl ⟨by rfl, ?_⟩) ?_ ?_; rotate_left
                · intro w'; go_simp; (with_reducible rfl)
                rotate_left
                · simp only [Act.put, List.setIfInBounds_toArray, List.set_cons_zero, List.set_cons_succ, i64_w, i32_w]; rfl
                refine pure_ (i := 2) (N := some 19) (v := ?_) (a' := ?_) #[true, true, true, false, false, false, false, false, false, false] rfl rfl (any_of HT_.out (by kernel_rfl)) (fun _ _ _ h => h) (Or.inl ⟨by rfl, ?_⟩) ?_ ?_; rotate_left
                · intro w'; go_simp; (with_reducible rfl)
                rotate_left
                · simp only [Act.put, List.setIfInBounds_toArray, List.set_cons_zero, List.set_cons_succ, i64_w, i32_w]; rfl
                refine pure_ (i := 4) (N := some 21) (v := ?_) (a' := ?_) #[true, true, true, false, true, false, false, false, false, false] rfl rfl (any_of HT_.out (by kernel_rfl)) (fun _ _ _ h => h) (Or.inl ⟨by rfl, ?_⟩) ?_ ?_; rotate_left
                · intro w'; go_simp; (with_reducible rfl)
                rotate_left
                · simp only [Act.put, List.setIfInBounds_toArray, List.set_cons_zero, List.set_cons_succ, i64_w, i32_w]; rfl
                refine pure_ (i := 5) (N := some 22) (v := ?_) (a' := ?_) #[true, true, true, false, true, true, false, false, false, false] rfl rfl (any_of HT_.out (by kernel_rfl)) (fun _ _ _ h => h) (Or.inl ⟨by rfl, ?_⟩) ?_ ?_; rotate_left
                · intro w'; go_simp; (with_reducible rfl)
                rotate_left
                · simp only [Act.put, List.setIfInBounds_toArray, List.set_cons_zero, List.set_cons_succ, i64_w, i32_w]; rfl
                refine pure_ (i := 6) (N := some 23) (v := ?_) (a' := ?_) #[true, true, true, false, true, true, true, false, false, false] rfl rfl (any_of HT_.out (by kernel_rfl)) (fun _ _ _ h => h) (Or.inl ⟨by rfl, ?_⟩) ?_ ?_; rotate_left
                · intro w'; go_simp; (with_reducible rfl)
                rotate_left
                · simp only [Act.put, List.setIfInBounds_toArray, List.set_cons_zero, List.set_cons_succ, i64_w, i32_w]; rfl
                refine take_ (i := 3) (N := some 20) (v := ?_) (a' := ?_) #[true, true, true, true, true, true, true, false, false, false] rfl rfl (take_ofW HT_.out HW_.out (by kernel_rfl)) (fun _ _ _ h => h) (Or.inl ⟨by rfl, ?_⟩) hHeld ?_ ?_; rotate_left
                · rintro w' ⟨s0, s1, s2, s3, s4, s5⟩; go_simp; (with_reducible rfl)
                rotate_left
                · simp only [Act.put, List.setIfInBounds_toArray, List.set_cons_zero, List.set_cons_succ, i64_w, i32_w]; rfl
                refine take_ (i := 7) (N := some 24) (v := ?_) (a' := ?_) #[true, true, true, true, true, true, true, true, false, false] rfl rfl (take_ofW HT_.out HW_.out (by kernel_rfl)) (fun _ _ _ h => h) (Or.inl ⟨by rfl, ?_⟩) hHeld ?_ ?_; rotate_left
                · rintro w' ⟨s0, s1, s2, s3, s4, s5⟩; go_simp; (with_reducible rfl)
                rotate_left
                · simp only [Act.put, List.setIfInBounds_toArray, List.set_cons_zero, List.set_cons_succ, i64_w, i32_w]; rfl
                refine one_ (i := 8) (N := some 25) #[true, true, true, true, true, true, true, true, true, false] rfl rfl (one_of HT_.out (by kernel_rfl)) (by decide) (fun K hK => ?_); refine goes_ Tryd.func68 (by kernel_rfl) rfl #[.agg #[.int .i64 ((rd_T53 l0 x5_1).f0), .int .i64 ((rd_T53 l0 x5_1).f1), .string ((rd_T53 l0 x5_1).f2)], .agg #[.int .i64 ((rd_T53 l1 x5_1).f0), .int .i64 ((rd_T53 l1 x5_1).f1), .string ((rd_T53 l1 x5_1).f2)]] (by rfl) rfl rfl qA ?_; (with_reducible refine (laws_eqValue.calls ((rd_T53 l0 x5_1).f0) ((rd_T53 l0 x5_1).f1) ((rd_T53 l0 x5_1).f2) ((rd_T53 l1 x5_1).f0) ((rd_T53 l1 x5_1).f1) ((rd_T53 l1 x5_1).f2) false _ A7.out).mono ?_); rintro e w12 ⟨rfl, hb⟩; refine ⟨_, rfl, ?_⟩; replace HB := qHB HB hb; (try clear hb); (try clear hb2); (try clear hk); (try clear hi); refine hK.out _ _ ⟨((HB.out.cell (World.block_lt_of_cell? w _ hw324_0)).trans hw324_0), ((HB.out.cell (World.block_lt_of_cell? w _ hw324_1)).trans hw324_1), ((HB.out.cell (World.block_lt_of_cell? w _ hw324_2)).trans hw324_2), ((HB.out.cell (World.block_lt_of_cell? w _ hw325_0)).trans hw325_0), ((HB.out.cell (World.block_lt_of_cell? w _ hw325_1)).trans hw325_1), ((HB.out.cell (World.block_lt_of_cell? w _ hw325_2)).trans hw325_2)⟩ (fun hHeld => ?_); clear hK K; refine norm_ (a' := ?_) ?_ ?_; rotate_left
                · show Act.put _ (some 25) _ = _; simp only [Act.put, List.setIfInBounds_toArray, List.set_cons_zero, List.set_cons_succ, i64_w, i32_w]; rfl
                refine pure_ (i := 9) (N := some 26) (v := ?_) (a' := ?_) #[true, true, true, true, true, true, true, true, true, true] rfl rfl (any_of HT_.out (by kernel_rfl)) (fun _ _ _ h => h) (Or.inl ⟨by rfl, ?_⟩) ?_ ?_; rotate_left
                · intro w'; go_simp; (with_reducible rfl)
                rotate_left
                · simp only [Act.put, List.setIfInBounds_toArray, List.set_cons_zero, List.set_cons_succ, i64_w, i32_w]; rfl
                refine done_ (done_of HT_.out (by kernel_rfl)) ?_; (try go_wp2); go_ret; exact ⟨qR, qB⟩
            · rw [if_neg c6] at H; exact absurd H (by simp)
          · rw [if_neg c5] at H; exact absurd H (by simp)
        · rw [if_neg c4] at H; have c4b0 : decide (x5_1 < (l0.length : Int)) = false := decide_eq_false c4; clear c4; obtain rfl := Option.some.inj H; go_wp2; go_ret; exact ⟨qR, qB⟩
  · rw [if_neg c3] at H; have c3b0 : ((l0.length : Int) == (l1.length : Int)) = false := beq_eq_false_iff_ne.mpr c3; have c3b1 : ((l0.length : Int) != (l1.length : Int)) = true := bne_iff_ne.mpr c3; (have c3b2 : (l0.length == l1.length) = false := by first | simpa using c3 | (simp at c3 ⊢; omega)); obtain rfl := Option.some.inj H; go_enter Tryd.func34, Tryd.ntmps34; go_wp2; go_ret; exact ⟨qR, qB⟩
def laws_eqItem.f (a0_0 : Int) (a0_1 : Int) (a0_2 : ByteArray) (a1_0 : Int) (a1_1 : Int) (a1_2 : ByteArray) : Option (Bool) := if a0_0 = a1_0 then (if a0_1 = a1_1 then (if a0_2.toList = a1_2.toList then (some true) else (some false)) else (some false)) else (some false)
set_option maxHeartbeats 8000000 in
set_option maxRecDepth 100000 in
theorem laws_eqItem.calls (a0_0 : Int) (a0_1 : Int) (a0_2 : ByteArray) (a1_0 : Int) (a1_1 : Int) (a1_2 : ByteArray) (r : Bool) (w : World) (h : laws_eqItem.f a0_0 a0_1 a0_2 a1_0 a1_1 a1_2 = some r) :
    Calls Tryd.prog 69 #[.agg #[.int .i64 a0_0, .int .i64 a0_1, .string a0_2], .agg #[.int .i64 a1_0, .int .i64 a1_1, .string a1_2]] w fun e w' => e = .returned (.bool r) ∧ Below w.heap.size w w' := by
  have hu88 := Tryd.underlying88; have HB := qK (Below.refl w.heap.size w); have H : (if a0_0 = a1_0 then (if a0_1 = a1_1 then (if a0_2.toList = a1_2.toList then (some true) else (some false)) else (some false)) else (some false)) = some r := h; clear h; by_cases c3 : a0_0 = a1_0
  · rw [if_pos c3] at H; have c3b0 : (a0_0 == a1_0) = true := beq_iff_eq.mpr c3; have c3b1 : (a0_0 != a1_0) = false := bne_eq_false_iff_eq.mpr c3; clear c3; by_cases c4 : a0_1 = a1_1
    · rw [if_pos c4] at H; have c4b0 : (a0_1 == a1_1) = true := beq_iff_eq.mpr c4; have c4b1 : (a0_1 != a1_1) = false := bne_eq_false_iff_eq.mpr c4; clear c4; by_cases c5 : a0_2.toList = a1_2.toList
      · rw [if_pos c5] at H; have c5b0 : (a0_2.toList == a1_2.toList) = true := beq_iff_eq.mpr c5; have c5b1 : (a0_2.toList != a1_2.toList) = false := bne_eq_false_iff_eq.mpr c5; clear c5; obtain rfl := Option.some.inj H; go_enter Tryd.func69, Tryd.ntmps69; go_wp2_with (first | ((with_reducible refine gds (N := 2) rfl ?_); refine qbx 2 #[.int .i64 a0_0, .int .i64 a0_1, .string a0_2] 88 ?_; intro gb327 hg w6 hbox hb; have BK327 := qK (hbox); have GW327 := qK ((qW : w.heap.size ≤ gb327)); have GE327 := GW327; replace HB := qHB HB hb; clear hb hbox hg) | ((with_reducible refine gds (N := 3) rfl ?_); refine qbx 3 #[.int .i64 a1_0, .int .i64 a1_1, .string a1_2] 88 ?_; intro gb328 hg w7 hbox hb; have BK328 := qK (hbox); have GW328 := qK ((qW : w.heap.size ≤ gb328)); have GE328 := GW328; replace HB := qHB HB hb; have NB327_328 := qK (qlt BK327 hg); have NB328_327 := qK (qgt BK327 hg); replace BK327 := qbb BK327 hb; clear hb hbox hg; have hnb8 := NB327_328.out; have hnc8 := NB328_327.out; have hz9 := qz3 BK327.out; have hz10 := qz3 BK328.out)); go_ret; exact ⟨qR, qB⟩
      · rw [if_neg c5] at H; have c5b0 : (a0_2.toList == a1_2.toList) = false := beq_eq_false_iff_ne.mpr c5; have c5b1 : (a0_2.toList != a1_2.toList) = true := bne_iff_ne.mpr c5; obtain rfl := Option.some.inj H; go_enter Tryd.func69, Tryd.ntmps69; go_wp2_with (first | ((with_reducible refine gds (N := 2) rfl ?_); refine qbx 2 #[.int .i64 a0_0, .int .i64 a0_1, .string a0_2] 88 ?_; intro gb327 hg w11 hbox hb; have BK327 := qK (hbox); have GW327 := qK ((qW : w.heap.size ≤ gb327)); have GE327 := GW327; replace HB := qHB HB hb; clear hb hbox hg) | ((with_reducible refine gds (N := 3) rfl ?_); refine qbx 3 #[.int .i64 a1_0, .int .i64 a1_1, .string a1_2] 88 ?_; intro gb328 hg w12 hbox hb; have BK328 := qK (hbox); have GW328 := qK ((qW : w.heap.size ≤ gb328)); have GE328 := GW328; replace HB := qHB HB hb; have NB327_328 := qK (qlt BK327 hg); have NB328_327 := qK (qgt BK327 hg); replace BK327 := qbb BK327 hb; clear hb hbox hg; have hnb13 := NB327_328.out; have hnc13 := NB328_327.out; have hz14 := qz3 BK327.out; have hz15 := qz3 BK328.out)); go_ret; exact ⟨qR, qB⟩
    · rw [if_neg c4] at H; have c4b0 : (a0_1 == a1_1) = false := beq_eq_false_iff_ne.mpr c4; have c4b1 : (a0_1 != a1_1) = true := bne_iff_ne.mpr c4; obtain rfl := Option.some.inj H; go_enter Tryd.func69, Tryd.ntmps69; go_wp2_with (first | ((with_reducible refine gds (N := 2) rfl ?_); refine qbx 2 #[.int .i64 a0_0, .int .i64 a0_1, .string a0_2] 88 ?_; intro gb327 hg w16 hbox hb; have BK327 := qK (hbox); have GW327 := qK ((qW : w.heap.size ≤ gb327)); have GE327 := GW327; replace HB := qHB HB hb; clear hb hbox hg) | ((with_reducible refine gds (N := 3) rfl ?_); refine qbx 3 #[.int .i64 a1_0, .int .i64 a1_1, .string a1_2] 88 ?_; intro gb328 hg w17 hbox hb; have BK328 := qK (hbox); have GW328 := qK ((qW : w.heap.size ≤ gb328)); have GE328 := GW328; replace HB := qHB HB hb; have NB327_328 := qK (qlt BK327 hg); have NB328_327 := qK (qgt BK327 hg); replace BK327 := qbb BK327 hb; clear hb hbox hg; have hnb18 := NB327_328.out; have hnc18 := NB328_327.out; have hz19 := qz3 BK327.out; have hz20 := qz3 BK328.out)); go_ret; exact ⟨qR, qB⟩
  · rw [if_neg c3] at H; have c3b0 : (a0_0 == a1_0) = false := beq_eq_false_iff_ne.mpr c3; have c3b1 : (a0_0 != a1_0) = true := bne_iff_ne.mpr c3; obtain rfl := Option.some.inj H; go_enter Tryd.func69, Tryd.ntmps69; go_wp2_with (first | ((with_reducible refine gds (N := 2) rfl ?_); refine qbx 2 #[.int .i64 a0_0, .int .i64 a0_1, .string a0_2] 88 ?_; intro gb327 hg w21 hbox hb; have BK327 := qK (hbox); have GW327 := qK ((qW : w.heap.size ≤ gb327)); have GE327 := GW327; replace HB := qHB HB hb; clear hb hbox hg) | ((with_reducible refine gds (N := 3) rfl ?_); refine qbx 3 #[.int .i64 a1_0, .int .i64 a1_1, .string a1_2] 88 ?_; intro gb328 hg w22 hbox hb; have BK328 := qK (hbox); have GW328 := qK ((qW : w.heap.size ≤ gb328)); have GE328 := GW328; replace HB := qHB HB hb; have NB327_328 := qK (qlt BK327 hg); have NB328_327 := qK (qgt BK327 hg); replace BK327 := qbb BK327 hb; clear hb hbox hg; have hnb23 := NB327_328.out; have hnc23 := NB328_327.out; have hz24 := qz3 BK327.out; have hz25 := qz3 BK328.out)); go_ret; exact ⟨qR, qB⟩
end Go.Proofs.YtjihphegmdfpfaaDoor.L
end
section
namespace Go.Proofs.YtjihphegmdfpfaaDoor.L
open Go.RowKit Go.Proofs.YtjihphegmdfpfaaDoorW.PrintWords Go.Proofs.YtjihphegmdfpfaaDoorW.PrintLast Go.Proofs.YtjihphegmdfpfaaDoorW.PrintMore
attribute [local go_sem] max2_int min2_int max_two min_two max_three min_three max_four min_four
set_option linter.unusedVariables false
set_option linter.unusedSimpArgs false
def laws_eqItemS.l0 : Nat → List (S88) → List (S88) → Int → Option (Bool)
  | 0, _, _, _ => none
  | k + 1, x0, x1, x5 => if x5 < (x0.length : Int) then (if 0 ≤ x5 then (if x5 < (x1.length : Int) then ((laws_eqItem.f ((rd_T88 x0 x5).f0) ((rd_T88 x0 x5).f1) ((rd_T88 x0 x5).f2) ((rd_T88 x1 x5).f0) ((rd_T88 x1 x5).f1) ((rd_T88 x1 x5).f2)).bind fun t331 => (if t331 = true then (laws_eqItemS.l0 k x0 x1 (wrap64 (x5 + 1))) else (some false))) else (none)) else (none)) else (some true)
def laws_eqItemS.f (k : Nat) (l0 : List (S88)) (l1 : List (S88)) : Option (Bool) := if (l0.length : Int) = (l1.length : Int) then (laws_eqItemS.l0 k l0 l1 0) else (some false)
theorem laws_eqItemS.mono_l : ∀ k, (∀ y0 y1 y2, LeO (laws_eqItemS.l0 k y0 y1 y2) (laws_eqItemS.l0 (k + 1) y0 y1 y2))
  | 0 => fun _ _ _ r h => by simp [laws_eqItemS.l0] at h
  | k + 1 => by
    have ih0 := laws_eqItemS.mono_l k
    · intro y0 y1 y2
      unfold laws_eqItemS.l0
      repeat' first
      | (with_reducible exact ih0 _ _ _)
      | (with_reducible exact LeO.refl _)
      | (with_reducible exact LeO.none _)
      | (with_reducible refine LeO.ite ?_ ?_)
      | (with_reducible refine LeO.bind ?_ (fun _ => ?_))
      | exact ih0 _ _ _
      | exact LeO.none _
      | refine LeO.ite ?_ ?_
      | refine LeO.bind ?_ (fun _ => ?_)
theorem laws_eqItemS.mono : ∀ a0 a1 k, LeO (laws_eqItemS.f k a0 a1) (laws_eqItemS.f (k + 1) a0 a1) := by
  intro a0 a1 k
  have ih0 := laws_eqItemS.mono_l k
  unfold laws_eqItemS.f
  repeat' first
      | (with_reducible exact ih0 _ _ _)
      | (with_reducible exact LeO.refl _)
      | (with_reducible exact LeO.none _)
      | (with_reducible refine LeO.ite ?_ ?_)
      | (with_reducible refine LeO.bind ?_ (fun _ => ?_))
      | exact ih0 _ _ _
      | exact LeO.none _
      | refine LeO.ite ?_ ?_
      | refine LeO.bind ?_ (fun _ => ?_)
def laws_eqItemS.T6 : Bool × List (List Nat × List Nat) := (true, [([], []), ([], []), ([0, 1], [0, 1]), ([2], [2]), ([], []), ([], []), ([4, 5], [4, 5]), ([6], [6]), ([3, 7], [3, 7]), ([8], [8])])
def laws_eqItemS.B6 : List Nat := [0, 0, 3, 7, 0, 0, 48, 112, 255, 511]
theorem laws_eqItemS.tab6 : rtab .any (opsOf Tryd.f35 6) = laws_eqItemS.T6 := by kernel_rfl
theorem laws_eqItemS.bits6 : waitsOk laws_eqItemS.T6.2 laws_eqItemS.B6 = true := by kernel_rfl
set_option maxHeartbeats 8000000 in
set_option maxRecDepth 100000 in
theorem laws_eqItemS.calls (k : Nat) (A0 : Option Addr) (c0 : Nat) (l0 : List (S88)) (A1 : Option Addr) (c1 : Nat) (l1 : List (S88)) (r : Bool) (w : World) (hr0 : Kd.C k88 w A0 l0.length l0) (hc0 : l0.length ≤ c0) (hr1 : Kd.C k88 w A1 l1.length l1) (hc1 : l1.length ≤ c1) (h : laws_eqItemS.f k l0 l1 = some r) :
    Calls Tryd.prog 35 #[.slice A0 l0.length c0, .slice A1 l1.length c1] w fun e w' => e = .returned (.bool r) ∧ Below w.heap.size w w' := by
  have hu88 := Tryd.underlying88; have HR0 := qK hr0; have HC0 := qK hc0; clear hr0 hc0; have HR1 := qK hr1; have HC1 := qK hc1; clear hr1 hc1; have HB := qK (Below.refl w.heap.size w); have H : (if (l0.length : Int) = (l1.length : Int) then (laws_eqItemS.l0 k l0 l1 0) else (some false)) = some r := h; clear h; by_cases c3 : (l0.length : Int) = (l1.length : Int)
  · rw [if_pos c3] at H; have c3b0 : ((l0.length : Int) == (l1.length : Int)) = true := beq_iff_eq.mpr c3; have c3b1 : ((l0.length : Int) != (l1.length : Int)) = false := bne_eq_false_iff_eq.mpr c3; (have c3b2 : (l0.length == l1.length) = true := by first | simpa using c3 | (simp at c3 ⊢; omega)); clear c3; have H' := qK H; clear H; go_enter Tryd.func35, Tryd.ntmps35; go_wp2; go_loopg [5] k (fun kq v5 w' => ∃ (x5_1 : Int), v5 = .int .i64 x5_1 ∧ Aside0 (laws_eqItemS.l0 kq l0 l1 x5_1 = some r) ∧ Aside0 (kq ≤ k) ∧ Aside0 (Below w.heap.size w w'))
    case atStart => exact ⟨(0), qS, H', ⟨Nat.le_refl _⟩, ⟨qB⟩⟩
    case round =>
      clear H'; (try clear c1); (try clear p2); (try clear c3); (try clear c3b0); (try clear c3b1); (try clear c3b2); obtain ⟨x5_1, rfl, HA, HK1, HB⟩ := hrel
      cases gk with
      | zero => exact absurd HA.out (by simp [laws_eqItemS.l0])
      | succ k1 =>
        have H := HA.out; clear HA; simp only [laws_eqItemS.l0] at H; by_cases c4 : x5_1 < (l0.length : Int)
        · rw [if_pos c4] at H; have c4b0 : decide (x5_1 < (l0.length : Int)) = true := decide_eq_true c4; clear c4; by_cases c5 : 0 ≤ x5_1
          · rw [if_pos c5] at H; have c5b0 : decide (0 ≤ x5_1) = true := decide_eq_true c5; clear c5; by_cases c6 : x5_1 < (l1.length : Int)
            · rw [if_pos c6] at H; have c6b0 : decide (x5_1 < (l1.length : Int)) = true := decide_eq_true c6; clear c6; replace H := Option.bind_eq_some_iff.mp H; obtain ⟨t331, A70, H⟩ := H; have A7 := qK A70; clear A70; by_cases c8 : t331 = true
              · subst c8; rw [if_pos rfl] at H; have H' := qK H; clear H; (try go_wp2); replace HB := qK (bd1 HB.out); have p329 : 0 ≤ (x5_1 : Int) := of_decide_eq_true qa; have q329 : x5_1 < (l0.length : Int) := of_decide_eq_true qa; obtain ⟨ad329, e329, hx329_0, hx329_1, hx329_2⟩ := at_T88 HR0.out x5_1 p329 q329; have hw329_2 := hx329_2; have hw329_1 := hx329_1; have hw329_0 := hx329_0; cases e329; replace hx329_0 := (HB.out.cell (World.block_lt_of_cell? w _ hx329_0)).trans hx329_0; replace hx329_1 := (HB.out.cell (World.block_lt_of_cell? w _ hx329_1)).trans hx329_1; replace hx329_2 := (HB.out.cell (World.block_lt_of_cell? w _ hx329_2)).trans hx329_2; replace p329 := eq_true p329; replace q329 := eq_true q329; have p330 : 0 ≤ (x5_1 : Int) := of_decide_eq_true qa; have q330 : x5_1 < (l1.length : Int) := of_decide_eq_true qa; obtain ⟨ad330, e330, hx330_0, hx330_1, hx330_2⟩ := at_T88 HR1.out x5_1 p330 q330; have hw330_2 := hx330_2; have hw330_1 := hx330_1; have hw330_0 := hx330_0; cases e330; replace hx330_0 := (HB.out.cell (World.block_lt_of_cell? w _ hx330_0)).trans hx330_0; replace hx330_1 := (HB.out.cell (World.block_lt_of_cell? w _ hx330_1)).trans hx330_1; replace hx330_2 := (HB.out.cell (World.block_lt_of_cell? w _ hx330_2)).trans hx330_2; replace p330 := eq_true p330; replace q330 := eq_true q330; refine start_ (n := 10) (S := fun w' => w'.cell? (ad329.add ((x5_1).toNat * 3)) = some (.int .i64 ((rd_T88 l0 x5_1).f0)) ∧ w'.cell? ⟨(ad329.add ((x5_1).toNat * 3)).block, (ad329.add ((x5_1).toNat * 3)).off + 1, none⟩ = some (.int .i64 ((rd_T88 l0 x5_1).f1)) ∧ w'.cell? ⟨(ad329.add ((x5_1).toNat * 3)).block, (ad329.add ((x5_1).toNat * 3)).off + 2, none⟩ = some (.string ((rd_T88 l0 x5_1).f2)) ∧ w'.cell? (ad330.add ((x5_1).toNat * 3)) = some (.int .i64 ((rd_T88 l1 x5_1).f0)) ∧ w'.cell? ⟨(ad330.add ((x5_1).toNat * 3)).block, (ad330.add ((x5_1).toNat * 3)).off + 1, none⟩ = some (.int .i64 ((rd_T88 l1 x5_1).f1)) ∧ w'.cell? ⟨(ad330.add ((x5_1).toNat * 3)).block, (ad330.add ((x5_1).toNat * 3)).off + 2, none⟩ = some (.string ((rd_T88 l1 x5_1).f2))) (ds := []) #[false, false, false, false, false, false, false, false, false, false] (by kernel_rfl) rfl rfl ⟨((HB.out.cell (World.block_lt_of_cell? w _ hw329_0)).trans hw329_0), ((HB.out.cell (World.block_lt_of_cell? w _ hw329_1)).trans hw329_1), ((HB.out.cell (World.block_lt_of_cell? w _ hw329_2)).trans hw329_2), ((HB.out.cell (World.block_lt_of_cell? w _ hw330_0)).trans hw330_0), ((HB.out.cell (World.block_lt_of_cell? w _ hw330_1)).trans hw330_1), ((HB.out.cell (World.block_lt_of_cell? w _ hw330_2)).trans hw330_2)⟩ (fun hHeld => ?_); refine with_tabW laws_eqItemS.tab6 laws_eqItemS.bits6 (fun HT_ HW_ => ?_); generalize wr.drew = w9 at HB hx329_0 hx329_1 hx329_2 hx330_0 hx330_1 hx330_2 hHeld ⊢; refine pure_ (i := 0) (N := some 17) (v := ?_) (a' := ?_) #[true, false, false, false, false, false, false, false, false, false] rfl rfl (any_of HT_.out (by kernel_rfl)) (fun _ _ _ h => h) (Or.inl ⟨by rfl, ?_⟩) ?_ ?_; rotate_left
                · intro w'; go_simp; (with_reducible rfl)
                rotate_left
                · simp only [Act.put, List.setIfInBounds_toArray, List.set_cons_zero, List.set_cons_succ, i64_w, i32_w]; rfl
                refine pure_ (i := 1) (N := some 18) (v := ?_) (a' := ?_) #[true, true, false, false, false, false, false, false, false, false] rfl rfl (any_of HT_.out (by kernel_rfl)) (fun _ _ _ h => h) (Or.inl ⟨by rfl, ?_⟩) ?_ ?_; rotate_left
                · intro w'; go_simp; (with_reducible rfl)
                rotate_left
                · simp only [Act.put, List.setIfInBounds_toArray, List.set_cons_zero, List.set_cons_succ, i64_w, i32_w]; rfl
                refine pure_ (i := 2) (N := some 19) (v := ?_) (a' := ?_) #[true, true, true, false, false, false, false, false, false, false] rfl rfl (any_of HT_.out (by kernel_rfl)) (fun _ _ _ h => h) (Or.inl ⟨by rfl, ?_⟩) ?_ ?_; rotate_left
                · intro w'; go_simp; (with_reducible rfl)
                rotate_left
                · simp only [Act.put, List.setIfInBounds_toArray, List.set_cons_zero, List.set_cons_succ, i64_w, i32_w]; rfl
                refine pure_ (i := 4) (N := some 21) (v := ?_) (a' := ?_) #[true, true, true, false, true, false, false, false, false, false] rfl rfl (any_of HT_.out (by kernel_rfl)) (fun _ _ _ h => h) (Or.inl ⟨by rfl, ?_⟩) ?_ ?_; rotate_left
                · intro w'; go_simp; (with_reducible rfl)
                rotate_left
                · simp only [Act.put, List.setIfInBounds_toArray, List.set_cons_zero, List.set_cons_succ, i64_w, i32_w]; rfl
                refine pure_ (i := 5) (N := some 22) (v := ?_) (a' := ?_) #[true, true, true, false, true, true, false, false, false, false] rfl rfl (any_of HT_.out (by kernel_rfl)) (fun _ _ _ h => h) (Or.inl ⟨by rfl, ?_⟩) ?_ ?_; rotate_left
                · intro w'; go_simp; (with_reducible rfl)
                rotate_left
                · simp only [Act.put, List.setIfInBounds_toArray, List.set_cons_zero, List.set_cons_succ, i64_w, i32_w]; rfl
                refine pure_ (i := 6) (N := some 23) (v := ?_) (a' := ?_) #[true, true, true, false, true, true, true, false, false, false] rfl rfl (any_of HT_.out (by kernel_rfl)) (fun _ _ _ h => h) (Or.inl ⟨by rfl, ?_⟩) ?_ ?_; rotate_left
                · intro w'; go_simp; (with_reducible rfl)
                rotate_left
                · simp only [Act.put, List.setIfInBounds_toArray, List.set_cons_zero, List.set_cons_succ, i64_w, i32_w]; rfl
                refine take_ (i := 3) (N := some 20) (v := ?_) (a' := ?_) #[true, true, true, true, true, true, true, false, false, false] rfl rfl (take_ofW HT_.out HW_.out (by kernel_rfl)) (fun _ _ _ h => h) (Or.inl ⟨by rfl, ?_⟩) hHeld ?_ ?_; rotate_left
                · rintro w' ⟨s0, s1, s2, s3, s4, s5⟩; go_simp; (with_reducible rfl)
                rotate_left
                · simp only [Act.put, List.setIfInBounds_toArray, List.set_cons_zero, List.set_cons_succ, i64_w, i32_w]; rfl
                refine take_ (i := 7) (N := some 24) (v := ?_) (a' := ?_) #[true, true, true, true, true, true, true, true, false, false] rfl rfl (take_ofW HT_.out HW_.out (by kernel_rfl)) (fun _ _ _ h => h) (Or.inl ⟨by rfl, ?_⟩) hHeld ?_ ?_; rotate_left
                · rintro w' ⟨s0, s1, s2, s3, s4, s5⟩; go_simp; (with_reducible rfl)
                rotate_left
                · simp only [Act.put, List.setIfInBounds_toArray, List.set_cons_zero, List.set_cons_succ, i64_w, i32_w]; rfl
                refine one_ (i := 8) (N := some 25) #[true, true, true, true, true, true, true, true, true, false] rfl rfl (one_of HT_.out (by kernel_rfl)) (by decide) (fun K hK => ?_); refine goes_ Tryd.func69 (by kernel_rfl) rfl #[.agg #[.int .i64 ((rd_T88 l0 x5_1).f0), .int .i64 ((rd_T88 l0 x5_1).f1), .string ((rd_T88 l0 x5_1).f2)], .agg #[.int .i64 ((rd_T88 l1 x5_1).f0), .int .i64 ((rd_T88 l1 x5_1).f1), .string ((rd_T88 l1 x5_1).f2)]] (by rfl) rfl rfl qA ?_; (with_reducible refine (laws_eqItem.calls ((rd_T88 l0 x5_1).f0) ((rd_T88 l0 x5_1).f1) ((rd_T88 l0 x5_1).f2) ((rd_T88 l1 x5_1).f0) ((rd_T88 l1 x5_1).f1) ((rd_T88 l1 x5_1).f2) true _ A7.out).mono ?_); rintro e w10 ⟨rfl, hb⟩; refine ⟨_, rfl, ?_⟩; replace HB := qHB HB hb; (try clear hb); (try clear hb2); (try clear hk); (try clear hi); refine hK.out _ _ ⟨((HB.out.cell (World.block_lt_of_cell? w _ hw329_0)).trans hw329_0), ((HB.out.cell (World.block_lt_of_cell? w _ hw329_1)).trans hw329_1), ((HB.out.cell (World.block_lt_of_cell? w _ hw329_2)).trans hw329_2), ((HB.out.cell (World.block_lt_of_cell? w _ hw330_0)).trans hw330_0), ((HB.out.cell (World.block_lt_of_cell? w _ hw330_1)).trans hw330_1), ((HB.out.cell (World.block_lt_of_cell? w _ hw330_2)).trans hw330_2)⟩ (fun hHeld => ?_); clear hK K; refine norm_ (a' := ?_) ?_ ?_; rotate_left
                · show Act.put _ (some 25) _ = _; simp only [Act.put, List.setIfInBounds_toArray, List.set_cons_zero, List.set_cons_succ, i64_w, i32_w]; rfl
                refine pure_ (i := 9) (N := some 26) (v := ?_) (a' := ?_) #[true, true, true, true, true, true, true, true, true, true] rfl rfl (any_of HT_.out (by kernel_rfl)) (fun _ _ _ h => h) (Or.inl ⟨by rfl, ?_⟩) ?_ ?_; rotate_left
                · intro w'; go_simp; (with_reducible rfl)
                rotate_left
                · simp only [Act.put, List.setIfInBounds_toArray, List.set_cons_zero, List.set_cons_succ, i64_w, i32_w]; rfl
                refine done_ (done_of HT_.out (by kernel_rfl)) ?_; (try go_wp2); go_roundg k1
                case measure => have := HK1.out; omega
                case rel => exact ⟨(wrap64 (x5_1 + 1)), qS, H', ⟨by have := HK1.out; omega⟩, ⟨qB⟩⟩
              · replace c8 := Bool.eq_false_iff.mpr c8; subst c8; rw [if_neg qff] at H; obtain rfl := Option.some.inj H; (try go_wp2); replace HB := qK (bd1 HB.out); have p329 : 0 ≤ (x5_1 : Int) := of_decide_eq_true qa; have q329 : x5_1 < (l0.length : Int) := of_decide_eq_true qa; obtain ⟨ad329, e329, hx329_0, hx329_1, hx329_2⟩ := at_T88 HR0.out x5_1 p329 q329; have hw329_2 := hx329_2; have hw329_1 := hx329_1; have hw329_0 := hx329_0; cases e329; replace hx329_0 := (HB.out.cell (World.block_lt_of_cell? w _ hx329_0)).trans hx329_0; replace hx329_1 := (HB.out.cell (World.block_lt_of_cell? w _ hx329_1)).trans hx329_1; replace hx329_2 := (HB.out.cell (World.block_lt_of_cell? w _ hx329_2)).trans hx329_2; replace p329 := eq_true p329; replace q329 := eq_true q329; have p330 : 0 ≤ (x5_1 : Int) := of_decide_eq_true qa; have q330 : x5_1 < (l1.length : Int) := of_decide_eq_true qa; obtain ⟨ad330, e330, hx330_0, hx330_1, hx330_2⟩ := at_T88 HR1.out x5_1 p330 q330; have hw330_2 := hx330_2; have hw330_1 := hx330_1; have hw330_0 := hx330_0; cases e330; replace hx330_0 := (HB.out.cell (World.block_lt_of_cell? w _ hx330_0)).trans hx330_0; replace hx330_1 := (HB.out.cell (World.block_lt_of_cell? w _ hx330_1)).trans hx330_1; replace hx330_2 := (HB.out.cell (World.block_lt_of_cell? w _ hx330_2)).trans hx330_2; replace p330 := eq_true p330; replace q330 := eq_true q330; refine start_ (n := 10) (S := fun w' => w'.cell? (ad329.add ((x5_1).toNat * 3)) = some (.int .i64 ((rd_T88 l0 x5_1).f0)) ∧ w'.cell? ⟨(ad329.add ((x5_1).toNat * 3)).block, (ad329.add ((x5_1).toNat * 3)).off + 1, none⟩ = some (.int .i64 ((rd_T88 l0 x5_1).f1)) ∧ w'.cell? ⟨(ad329.add ((x5_1).toNat * 3)).block, (ad329.add ((x5_1).toNat * 3)).off + 2, none⟩ = some (.string ((rd_T88 l0 x5_1).f2)) ∧ w'.cell? (ad330.add ((x5_1).toNat * 3)) = some (.int .i64 ((rd_T88 l1 x5_1).f0)) ∧ w'.cell? ⟨(ad330.add ((x5_1).toNat * 3)).block, (ad330.add ((x5_1).toNat * 3)).off + 1, none⟩ = some (.int .i64 ((rd_T88 l1 x5_1).f1)) ∧ w'.cell? ⟨(ad330.add ((x5_1).toNat * 3)).block, (ad330.add ((x5_1).toNat * 3)).off + 2, none⟩ = some (.string ((rd_T88 l1 x5_1).f2))) (ds := []) #[false, false, false, false, false, false, false, false, false, false] (by kernel_rfl) rfl rfl ⟨((HB.out.cell (World.block_lt_of_cell? w _ hw329_0)).trans hw329_0), ((HB.out.cell (World.block_lt_of_cell? w _ hw329_1)).trans hw329_1), ((HB.out.cell (World.block_lt_of_cell? w _ hw329_2)).trans hw329_2), ((HB.out.cell (World.block_lt_of_cell? w _ hw330_0)).trans hw330_0), ((HB.out.cell (World.block_lt_of_cell? w _ hw330_1)).trans hw330_1), ((HB.out.cell (World.block_lt_of_cell? w _ hw330_2)).trans hw330_2)⟩ (fun hHeld => ?_); refine with_tabW laws_eqItemS.tab6 laws_eqItemS.bits6 (fun HT_ HW_ => ?_); generalize wr.drew = w11 at HB hx329_0 hx329_1 hx329_2 hx330_0 hx330_1 hx330_2 hHeld ⊢; refine pure_ (i := 0) (N := some 17) (v := ?_) (a' := ?_) #[true, false, false, false, false, false, false, false, false, false] rfl rfl (any_of HT_.out (by kernel_rfl)) (fun _ _ _ h => h) (Or.inl ⟨by rfl, ?_⟩) ?_ ?_; rotate_left
                · intro w'; go_simp; (with_reducible rfl)
                rotate_left
                · simp only [Act.put, List.setIfInBounds_toArray, List.set_cons_zero, List.set_cons_succ, i64_w, i32_w]; rfl
                refine pure_ (i := 1) (N := some 18) (v := ?_) (a' := ?_) #[true, true, false, false, false, false, false, false, false, false] rfl rfl (any_of HT_.out (by kernel_rfl)) (fun _ _ _ h => h) (Or.inl ⟨by rfl, ?_⟩) ?_ ?_; rotate_left
                · intro w'; go_simp; (with_reducible rfl)
                rotate_left
                · simp only [Act.put, List.setIfInBounds_toArray, List.set_cons_zero, List.set_cons_succ, i64_w, i32_w]; rfl
                refine pure_ (i := 2) (N := some 19) (v := ?_) (a' := ?_) #[true, true, true, false, false, false, false, false, false, false] rfl rfl (any_of HT_.out (by kernel_rfl)) (fun _ _ _ h => h) (Or.inl ⟨by rfl, ?_⟩) ?_ ?_; rotate_left
                · intro w'; go_simp; (with_reducible rfl)
                rotate_left
                · simp only [Act.put, List.setIfInBounds_toArray, List.set_cons_zero, List.set_cons_succ, i64_w, i32_w]; rfl
                refine pure_ (i := 4) (N := some 21) (v := ?_) (a' := ?_) #[true, true, true, false, true, false, false, false, false, false] rfl rfl (any_of HT_.out (by kernel_rfl)) (fun _ _ _ h => h) (Or.inl ⟨by rfl, ?_⟩) ?_ ?_; rotate_left
                · intro w'; go_simp; (with_reducible rfl)
                rotate_left
                · simp only [Act.put, List.setIfInBounds_toArray, List.set_cons_zero, List.set_cons_succ, i64_w, i32_w]; rfl
                refine pure_ (i := 5) (N := some 22) (v := ?_) (a' := ?_) #[true, true, true, false, true, true, false, false, false, false] rfl rfl (any_of HT_.out (by kernel_rfl)) (fun _ _ _ h => h) (Or.inl ⟨by rfl, ?_⟩) ?_ ?_; rotate_left
                · intro w'; go_simp; (with_reducible rfl)
                rotate_left
                · simp only [Act.put, List.setIfInBounds_toArray, List.set_cons_zero, List.set_cons_succ, i64_w, i32_w]; rfl
                refine pure_ (i := 6) (N := some 23) (v := ?_) (a' := ?_) #[true, true, true, false, true, true, true, false, false, false] rfl rfl (any_of HT_.out (by kernel_rfl)) (fun _ _ _ h => h) (Or.inl ⟨by rfl, ?_⟩) ?_ ?_; rotate_left
                · intro w'; go_simp; (with_reducible rfl)
                rotate_left
                · simp only [Act.put, List.setIfInBounds_toArray, List.set_cons_zero, List.set_cons_succ, i64_w, i32_w]; rfl
                refine take_ (i := 3) (N := some 20) (v := ?_) (a' := ?_) #[true, true, true, true, true, true, true, false, false, false] rfl rfl (take_ofW HT_.out HW_.out (by kernel_rfl)) (fun _ _ _ h => h) (Or.inl ⟨by rfl, ?_⟩) hHeld ?_ ?_; rotate_left
                · rintro w' ⟨s0, s1, s2, s3, s4, s5⟩; go_simp; (with_reducible rfl)
                rotate_left
                · simp only [Act.put, List.setIfInBounds_toArray, List.set_cons_zero, List.set_cons_succ, i64_w, i32_w]; rfl
                refine take_ (i := 7) (N := some 24) (v := ?_) (a' := ?_) #[true, true, true, true, true, true, true, true, false, false] rfl rfl (take_ofW HT_.out HW_.out (by kernel_rfl)) (fun _ _ _ h => h) (Or.inl ⟨by rfl, ?_⟩) hHeld ?_ ?_; rotate_left
                · rintro w' ⟨s0, s1, s2, s3, s4, s5⟩; go_simp; (with_reducible rfl)
                rotate_left
                · simp only [Act.put, List.setIfInBounds_toArray, List.set_cons_zero, List.set_cons_succ, i64_w, i32_w]; rfl
                refine one_ (i := 8) (N := some 25) #[true, true, true, true, true, true, true, true, true, false] rfl rfl (one_of HT_.out (by kernel_rfl)) (by decide) (fun K hK => ?_); refine goes_ Tryd.func69 (by kernel_rfl) rfl #[.agg #[.int .i64 ((rd_T88 l0 x5_1).f0), .int .i64 ((rd_T88 l0 x5_1).f1), .string ((rd_T88 l0 x5_1).f2)], .agg #[.int .i64 ((rd_T88 l1 x5_1).f0), .int .i64 ((rd_T88 l1 x5_1).f1), .string ((rd_T88 l1 x5_1).f2)]] (by rfl) rfl rfl qA ?_; (with_reducible refine (laws_eqItem.calls ((rd_T88 l0 x5_1).f0) ((rd_T88 l0 x5_1).f1) ((rd_T88 l0 x5_1).f2) ((rd_T88 l1 x5_1).f0) ((rd_T88 l1 x5_1).f1) ((rd_T88 l1 x5_1).f2) false _ A7.out).mono ?_); rintro e w12 ⟨rfl, hb⟩; refine ⟨_, rfl, ?_⟩; replace HB := qHB HB hb; (try clear hb); (try clear hb2); (try clear hk); (try clear hi); refine hK.out _ _ ⟨((HB.out.cell (World.block_lt_of_cell? w _ hw329_0)).trans hw329_0), ((HB.out.cell (World.block_lt_of_cell? w _ hw329_1)).trans hw329_1), ((HB.out.cell (World.block_lt_of_cell? w _ hw329_2)).trans hw329_2), ((HB.out.cell (World.block_lt_of_cell? w _ hw330_0)).trans hw330_0), ((HB.out.cell (World.block_lt_of_cell? w _ hw330_1)).trans hw330_1), ((HB.out.cell (World.block_lt_of_cell? w _ hw330_2)).trans hw330_2)⟩ (fun hHeld => ?_); clear hK K; refine norm_ (a' := ?_) ?_ ?_; rotate_left
                · show Act.put _ (some 25) _ = _; simp only [Act.put, List.setIfInBounds_toArray, List.set_cons_zero, List.set_cons_succ, i64_w, i32_w]; rfl
                refine pure_ (i := 9) (N := some 26) (v := ?_) (a' := ?_) #[true, true, true, true, true, true, true, true, true, true] rfl rfl (any_of HT_.out (by kernel_rfl)) (fun _ _ _ h => h) (Or.inl ⟨by rfl, ?_⟩) ?_ ?_; rotate_left
                · intro w'; go_simp; (with_reducible rfl)
                rotate_left
                · simp only [Act.put, List.setIfInBounds_toArray, List.set_cons_zero, List.set_cons_succ, i64_w, i32_w]; rfl
                refine done_ (done_of HT_.out (by kernel_rfl)) ?_; (try go_wp2); go_ret; exact ⟨qR, qB⟩
            · rw [if_neg c6] at H; exact absurd H (by simp)
          · rw [if_neg c5] at H; exact absurd H (by simp)
        · rw [if_neg c4] at H; have c4b0 : decide (x5_1 < (l0.length : Int)) = false := decide_eq_false c4; clear c4; obtain rfl := Option.some.inj H; go_wp2; go_ret; exact ⟨qR, qB⟩
  · rw [if_neg c3] at H; have c3b0 : ((l0.length : Int) == (l1.length : Int)) = false := beq_eq_false_iff_ne.mpr c3; have c3b1 : ((l0.length : Int) != (l1.length : Int)) = true := bne_iff_ne.mpr c3; (have c3b2 : (l0.length == l1.length) = false := by first | simpa using c3 | (simp at c3 ⊢; omega)); obtain rfl := Option.some.inj H; go_enter Tryd.func35, Tryd.ntmps35; go_wp2; go_ret; exact ⟨qR, qB⟩
def laws_eqItemSS.l0 : Nat → List (List (S88)) → List (List (S88)) → Int → Option (Bool)
  | 0, _, _, _ => none
  | k + 1, x0, x1, x5 => if x5 < (x0.length : Int) then (if 0 ≤ x5 then (if x5 < (x1.length : Int) then ((laws_eqItemS.f k (rd_L9 x0 x5) (rd_L9 x1 x5)).bind fun t334 => (if t334 = true then (laws_eqItemSS.l0 k x0 x1 (wrap64 (x5 + 1))) else (some false))) else (none)) else (none)) else (some true)
def laws_eqItemSS.f (k : Nat) (l0 : List (List (S88))) (l1 : List (List (S88))) : Option (Bool) := if (l0.length : Int) = (l1.length : Int) then (laws_eqItemSS.l0 k l0 l1 0) else (some false)
theorem laws_eqItemSS.mono_l : ∀ k, (∀ y0 y1 y2, LeO (laws_eqItemSS.l0 k y0 y1 y2) (laws_eqItemSS.l0 (k + 1) y0 y1 y2))
  | 0 => fun _ _ _ r h => by simp [laws_eqItemSS.l0] at h
  | k + 1 => by
    have ih0 := laws_eqItemSS.mono_l k
    · intro y0 y1 y2
      unfold laws_eqItemSS.l0
      repeat' first
      | (with_reducible exact ih0 _ _ _)
      | (with_reducible exact laws_eqItemS.mono _ _ _)
      | (with_reducible exact LeO.refl _)
      | (with_reducible exact LeO.none _)
      | (with_reducible refine LeO.ite ?_ ?_)
      | (with_reducible refine LeO.bind ?_ (fun _ => ?_))
      | exact ih0 _ _ _
      | exact laws_eqItemS.mono _ _ _
      | exact LeO.none _
      | refine LeO.ite ?_ ?_
      | refine LeO.bind ?_ (fun _ => ?_)
theorem laws_eqItemSS.mono : ∀ a0 a1 k, LeO (laws_eqItemSS.f k a0 a1) (laws_eqItemSS.f (k + 1) a0 a1) := by
  intro a0 a1 k
  have ih0 := laws_eqItemSS.mono_l k
  unfold laws_eqItemSS.f
  repeat' first
      | (with_reducible exact ih0 _ _ _)
      | (with_reducible exact laws_eqItemS.mono _ _ _)
      | (with_reducible exact LeO.refl _)
      | (with_reducible exact LeO.none _)
      | (with_reducible refine LeO.ite ?_ ?_)
      | (with_reducible refine LeO.bind ?_ (fun _ => ?_))
      | exact ih0 _ _ _
      | exact laws_eqItemS.mono _ _ _
      | exact LeO.none _
      | refine LeO.ite ?_ ?_
      | refine LeO.bind ?_ (fun _ => ?_)
def laws_eqItemSS.T6 : Bool × List (List Nat × List Nat) := (true, [([], []), ([], []), ([0, 1], [0, 1]), ([2], [2]), ([], []), ([], []), ([4, 5], [4, 5]), ([6], [6]), ([3, 7], [3, 7]), ([8], [8])])
def laws_eqItemSS.B6 : List Nat := [0, 0, 3, 7, 0, 0, 48, 112, 255, 511]
theorem laws_eqItemSS.tab6 : rtab .any (opsOf Tryd.f36 6) = laws_eqItemSS.T6 := by kernel_rfl
theorem laws_eqItemSS.bits6 : waitsOk laws_eqItemSS.T6.2 laws_eqItemSS.B6 = true := by kernel_rfl
set_option maxHeartbeats 8000000 in
set_option maxRecDepth 100000 in
theorem laws_eqItemSS.calls (k : Nat) (A0 : Option Addr) (c0 : Nat) (l0 : List (List (S88))) (A1 : Option Addr) (c1 : Nat) (l1 : List (List (S88))) (r : Bool) (w : World) (hr0 : Kd.C (Kd.slice 88 k88) w A0 l0.length l0) (hc0 : l0.length ≤ c0) (hr1 : Kd.C (Kd.slice 88 k88) w A1 l1.length l1) (hc1 : l1.length ≤ c1) (h : laws_eqItemSS.f k l0 l1 = some r) :
    Calls Tryd.prog 36 #[.slice A0 l0.length c0, .slice A1 l1.length c1] w fun e w' => e = .returned (.bool r) ∧ Below w.heap.size w w' := by
  have HR0 := qK hr0; have HC0 := qK hc0; clear hr0 hc0; have HR1 := qK hr1; have HC1 := qK hc1; clear hr1 hc1; have HB := qK (Below.refl w.heap.size w); have H : (if (l0.length : Int) = (l1.length : Int) then (laws_eqItemSS.l0 k l0 l1 0) else (some false)) = some r := h; clear h; by_cases c3 : (l0.length : Int) = (l1.length : Int)
  · rw [if_pos c3] at H; have c3b0 : ((l0.length : Int) == (l1.length : Int)) = true := beq_iff_eq.mpr c3; have c3b1 : ((l0.length : Int) != (l1.length : Int)) = false := bne_eq_false_iff_eq.mpr c3; (have c3b2 : (l0.length == l1.length) = true := by first | simpa using c3 | (simp at c3 ⊢; omega)); clear c3; have H' := qK H; clear H; go_enter Tryd.func36, Tryd.ntmps36; go_wp2; go_loopg [5] k (fun kq v5 w' => ∃ (x5_1 : Int), v5 = .int .i64 x5_1 ∧ Aside0 (laws_eqItemSS.l0 kq l0 l1 x5_1 = some r) ∧ Aside0 (kq ≤ k) ∧ Aside0 (Below w.heap.size w w'))
    case atStart => exact ⟨(0), qS, H', ⟨Nat.le_refl _⟩, ⟨qB⟩⟩
    case round =>
      clear H'; (try clear c1); (try clear p2); (try clear c3); (try clear c3b0); (try clear c3b1); (try clear c3b2); obtain ⟨x5_1, rfl, HA, HK1, HB⟩ := hrel
      cases gk with
      | zero => exact absurd HA.out (by simp [laws_eqItemSS.l0])
      | succ k1 =>
        have H := HA.out; clear HA; simp only [laws_eqItemSS.l0] at H; by_cases c4 : x5_1 < (l0.length : Int)
        · rw [if_pos c4] at H; have c4b0 : decide (x5_1 < (l0.length : Int)) = true := decide_eq_true c4; clear c4; by_cases c5 : 0 ≤ x5_1
          · rw [if_pos c5] at H; have c5b0 : decide (0 ≤ x5_1) = true := decide_eq_true c5; clear c5; by_cases c6 : x5_1 < (l1.length : Int)
            · rw [if_pos c6] at H; have c6b0 : decide (x5_1 < (l1.length : Int)) = true := decide_eq_true c6; clear c6; replace H := Option.bind_eq_some_iff.mp H; obtain ⟨t334, A70, H⟩ := H; have A7 := qK A70; clear A70; by_cases c8 : t334 = true
              · subst c8; rw [if_pos rfl] at H; have H' := qK H; clear H; (try go_wp2); replace HB := qK (bd1 HB.out); have p332 : 0 ≤ (x5_1 : Int) := of_decide_eq_true qa; have q332 : x5_1 < (l0.length : Int) := of_decide_eq_true qa; obtain ⟨ad332, A332_0, c332_0, e332, hx332_0, hl332_0, hi332_0⟩ := at_L9 HR0.out x5_1 p332 q332; have hw332_0 := hx332_0; cases e332; replace hx332_0 := (HB.out.cell (World.block_lt_of_cell? w _ hx332_0)).trans hx332_0; have HR332_0 := qK hi332_0; have HC332_0 := qK hl332_0; clear hi332_0 hl332_0; replace p332 := eq_true p332; replace q332 := eq_true q332; have p333 : 0 ≤ (x5_1 : Int) := of_decide_eq_true qa; have q333 : x5_1 < (l1.length : Int) := of_decide_eq_true qa; obtain ⟨ad333, A333_0, c333_0, e333, hx333_0, hl333_0, hi333_0⟩ := at_L9 HR1.out x5_1 p333 q333; have hw333_0 := hx333_0; cases e333; replace hx333_0 := (HB.out.cell (World.block_lt_of_cell? w _ hx333_0)).trans hx333_0; have HR333_0 := qK hi333_0; have HC333_0 := qK hl333_0; clear hi333_0 hl333_0; replace p333 := eq_true p333; replace q333 := eq_true q333; refine start_ (n := 10) (S := fun w' => w'.cell? (ad332.add (x5_1).toNat) = some (.slice A332_0 (rd_L9 l0 x5_1).length c332_0) ∧ w'.cell? (ad333.add (x5_1).toNat) = some (.slice A333_0 (rd_L9 l1 x5_1).length c333_0)) (ds := []) #[false, false, false, false, false, false, false, false, false, false] (by kernel_rfl) rfl rfl ⟨((HB.out.cell (World.block_lt_of_cell? w _ hw332_0)).trans hw332_0), ((HB.out.cell (World.block_lt_of_cell? w _ hw333_0)).trans hw333_0)⟩ (fun hHeld => ?_); refine with_tabW laws_eqItemSS.tab6 laws_eqItemSS.bits6 (fun HT_ HW_ => ?_); generalize wr.drew = w9 at HB HR332_0 HR333_0 hx332_0 hx333_0 hHeld ⊢; refine pure_ (i := 0) (N := some 17) (v := ?_) (a' := ?_) #[true, false, false, false, false, false, false, false, false, false] rfl rfl (any_of HT_.out (by kernel_rfl)) (fun _ _ _ h => h) (Or.inl ⟨by rfl, ?_⟩) ?_ ?_; rotate_left
                · intro w'; go_simp; (with_reducible rfl)
                rotate_left
                · simp only [Act.put, List.setIfInBounds_toArray, List.set_cons_zero, List.set_cons_succ, i64_w, i32_w]; rfl
                refine pure_ (i := 1) (N := some 18) (v := ?_) (a' := ?_) #[true, true, false, false, false, false, false, false, false, false] rfl rfl (any_of HT_.out (by kernel_rfl)) (fun _ _ _ h => h) (Or.inl ⟨by rfl, ?_⟩) ?_ ?_; rotate_left
                · intro w'; go_simp; (with_reducible rfl)
                rotate_left
                · simp only [Act.put, List.setIfInBounds_toArray, List.set_cons_zero, List.set_cons_succ, i64_w, i32_w]; rfl
                refine pure_ (i := 2) (N := some 19) (v := ?_) (a' := ?_) #[true, true, true, false, false, false, false, false, false, false] rfl rfl (any_of HT_.out (by kernel_rfl)) (fun _ _ _ h => h) (Or.inl ⟨by rfl, ?_⟩) ?_ ?_; rotate_left
                · intro w'; go_simp; (with_reducible rfl)
                rotate_left
                · simp only [Act.put, List.setIfInBounds_toArray, List.set_cons_zero, List.set_cons_succ, i64_w, i32_w]; rfl
                refine pure_ (i := 4) (N := some 21) (v := ?_) (a' := ?_) #[true, true, true, false, true, false, false, false, false, false] rfl rfl (any_of HT_.out (by kernel_rfl)) (fun _ _ _ h => h) (Or.inl ⟨by rfl, ?_⟩) ?_ ?_; rotate_left
                · intro w'; go_simp; (with_reducible rfl)
                rotate_left
                · simp only [Act.put, List.setIfInBounds_toArray, List.set_cons_zero, List.set_cons_succ, i64_w, i32_w]; rfl
                refine pure_ (i := 5) (N := some 22) (v := ?_) (a' := ?_) #[true, true, true, false, true, true, false, false, false, false] rfl rfl (any_of HT_.out (by kernel_rfl)) (fun _ _ _ h => h) (Or.inl ⟨by rfl, ?_⟩) ?_ ?_; rotate_left
                · intro w'; go_simp; (with_reducible rfl)
                rotate_left
                · simp only [Act.put, List.setIfInBounds_toArray, List.set_cons_zero, List.set_cons_succ, i64_w, i32_w]; rfl
                refine pure_ (i := 6) (N := some 23) (v := ?_) (a' := ?_) #[true, true, true, false, true, true, true, false, false, false] rfl rfl (any_of HT_.out (by kernel_rfl)) (fun _ _ _ h => h) (Or.inl ⟨by rfl, ?_⟩) ?_ ?_; rotate_left
                · intro w'; go_simp; (with_reducible rfl)
                rotate_left
                · simp only [Act.put, List.setIfInBounds_toArray, List.set_cons_zero, List.set_cons_succ, i64_w, i32_w]; rfl
                refine take_ (i := 3) (N := some 20) (v := ?_) (a' := ?_) #[true, true, true, true, true, true, true, false, false, false] rfl rfl (take_ofW HT_.out HW_.out (by kernel_rfl)) (fun _ _ _ h => h) (Or.inl ⟨by rfl, ?_⟩) hHeld ?_ ?_; rotate_left
                · rintro w' ⟨s0, s1⟩; go_simp; (with_reducible rfl)
                rotate_left
                · simp only [Act.put, List.setIfInBounds_toArray, List.set_cons_zero, List.set_cons_succ, i64_w, i32_w]; rfl
                refine take_ (i := 7) (N := some 24) (v := ?_) (a' := ?_) #[true, true, true, true, true, true, true, true, false, false] rfl rfl (take_ofW HT_.out HW_.out (by kernel_rfl)) (fun _ _ _ h => h) (Or.inl ⟨by rfl, ?_⟩) hHeld ?_ ?_; rotate_left
                · rintro w' ⟨s0, s1⟩; go_simp; (with_reducible rfl)
                rotate_left
                · simp only [Act.put, List.setIfInBounds_toArray, List.set_cons_zero, List.set_cons_succ, i64_w, i32_w]; rfl
                refine one_ (i := 8) (N := some 25) #[true, true, true, true, true, true, true, true, true, false] rfl rfl (one_of HT_.out (by kernel_rfl)) (by decide) (fun K hK => ?_); refine goes_ Tryd.func35 (by kernel_rfl) rfl #[.slice A332_0 (rd_L9 l0 x5_1).length c332_0, .slice A333_0 (rd_L9 l1 x5_1).length c333_0] (by rfl) rfl rfl qA ?_; (with_reducible refine (laws_eqItemS.calls k1 _ _ (rd_L9 l0 x5_1) _ _ (rd_L9 l1 x5_1) true _ ?side1 ?side2 ?side3 ?side4 A7.out).mono ?_); (case side1 => exact qC HR332_0); (case side2 => exact HC332_0.out); (case side3 => exact qC HR333_0); (case side4 => exact HC333_0.out); rintro e w10 ⟨rfl, hb⟩; refine ⟨_, rfl, ?_⟩; replace HB := qHB HB hb; (try clear hb); (try clear hb2); (try clear hk); (try clear hi); refine hK.out _ _ ⟨((HB.out.cell (World.block_lt_of_cell? w _ hw332_0)).trans hw332_0), ((HB.out.cell (World.block_lt_of_cell? w _ hw333_0)).trans hw333_0)⟩ (fun hHeld => ?_); clear hK K; refine norm_ (a' := ?_) ?_ ?_; rotate_left
                · show Act.put _ (some 25) _ = _; simp only [Act.put, List.setIfInBounds_toArray, List.set_cons_zero, List.set_cons_succ, i64_w, i32_w]; rfl
                refine pure_ (i := 9) (N := some 26) (v := ?_) (a' := ?_) #[true, true, true, true, true, true, true, true, true, true] rfl rfl (any_of HT_.out (by kernel_rfl)) (fun _ _ _ h => h) (Or.inl ⟨by rfl, ?_⟩) ?_ ?_; rotate_left
                · intro w'; go_simp; (with_reducible rfl)
                rotate_left
                · simp only [Act.put, List.setIfInBounds_toArray, List.set_cons_zero, List.set_cons_succ, i64_w, i32_w]; rfl
                refine done_ (done_of HT_.out (by kernel_rfl)) ?_; (try go_wp2); go_roundg k1
                case measure => have := HK1.out; omega
                case rel => exact ⟨(wrap64 (x5_1 + 1)), qS, H', ⟨by have := HK1.out; omega⟩, ⟨qB⟩⟩
              · replace c8 := Bool.eq_false_iff.mpr c8; subst c8; rw [if_neg qff] at H; obtain rfl := Option.some.inj H; (try go_wp2); replace HB := qK (bd1 HB.out); have p332 : 0 ≤ (x5_1 : Int) := of_decide_eq_true qa; have q332 : x5_1 < (l0.length : Int) := of_decide_eq_true qa; obtain ⟨ad332, A332_0, c332_0, e332, hx332_0, hl332_0, hi332_0⟩ := at_L9 HR0.out x5_1 p332 q332; have hw332_0 := hx332_0; cases e332; replace hx332_0 := (HB.out.cell (World.block_lt_of_cell? w _ hx332_0)).trans hx332_0; have HR332_0 := qK hi332_0; have HC332_0 := qK hl332_0; clear hi332_0 hl332_0; replace p332 := eq_true p332; replace q332 := eq_true q332; have p333 : 0 ≤ (x5_1 : Int) := of_decide_eq_true qa; have q333 : x5_1 < (l1.length : Int) := of_decide_eq_true qa; obtain ⟨ad333, A333_0, c333_0, e333, hx333_0, hl333_0, hi333_0⟩ := at_L9 HR1.out x5_1 p333 q333; have hw333_0 := hx333_0; cases e333; replace hx333_0 := (HB.out.cell (World.block_lt_of_cell? w _ hx333_0)).trans hx333_0; have HR333_0 := qK hi333_0; have HC333_0 := qK hl333_0; clear hi333_0 hl333_0; replace p333 := eq_true p333; replace q333 := eq_true q333; refine start_ (n := 10) (S := fun w' => w'.cell? (ad332.add (x5_1).toNat) = some (.slice A332_0 (rd_L9 l0 x5_1).length c332_0) ∧ w'.cell? (ad333.add (x5_1).toNat) = some (.slice A333_0 (rd_L9 l1 x5_1).length c333_0)) (ds := []) #[false, false, false, false, false, false, false, false, false, false] (by kernel_rfl) rfl rfl ⟨((HB.out.cell (World.block_lt_of_cell? w _ hw332_0)).trans hw332_0), ((HB.out.cell (World.block_lt_of_cell? w _ hw333_0)).trans hw333_0)⟩ (fun hHeld => ?_); refine with_tabW laws_eqItemSS.tab6 laws_eqItemSS.bits6 (fun HT_ HW_ => ?_); generalize wr.drew = w11 at HB HR332_0 HR333_0 hx332_0 hx333_0 hHeld ⊢; refine pure_ (i := 0) (N := some 17) (v := ?_) (a' := ?_) #[true, false, false, false, false, false, false, false, false, false] rfl rfl (any_of HT_.out (by kernel_rfl)) (fun _ _ _ h => h) (Or.inl ⟨by rfl, ?_⟩) ?_ ?_; rotate_left
                · intro w'; go_simp; (with_reducible rfl)
                rotate_left
                · simp only [Act.put, List.setIfInBounds_toArray, List.set_cons_zero, List.set_cons_succ, i64_w, i32_w]; rfl
                refine pure_ (i := 1) (N := some 18) (v := ?_) (a' := ?_) #[true, true, false, false, false, false, false, false, false, false] rfl rfl (any_of HT_.out (by kernel_rfl)) (fun _ _ _ h => h) (Or.inl ⟨by rfl, ?_⟩) ?_ ?_; rotate_left
                · intro w'; go_simp; (with_reducible rfl)
                rotate_left
                · simp only [Act.put, List.setIfInBounds_toArray, List.set_cons_zero, List.set_cons_succ, i64_w, i32_w]; rfl
                refine pure_ (i := 2) (N := some 19) (v := ?_) (a' := ?_) #[true, true, true, false, false, false, false, false, false, false] rfl rfl (any_of HT_.out (by kernel_rfl)) (fun _ _ _ h => h) (Or.inl ⟨by rfl, ?_⟩) ?_ ?_; rotate_left
                · intro w'; go_simp; (with_reducible rfl)
                rotate_left
                · simp only [Act.put, List.setIfInBounds_toArray, List.set_cons_zero, List.set_cons_succ, i64_w, i32_w]; rfl
                refine pure_ (i := 4) (N := some 21) (v := ?_) (a' := ?_) #[true, true, true, false, true, false, false, false, false, false] rfl rfl (any_of HT_.out (by kernel_rfl)) (fun _ _ _ h => h) (Or.inl ⟨by rfl, ?_⟩) ?_ ?_; rotate_left
                · intro w'; go_simp; (with_reducible rfl)
                rotate_left
                · simp only [Act.put, List.setIfInBounds_toArray, List.set_cons_zero, List.set_cons_succ, i64_w, i32_w]; rfl
                refine pure_ (i := 5) (N := some 22) (v := ?_) (a' := ?_) #[true, true, true, false, true, true, false, false, false, false] rfl rfl (any_of HT_.out (by kernel_rfl)) (fun _ _ _ h => h) (Or.inl ⟨by rfl, ?_⟩) ?_ ?_; rotate_left
                · intro w'; go_simp; (with_reducible rfl)
                rotate_left
                · simp only [Act.put, List.setIfInBounds_toArray, List.set_cons_zero, List.set_cons_succ, i64_w, i32_w]; rfl
                refine pure_ (i := 6) (N := some 23) (v := ?_) (a' := ?_) #[true, true, true, false, true, true, true, false, false, false] rfl rfl (any_of HT_.out (by kernel_rfl)) (fun _ _ _ h => h) (Or.inl ⟨by rfl, ?_⟩) ?_ ?_; rotate_left
                · intro w'; go_simp; (with_reducible rfl)
                rotate_left
                · simp only [Act.put, List.setIfInBounds_toArray, List.set_cons_zero, List.set_cons_succ, i64_w, i32_w]; rfl
                refine take_ (i := 3) (N := some 20) (v := ?_) (a' := ?_) #[true, true, true, true, true, true, true, false, false, false] rfl rfl (take_ofW HT_.out HW_.out (by kernel_rfl)) (fun _ _ _ h => h) (Or.inl ⟨by rfl, ?_⟩) hHeld ?_ ?_; rotate_left
                · rintro w' ⟨s0, s1⟩; go_simp; (with_reducible rfl)
                rotate_left
                · simp only [Act.put, List.setIfInBounds_toArray, List.set_cons_zero, List.set_cons_succ, i64_w, i32_w]; rfl
                refine take_ (i := 7) (N := some 24) (v := ?_) (a' := ?_) #[true, true, true, true, true, true, true, true, false, false] rfl rfl (take_ofW HT_.out HW_.out (by kernel_rfl)) (fun _ _ _ h => h) (Or.inl ⟨by rfl, ?_⟩) hHeld ?_ ?_; rotate_left
                · rintro w' ⟨s0, s1⟩; go_simp; (with_reducible rfl)
                rotate_left
                · simp only [Act.put, List.setIfInBounds_toArray, List.set_cons_zero, List.set_cons_succ, i64_w, i32_w]; rfl
                refine one_ (i := 8) (N := some 25) #[true, true, true, true, true, true, true, true, true, false] rfl rfl (one_of HT_.out (by kernel_rfl)) (by decide) (fun K hK => ?_); refine goes_ Tryd.func35 (by kernel_rfl) rfl #[.slice A332_0 (rd_L9 l0 x5_1).length c332_0, .slice A333_0 (rd_L9 l1 x5_1).length c333_0] (by rfl) rfl rfl qA ?_; (with_reducible refine (laws_eqItemS.calls k1 _ _ (rd_L9 l0 x5_1) _ _ (rd_L9 l1 x5_1) false _ ?side1 ?side2 ?side3 ?side4 A7.out).mono ?_); (case side1 => exact qC HR332_0); (case side2 => exact HC332_0.out); (case side3 => exact qC HR333_0); (case side4 => exact HC333_0.out); rintro e w12 ⟨rfl, hb⟩; refine ⟨_, rfl, ?_⟩; replace HB := qHB HB hb; (try clear hb); (try clear hb2); (try clear hk); (try clear hi); refine hK.out _ _ ⟨((HB.out.cell (World.block_lt_of_cell? w _ hw332_0)).trans hw332_0), ((HB.out.cell (World.block_lt_of_cell? w _ hw333_0)).trans hw333_0)⟩ (fun hHeld => ?_); clear hK K; refine norm_ (a' := ?_) ?_ ?_; rotate_left
                · show Act.put _ (some 25) _ = _; simp only [Act.put, List.setIfInBounds_toArray, List.set_cons_zero, List.set_cons_succ, i64_w, i32_w]; rfl
                refine pure_ (i := 9) (N := some 26) (v := ?_) (a' := ?_) #[true, true, true, true, true, true, true, true, true, true] rfl rfl (any_of HT_.out (by kernel_rfl)) (fun _ _ _ h => h) (Or.inl ⟨by rfl, ?_⟩) ?_ ?_; rotate_left
                · intro w'; go_simp; (with_reducible rfl)
                rotate_left
                · simp only [Act.put, List.setIfInBounds_toArray, List.set_cons_zero, List.set_cons_succ, i64_w, i32_w]; rfl
                refine done_ (done_of HT_.out (by kernel_rfl)) ?_; (try go_wp2); go_ret; exact ⟨qR, qB⟩
            · rw [if_neg c6] at H; exact absurd H (by simp)
          · rw [if_neg c5] at H; exact absurd H (by simp)
        · rw [if_neg c4] at H; have c4b0 : decide (x5_1 < (l0.length : Int)) = false := decide_eq_false c4; clear c4; obtain rfl := Option.some.inj H; go_wp2; go_ret; exact ⟨qR, qB⟩
  · rw [if_neg c3] at H; have c3b0 : ((l0.length : Int) == (l1.length : Int)) = false := beq_eq_false_iff_ne.mpr c3; have c3b1 : ((l0.length : Int) != (l1.length : Int)) = true := bne_iff_ne.mpr c3; (have c3b2 : (l0.length == l1.length) = false := by first | simpa using c3 | (simp at c3 ⊢; omega)); obtain rfl := Option.some.inj H; go_enter Tryd.func36, Tryd.ntmps36; go_wp2; go_ret; exact ⟨qR, qB⟩
end Go.Proofs.YtjihphegmdfpfaaDoor.L
end
