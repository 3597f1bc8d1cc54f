/- The texts that the proof of the law FnBurst rests on, part 2: printed functions with their contracts, words, plain laws; the last part ends in the statement itself. No condition but those that each theorem states. -/
import Derived.Test.YtoebfjfhdodakaaKFnBurst1
set_option linter.unusedVariables false
set_option linter.unusedSimpArgs false
section
namespace Go.Proofs.Ytoebfjfhdodakaa.L
open Go.RowKit Go.Proofs.YtoebfjfhdodakaaW.PrintWords Go.Proofs.YtoebfjfhdodakaaW.PrintLast Go.Proofs.YtoebfjfhdodakaaW.PrintMore
attribute [local go_sem] max2_int min2_int max_two min_two max_three min_three max_four min_four
set_option linter.unusedVariables false
set_option linter.unusedSimpArgs false
theorem crcTable_info : (Try.prog.info? 105).map (fun i => (i.zero, i.size)) = some (some (.agg (Array.replicate 256 (.int .u32 0))), 256) := by kernel_rfl
set_option maxHeartbeats 400000 in
set_option maxRecDepth 100000 in
theorem crcTable_any (w : World) :
    Calls Try.prog 72 #[] w fun e w' => e = .returned (.agg (crcCells 256)) ∧ (w.alloc (.cells (crcCells 256) 105)).alloc (.cells (crcCells 256) 105) = w' := by
  have hz : ∀ w, (zeroValue 105).run Try.prog w = .ok (.agg (crcCells 0)) w := by
    have := (zero_of_info crcTable_info).1
    rw [crcCells_zero] at this
    exact this
  have hi : (Try.prog.info? 105).map (·.size) = some 256 := (zero_of_info crcTable_info).2
  have HI := Aside0.mk hi
  clear hi
  go_enter Try.func72, Try.ntmps72
  go_wp2_with (refine wpList_store_row rfl 105 (.tmp 1) (.tmp 4) rfl (w.heap.size + 1) (crcCells 0) rfl rfl 105 (crcCells 0) (heap_two_new _ _ _) (by rw [crcCells_size]; exact HI.out) rfl (crcCells_one _) ?_; rw [setRow_two_new])
  clear hz
  go_loopg [5, 2, 3] 256 (fun g s5 _ _ wx => ∃ i : Nat, i + g = 256 ∧ s5 = .int .i64 i ∧ wx = (w.alloc (.cells (crcCells 0) 105)).alloc (.cells (crcCells i) 105))
  case atStart => exact ⟨0, by omega, rfl, rfl⟩
  case round =>
    obtain ⟨i, hig, rfl, rfl⟩ := hrel
    cases gk with
    | zero =>
      obtain rfl : i = 256 := by omega
      go_wp2_with (first
        | (refine wpList_load_row rfl 105 (.tmp 1) rfl (w.heap.size + 1) rfl 105 (crcCells 256) (0, 0) _ (heap_two_new _ _ _) Try.underlying105 rfl (by rw [crcCells_size]; exact HI.out) ?_)
        | (refine wpList_store_row rfl 105 (.tmp 0) (.tmp 25) rfl w.heap.size (crcCells 256) rfl rfl 105 (crcCells 0) (heap_alloc2_old _ _ _) (by rw [crcCells_size]; exact HI.out) (by rw [crcCells_size, crcCells_size]) (crcCells_one _) ?_))
      rw [setRow_two_old]
      exact bodyPost_ret (v := .agg (crcCells 256)) (results_cell_row rfl _ _ w.heap.size 105 (crcCells 256) (0, 0) _ rfl (heap_alloc2_old _ _ _) Try.underlying105 rfl (by rw [crcCells_size]; exact HI.out)) rfl ⟨rfl, rfl⟩
    | succ g =>
      have hi : i < 256 := by omega
      have hiz : (i : Int) < 256 := by omega
      go_wp2
      go_loopg [10, 3] 8 (fun g2 s10 s3 wx => ∃ k : Nat, k + g2 = 8 ∧ s10 = .int .i64 k ∧ s3 = .int .u32 (crcSteps k i) ∧ wx = (w.alloc (.cells (crcCells 0) 105)).alloc (.cells (crcCells i) 105))
      case atStart => exact ⟨0, by omega, rfl, rfl, rfl⟩
      case round =>
        obtain ⟨k, hkg, rfl, rfl, rfl⟩ := hrel
        cases gk with
        | zero =>
          obtain rfl : k = 8 := by omega
          have hcell : (crcCells i)[i]? = some (.int .u32 0) := by rw [crcCells_at i i hi]; simp [crcCell]
          go_wp2
          go_roundg g
          case measure => omega
          case rel => exact ⟨i + 1, by omega, by first | rfl | simp, by rw [← crcCells_set]; rfl⟩
        | succ g2 =>
          have hk8 : (k : Int) < 8 := by omega
          have hs : crcSteps (k + 1) i = crcStep (crcSteps k i) := rfl
          have hr : 0 ≤ crcSteps k i ∧ crcSteps k i ≤ 4294967295 := crcSteps_range k i (by omega)
          obtain ⟨c, hc⟩ : ∃ c, crcSteps k i = c := ⟨_, rfl⟩
          rw [hc] at hs hr ⊢
          obtain ⟨hr0, hr1⟩ := hr
          have HS := Aside0.mk hs
          clear hs hc
          cases hb : (Go.bits .and .u32 c 1 == 1)
          · go_wp2
            go_roundg g2
            case measure => omega
            case rel => exact ⟨k + 1, by omega, by first | rfl | simp, by rw [HS.out, crcStep_of c false hb]; rfl, rfl⟩
          · go_wp2
            go_roundg g2
            case measure => omega
            case rel => exact ⟨k + 1, by omega, by first | rfl | simp, by rw [HS.out, crcStep_of c true hb]; rfl, rfl⟩
set_option maxHeartbeats 400000 in
set_option maxRecDepth 100000 in
theorem crc32_any (s : ByteArray) (w : World) (hs : s.size ≤ 9223372036854775807) :
    Calls Try.prog 45 #[.string s] w fun e w' => e = .returned (.int .i64 (4294967295 - crcReg s s.size)) ∧ ((w.alloc (.cells (crcCells 256) 105)).alloc (.cells (crcCells 256) 105)).alloc (.cells (crcCells 256) 105) = w' := by
  have hz : ∀ w, (zeroValue 105).run Try.prog w = .ok (.agg (crcCells 0)) w := by
    have := (zero_of_info crcTable_info).1
    rw [crcCells_zero] at this
    exact this
  have hi : (Try.prog.info? 105).map (·.size) = some 256 := (zero_of_info crcTable_info).2
  have HI := Aside0.mk hi
  clear hi
  go_enter Try.func45, Try.ntmps45
  go_wp2_with (first
    | (go_at_call 72; refine (crcTable_any _).mono ?_; rintro e w' ⟨rfl, rfl⟩)
    | (refine wpList_store_row rfl 105 (.tmp 3) (.tmp 6) rfl (w.heap.size + 1 + 1) (crcCells 256) rfl rfl 105 (crcCells 0) (heap_three _ _ _ _) (by rw [crcCells_size]; exact HI.out) (by rw [crcCells_size, crcCells_size]) (crcCells_one _) ?_; rw [setRow_three]))
  clear hz
  go_loopg [9, 4, 5] s.size (fun g s9 s4 _ wx => ∃ i : Nat, i + g = s.size ∧ s9 = .int .i64 i ∧ s4 = .int .u32 (crcReg s i) ∧ wx = ((w.alloc (.cells (crcCells 256) 105)).alloc (.cells (crcCells 256) 105)).alloc (.cells (crcCells 256) 105))
  case atStart => exact ⟨0, by omega, rfl, rfl, rfl⟩
  case round =>
    obtain ⟨i, hig, rfl, rfl, rfl⟩ := hrel
    cases gk with
    | zero =>
      obtain rfl : i = s.size := by omega
      have hr := crcReg_range s s.size
      go_wp2
      go_ret
      exact ⟨by rw [crcReg_nat, ← crcOut_nat _ (crcN_lt _ _)]; rfl, rfl⟩
    | succ g =>
      have hi : i < s.size := by omega
      have hiz : (i : Int) < s.size := by omega
      have hr := crcReg_range s i
      have hn : crcReg s (i + 1) = crcNext (crcReg s i) (bt s i) := rfl
      obtain ⟨c, hc⟩ : ∃ c, crcReg s i = c := ⟨_, rfl⟩
      rw [hc] at hn hr ⊢
      obtain ⟨hr0, hr1⟩ := hr
      have HN := Aside0.mk hn
      clear hn hc
      have hb : ((s[i]'hi).toNat : Int) = bt s i := by simp [bt, hi]
      have hbr := bt_range s i
      have hx := crcIdx c (bt s i) hr0 hbr.1 hbr.2
      have hcell : ∀ x : Int, 0 ≤ x ∧ x ≤ 255 → (crcCells 256)[x.toNat]? = some (.int .u32 (crcEnt x.toNat)) := fun x hx => by
        rw [crcCells_at 256 _ (by omega)]; simp [crcCell]; omega
      replace hcell := hcell _ hx
      go_wp2
      go_roundg g
      case measure => omega
      case rel => exact ⟨i + 1, by omega, by first | rfl | simp, by rw [HN.out]; rfl, rfl⟩
def impl_Crc32.f (a0 : ByteArray) : Option Int := if a0.size ≤ 9223372036854775807 then some (4294967295 - crcReg a0 a0.size) else none
theorem impl_Crc32.calls (a0 : ByteArray) (r : Int) (w : World) (h : impl_Crc32.f a0 = some r) :
    Calls Try.prog 45 #[.string a0] w fun e w' => e = .returned (.int .i64 r) ∧ Below w.heap.size w w' := by
  unfold impl_Crc32.f at h
  by_cases hs : a0.size ≤ 9223372036854775807
  · rw [if_pos hs] at h
    obtain rfl := Option.some.inj h
    exact (crc32_any a0 w hs).mono fun e w' ⟨he, hw⟩ => ⟨he, hw ▸ ((((Below.refl _ _).alloc (Nat.le_refl _) _).alloc (by simp) _).alloc (by simp; omega) _)⟩
  · rw [if_neg hs] at h
    exact absurd h (by simp)
def impl_fromBig.l0 : Nat → ByteArray → Int → Int → Int → Option (Int)
  | 0, _, _, _, _ => none
  | k + 1, x0, x3, x6, x7 => if x7 < x6 then (if 0 ≤ x7 then (if x7 < (x0.size : Int) then (impl_fromBig.l0 k x0 (Go.bits .or .i64 (wrap64 (x3 * 256)) (wrap64 (bt x0 x7))) x6 (wrap64 (x7 + 1))) else (none)) else (none)) else (some x3)
def impl_fromBig.f (k : Nat) (a0 : ByteArray) : Option (Int) := impl_fromBig.l0 k a0 0 (a0.size : Int) 0
theorem impl_fromBig.mono_l : ∀ k, (∀ y0 y1 y2 y3, LeO (impl_fromBig.l0 k y0 y1 y2 y3) (impl_fromBig.l0 (k + 1) y0 y1 y2 y3))
  | 0 => fun _ _ _ _ r h => by simp [impl_fromBig.l0] at h
  | k + 1 => by
    have ih0 := impl_fromBig.mono_l k
    · intro y0 y1 y2 y3
      unfold impl_fromBig.l0
      repeat' first
      | (with_reducible exact ih0 _ _ _ _)
      | (with_reducible exact LeO.refl _)
      | (with_reducible exact LeO.none _)
      | (with_reducible refine LeO.ite ?_ ?_)
      | (with_reducible refine LeO.bind ?_ (fun _ => ?_))
      | exact ih0 _ _ _ _
      | exact LeO.none _
      | refine LeO.ite ?_ ?_
      | refine LeO.bind ?_ (fun _ => ?_)
theorem impl_fromBig.mono : ∀ a0 k, LeO (impl_fromBig.f k a0) (impl_fromBig.f (k + 1) a0) := by
  intro a0 k
  have ih0 := impl_fromBig.mono_l k
  unfold impl_fromBig.f
  repeat' first
      | (with_reducible exact ih0 _ _ _ _)
      | (with_reducible exact LeO.refl _)
      | (with_reducible exact LeO.none _)
      | (with_reducible refine LeO.ite ?_ ?_)
      | (with_reducible refine LeO.bind ?_ (fun _ => ?_))
      | exact ih0 _ _ _ _
      | exact LeO.none _
      | refine LeO.ite ?_ ?_
      | refine LeO.bind ?_ (fun _ => ?_)
set_option maxHeartbeats 8000000 in
set_option maxRecDepth 100000 in
theorem impl_fromBig.calls (k : Nat) (a0 : ByteArray) (r : Int) (w : World) (h : impl_fromBig.f k a0 = some r) :
    Calls Try.prog 66 #[.string a0] w fun e w' => e = .returned (.int .i64 r) ∧ Drawn0 w w' := by
  have H : (impl_fromBig.l0 k a0 0 (a0.size : Int) 0) = some r := h; clear h; have H' := qK H; clear H; go_enter Try.func66, Try.ntmps66; go_wp2; go_loopg [3, 7] k (fun kq v3 v7 w' => ∃ (x3_1 : Int) (x7_1 : Int), v3 = .int .i64 x3_1 ∧ v7 = .int .i64 x7_1 ∧ Aside0 (impl_fromBig.l0 kq a0 x3_1 (a0.size : Int) x7_1 = some r) ∧ Aside0 (kq ≤ k) ∧ Drawn0 w w')
  case atStart => exact ⟨(0), (0), qS, qS, H', ⟨Nat.le_refl _⟩, by repeat (first | exact Drawn0.refl _ | apply Drawn0.step)⟩
  case round =>
    clear H'; obtain ⟨x3_1, x7_1, rfl, rfl, HA, HK1, ⟨m1, rfl⟩⟩ := hrel
    cases gk with
    | zero => exact absurd HA.out (by simp [impl_fromBig.l0])
    | succ k1 =>
      have H := HA.out; clear HA; simp only [impl_fromBig.l0] at H; by_cases c2 : x7_1 < (a0.size : Int)
      · rw [if_pos c2] at H; have c2b0 : decide (x7_1 < (a0.size : Int)) = true := decide_eq_true c2; clear c2; by_cases c3 : 0 ≤ x7_1
        · rw [if_pos c3] at H; have c3b0 : decide (0 ≤ x7_1) = true := decide_eq_true c3; clear c3; by_cases c4 : x7_1 < (a0.size : Int)
          · rw [if_pos c4] at H; have c4b0 : decide (x7_1 < (a0.size : Int)) = true := decide_eq_true c4; clear c4; have H' := qK H; clear H; have p5 : 0 ≤ (x7_1 : Int) := of_decide_eq_true qa; have q5 : x7_1 < (a0.size : Int) := of_decide_eq_true qa; have hx5 := bt_at a0 x7_1; replace p5 := eq_true p5; replace q5 := eq_true q5; go_wp2; go_roundg k1
            case measure => have := HK1.out; omega
            case rel => exact ⟨(Go.bits .or .i64 (wrap64 (x3_1 * 256)) (wrap64 (bt a0 x7_1))), (wrap64 (x7_1 + 1)), qS, qS, H', ⟨by have := HK1.out; omega⟩, by repeat (first | exact Drawn0.refl _ | apply Drawn0.step)⟩
          · rw [if_neg c4] at H; exact absurd H (by simp)
        · rw [if_neg c3] at H; exact absurd H (by simp)
      · rw [if_neg c2] at H; have c2b0 : decide (x7_1 < (a0.size : Int)) = false := decide_eq_false c2; clear c2; obtain rfl := Option.some.inj H; go_wp2; go_ret; exact ⟨by first | rfl | (simp; done) | (simp [*]; done), by repeat (first | exact Drawn0.refl _ | apply Drawn0.step)⟩
def impl_ScanFrames.l0 : Nat → ByteArray → List ByteArray → Int → Option (List ByteArray × Int)
  | 0, _, _, _ => none
  | k + 1, d, out, n => if d.size < 8 then some (out, n) else (impl_fromBig.f k (d.extract 0 4)).bind fun x => if x < 1 ∨ 60000 < x ∨ (d.size : Int) - 8 < x then some (out, n) else (impl_Crc32.f (d.extract 8 (8 + x.toNat))).bind fun c => (impl_fromBig.f k (d.extract 4 8)).bind fun y => if c = y then (if out.length < 8796093022207 then impl_ScanFrames.l0 k (d.extract (8 + x.toNat) d.size) (out ++ [d.extract 8 (8 + x.toNat)]) (wrap64 (n + wrap64 (8 + ((d.extract 8 (8 + x.toNat)).size : Int)))) else none) else some (out, n)
def impl_ScanFrames.f (k : Nat) (a0 : ByteArray) : Option (List ByteArray × Int) := if a0.size ≤ 9223372036854775807 then impl_ScanFrames.l0 k a0 [] 0 else none
theorem impl_ScanFrames.mono_l : ∀ k d out n, LeO (impl_ScanFrames.l0 k d out n) (impl_ScanFrames.l0 (k + 1) d out n)
  | 0, _, _, _ => fun r h => by simp [impl_ScanFrames.l0] at h
  | k + 1, d, out, n => by
    rw [impl_ScanFrames.l0, impl_ScanFrames.l0]
    refine LeO.ite (LeO.refl _) (LeO.bind (impl_fromBig.mono _ _) (fun x => LeO.ite (LeO.refl _) (LeO.bind (LeO.refl _) (fun c => LeO.bind (impl_fromBig.mono _ _) (fun y => LeO.ite (LeO.ite (impl_ScanFrames.mono_l k _ _ _) (LeO.refl _)) (LeO.refl _))))))
theorem impl_ScanFrames.mono : ∀ a0 k, LeO (impl_ScanFrames.f k a0) (impl_ScanFrames.f (k + 1) a0) := fun a0 k => by
  unfold impl_ScanFrames.f
  exact LeO.ite (impl_ScanFrames.mono_l k _ _ _) (LeO.refl _)
theorem impl_ScanFrames.scans : ∀ (k : Nat) (d : ByteArray) (out : List ByteArray) (n : Int) (r1 : List ByteArray) (r2 : Int), impl_ScanFrames.l0 k d out n = some (r1, r2) →
    ∃ xs, r1 = out ++ xs ∧ Scans xs d ∧ r2 = xs.foldl (fun n e => wrap64 (n + wrap64 (8 + (e.size : Int)))) n ∧ (out.length < 8796093022208 → r1.length < 8796093022208)
  | 0, _, _, _, _, _, h => by simp [impl_ScanFrames.l0] at h
  | k + 1, d, out, n, r1, r2, h => by
    rw [impl_ScanFrames.l0] at h
    by_cases h1 : d.size < 8
    · rw [if_pos h1] at h
      obtain ⟨rfl, rfl⟩ := Prod.mk.inj (Option.some.inj h)
      exact ⟨[], by simp, .inl h1, rfl, fun h => h⟩
    · rw [if_neg h1] at h
      obtain ⟨x, hx, h⟩ := Option.bind_eq_some_iff.mp h
      have hX : bigAt (d.extract 0 4) x := fun w => impl_fromBig.calls k _ _ w hx
      by_cases h2 : x < 1 ∨ 60000 < x ∨ (d.size : Int) - 8 < x
      · rw [if_pos h2] at h
        obtain ⟨rfl, rfl⟩ := Prod.mk.inj (Option.some.inj h)
        exact ⟨[], by simp, .inr (.inl ⟨by omega, x, hX, h2⟩), rfl, fun h => h⟩
      · rw [if_neg h2] at h
        have h3 : ¬ x < 1 := fun e => h2 (.inl e)
        have h4 : ¬ 60000 < x := fun e => h2 (.inr (.inl e))
        have h5 : ¬ (d.size : Int) - 8 < x := fun e => h2 (.inr (.inr e))
        obtain ⟨m, rfl⟩ : ∃ m : Nat, x = (m : Int) := ⟨x.toNat, by omega⟩
        rw [Int.toNat_natCast] at h
        obtain ⟨c, hc, h⟩ := Option.bind_eq_some_iff.mp h
        obtain ⟨y, hy, h⟩ := Option.bind_eq_some_iff.mp h
        have hC : crcAt (d.extract 8 (8 + m)) c := fun w => impl_Crc32.calls _ _ w hc
        have hY : bigAt (d.extract 4 8) y := fun w => impl_fromBig.calls k _ _ w hy
        by_cases h6 : c = y
        · rw [if_pos h6] at h
          by_cases h7 : out.length < 8796093022207
          · rw [if_pos h7] at h
            obtain ⟨xs, e1, e2, e3, e4⟩ := impl_ScanFrames.scans k _ _ _ _ _ h
            subst h6
            exact ⟨d.extract 8 (8 + m) :: xs, by rw [e1]; simp, ⟨m, c, hX, by omega, by omega, by omega, rfl, hC, hY, e2⟩, e3, fun _ => e4 (by simp; omega)⟩
          · rw [if_neg h7] at h; cases h
        · rw [if_neg h6] at h
          obtain ⟨rfl, rfl⟩ := Prod.mk.inj (Option.some.inj h)
          exact ⟨[], by simp, .inr (.inr ⟨by omega, m, c, y, hX, by omega, by omega, by omega, hC, hY, h6⟩), rfl, fun h => h⟩
theorem impl_ScanFrames.calls (k : Nat) (a0 : ByteArray) (r1 : List ByteArray) (r2 : Int) (w : World) (h : impl_ScanFrames.f k a0 = some (r1, r2)) :
    Calls Try.prog 16 #[.string a0] w fun e w' => ∃ v0_ : Value, e = .returned (.tuple #[v0_, .int .i64 r2]) ∧ Kd.R Kd.string 9 w' w.heap.size (fun _ => True) v0_ r1 ∧ Below w.heap.size w w' := by
  unfold impl_ScanFrames.f at h
  by_cases hs : a0.size ≤ 9223372036854775807
  · rw [if_pos hs] at h
    obtain ⟨xs, e1, e2, e3, e4⟩ := impl_ScanFrames.scans k _ _ _ _ _ h
    rw [List.nil_append] at e1
    subst e1
    subst e3
    refine (scan_any a0 r1 e2 ⟨hs⟩ ⟨e4 (by simp)⟩ w).mono ?_
    rintro e w' ⟨v, rfl, ho, hb⟩
    exact ⟨v, rfl, Kd.R_of_own ho (fun _ _ => trivial), hb⟩
  · rw [if_neg hs] at h; cases h
def spec_l5Usual.f (a0 : ByteArray) : Option ((List (S114))) := if a0.toList = ([116] : List UInt8) then (some (([(⟨(⟨#[105, 100]⟩ : ByteArray), 1⟩ : S114), (⟨(⟨#[110, 97, 109, 101]⟩ : ByteArray), 2⟩ : S114), (⟨(⟨#[110]⟩ : ByteArray), 1⟩ : S114)] : List (S114)))) else (if a0.toList = ([117] : List UInt8) then (some (([(⟨(⟨#[107, 101, 121]⟩ : ByteArray), 2⟩ : S114), (⟨(⟨#[118]⟩ : ByteArray), 1⟩ : S114)] : List (S114)))) else (some (([(⟨(⟨#[97]⟩ : ByteArray), 1⟩ : S114)] : List (S114)))))
set_option maxHeartbeats 8000000 in
set_option maxRecDepth 100000 in
theorem spec_l5Usual.calls (a0 : ByteArray) (r : List (S114)) (w : World) (h : spec_l5Usual.f a0 = some r) :
    Calls Try.prog 77 #[.string a0] w fun e w' => ∃ v0_ : Value, e = .returned (v0_) ∧ Kd.R k114 114 w' w.heap.size (fun _ => True) v0_ r ∧ Below w.heap.size w w' := by
  have hu114 := Try.underlying114; have HB := qK (Below.refl w.heap.size w); have H : (if a0.toList = ([116] : List UInt8) then (some (([(⟨(⟨#[105, 100]⟩ : ByteArray), 1⟩ : S114), (⟨(⟨#[110, 97, 109, 101]⟩ : ByteArray), 2⟩ : S114), (⟨(⟨#[110]⟩ : ByteArray), 1⟩ : S114)] : List (S114)))) else (if a0.toList = ([117] : List UInt8) then (some (([(⟨(⟨#[107, 101, 121]⟩ : ByteArray), 2⟩ : S114), (⟨(⟨#[118]⟩ : ByteArray), 1⟩ : S114)] : List (S114)))) else (some (([(⟨(⟨#[97]⟩ : ByteArray), 1⟩ : S114)] : List (S114)))))) = some r := h; clear h; by_cases c2 : a0.toList = ([116] : List UInt8)
  · rw [if_pos c2] at H; have c2b0 : (a0.toList == ([116] : List UInt8)) = true := beq_iff_eq.mpr c2; have c2b1 : (a0.toList != ([116] : List UInt8)) = false := bne_eq_false_iff_eq.mpr c2; clear c2; obtain ⟨y101, hy101⟩ : ∃ y_ : List (S114), y_ = (([(⟨(⟨#[105, 100]⟩ : ByteArray), 1⟩ : S114), (⟨(⟨#[110, 97, 109, 101]⟩ : ByteArray), 2⟩ : S114), (⟨(⟨#[110]⟩ : ByteArray), 1⟩ : S114)] : List (S114))) := ⟨_, rfl⟩; (replace H : (some y101) = some r := by first | (rw [hy101]; with_reducible exact H) | (have H2_ := (Option.bind_some _ _).symm.trans H; rw [hy101]; with_reducible exact H2_) | (have H2_ := (Option.bind_some _ _).symm.trans H; with_reducible exact H2_) | with_reducible exact H | (rw [hy101]; exact H) | exact H); have Ny101 := qK hy101; clear hy101; obtain rfl := Option.some.inj H; go_enter Try.func77, Try.ntmps77; go_wp2_with (first | ((with_reducible refine gds (N := 9) rfl ?_); refine Kd.R_lit k114 _ 114 ?hg (N := 9) ?hd (xs := ([(⟨(⟨#[105, 100]⟩ : ByteArray), 1⟩ : S114), (⟨(⟨#[110, 97, 109, 101]⟩ : ByteArray), 2⟩ : S114), (⟨(⟨#[110]⟩ : ByteArray), 1⟩ : S114)] : List (S114))) (inner := [.string (⟨#[105, 100]⟩ : ByteArray), .int .i64 1, .string (⟨#[110, 97, 109, 101]⟩ : ByteArray), .int .i64 2, .string (⟨#[110]⟩ : ByteArray), .int .i64 1]) (ok := fun _ => True) (okp := fun _ => True) ?hr ?hp (fun _ hk => hk) trivial (Below.refl _ _) (Nat.le_refl _) (by simp) ?_; (case hd => rfl); (case hg => rfl); (case hr => first | (go_simp; done) | (go_simp; rfl)); (case hp => exact (Reps.c2 (show Kd.M k114 _ _ _ (⟨(⟨#[105, 100]⟩ : ByteArray), 1⟩ : S114) [.string (⟨#[105, 100]⟩ : ByteArray), .int .i64 1] from (k114_mkM _ _ _ (⟨(⟨#[105, 100]⟩ : ByteArray), 1⟩ : S114) )) (Reps.c2 (show Kd.M k114 _ _ _ (⟨(⟨#[110, 97, 109, 101]⟩ : ByteArray), 2⟩ : S114) [.string (⟨#[110, 97, 109, 101]⟩ : ByteArray), .int .i64 2] from (k114_mkM _ _ _ (⟨(⟨#[110, 97, 109, 101]⟩ : ByteArray), 2⟩ : S114) )) (Reps.c2 (show Kd.M k114 _ _ _ (⟨(⟨#[110]⟩ : ByteArray), 1⟩ : S114) [.string (⟨#[110]⟩ : ByteArray), .int .i64 1] from (k114_mkM _ _ _ (⟨(⟨#[110]⟩ : ByteArray), 1⟩ : S114) )) (Reps.none _ _))))); intro v102 w3 ho4 hb hg_ hnew_; clear hg_ hnew_; (first | rw [← Ny101.out] at ho4 | (simp only [Int.reduceToNat] at ho4; rw [← Ny101.out] at ho4)); have HO103 := qK (Kd.Rlo ho4 (bsz qB)); replace HB := qHB HB hb; clear hb ho4)); go_ret; exact ⟨_, qR, by (with_reducible repeat (first | apply Kd.Ral | apply Kd.RdN | apply Kd.Rdr)); exact HO103.out, qB⟩
  · rw [if_neg c2] at H; have c2b0 : (a0.toList == ([116] : List UInt8)) = false := beq_eq_false_iff_ne.mpr c2; have c2b1 : (a0.toList != ([116] : List UInt8)) = true := bne_iff_ne.mpr c2; by_cases c5 : a0.toList = ([117] : List UInt8)
    · rw [if_pos c5] at H; have c5b0 : (a0.toList == ([117] : List UInt8)) = true := beq_iff_eq.mpr c5; have c5b1 : (a0.toList != ([117] : List UInt8)) = false := bne_eq_false_iff_eq.mpr c5; clear c5; obtain ⟨y104, hy104⟩ : ∃ y_ : List (S114), y_ = (([(⟨(⟨#[107, 101, 121]⟩ : ByteArray), 2⟩ : S114), (⟨(⟨#[118]⟩ : ByteArray), 1⟩ : S114)] : List (S114))) := ⟨_, rfl⟩; (replace H : (some y104) = some r := by first | (rw [hy104]; with_reducible exact H) | (have H2_ := (Option.bind_some _ _).symm.trans H; rw [hy104]; with_reducible exact H2_) | (have H2_ := (Option.bind_some _ _).symm.trans H; with_reducible exact H2_) | with_reducible exact H | (rw [hy104]; exact H) | exact H); have Ny104 := qK hy104; clear hy104; obtain rfl := Option.some.inj H; go_enter Try.func77, Try.ntmps77; go_wp2_with (first | ((with_reducible refine gds (N := 14) rfl ?_); refine Kd.R_lit k114 _ 114 ?hg (N := 14) ?hd (xs := ([(⟨(⟨#[107, 101, 121]⟩ : ByteArray), 2⟩ : S114), (⟨(⟨#[118]⟩ : ByteArray), 1⟩ : S114)] : List (S114))) (inner := [.string (⟨#[107, 101, 121]⟩ : ByteArray), .int .i64 2, .string (⟨#[118]⟩ : ByteArray), .int .i64 1]) (ok := fun _ => True) (okp := fun _ => True) ?hr ?hp (fun _ hk => hk) trivial (Below.refl _ _) (Nat.le_refl _) (by simp) ?_; (case hd => rfl); (case hg => rfl); (case hr => first | (go_simp; done) | (go_simp; rfl)); (case hp => exact (Reps.c2 (show Kd.M k114 _ _ _ (⟨(⟨#[107, 101, 121]⟩ : ByteArray), 2⟩ : S114) [.string (⟨#[107, 101, 121]⟩ : ByteArray), .int .i64 2] from (k114_mkM _ _ _ (⟨(⟨#[107, 101, 121]⟩ : ByteArray), 2⟩ : S114) )) (Reps.c2 (show Kd.M k114 _ _ _ (⟨(⟨#[118]⟩ : ByteArray), 1⟩ : S114) [.string (⟨#[118]⟩ : ByteArray), .int .i64 1] from (k114_mkM _ _ _ (⟨(⟨#[118]⟩ : ByteArray), 1⟩ : S114) )) (Reps.none _ _)))); intro v105 w6 ho7 hb hg_ hnew_; clear hg_ hnew_; (first | rw [← Ny104.out] at ho7 | (simp only [Int.reduceToNat] at ho7; rw [← Ny104.out] at ho7)); have HO106 := qK (Kd.Rlo ho7 (bsz qB)); replace HB := qHB HB hb; clear hb ho7)); go_ret; exact ⟨_, qR, by (with_reducible repeat (first | apply Kd.Ral | apply Kd.RdN | apply Kd.Rdr)); exact HO106.out, qB⟩
    · rw [if_neg c5] at H; have c5b0 : (a0.toList == ([117] : List UInt8)) = false := beq_eq_false_iff_ne.mpr c5; have c5b1 : (a0.toList != ([117] : List UInt8)) = true := bne_iff_ne.mpr c5; obtain ⟨y107, hy107⟩ : ∃ y_ : List (S114), y_ = (([(⟨(⟨#[97]⟩ : ByteArray), 1⟩ : S114)] : List (S114))) := ⟨_, rfl⟩; (replace H : (some y107) = some r := by first | (rw [hy107]; with_reducible exact H) | (have H2_ := (Option.bind_some _ _).symm.trans H; rw [hy107]; with_reducible exact H2_) | (have H2_ := (Option.bind_some _ _).symm.trans H; with_reducible exact H2_) | with_reducible exact H | (rw [hy107]; exact H) | exact H); have Ny107 := qK hy107; clear hy107; obtain rfl := Option.some.inj H; go_enter Try.func77, Try.ntmps77; go_wp2_with (first | ((with_reducible refine gds (N := 16) rfl ?_); refine Kd.R_lit k114 _ 114 ?hg (N := 16) ?hd (xs := ([(⟨(⟨#[97]⟩ : ByteArray), 1⟩ : S114)] : List (S114))) (inner := [.string (⟨#[97]⟩ : ByteArray), .int .i64 1]) (ok := fun _ => True) (okp := fun _ => True) ?hr ?hp (fun _ hk => hk) trivial (Below.refl _ _) (Nat.le_refl _) (by simp) ?_; (case hd => rfl); (case hg => rfl); (case hr => first | (go_simp; done) | (go_simp; rfl)); (case hp => exact (Reps.c2 (show Kd.M k114 _ _ _ (⟨(⟨#[97]⟩ : ByteArray), 1⟩ : S114) [.string (⟨#[97]⟩ : ByteArray), .int .i64 1] from (k114_mkM _ _ _ (⟨(⟨#[97]⟩ : ByteArray), 1⟩ : S114) )) (Reps.none _ _))); intro v108 w8 ho9 hb hg_ hnew_; clear hg_ hnew_; (first | rw [← Ny107.out] at ho9 | (simp only [Int.reduceToNat] at ho9; rw [← Ny107.out] at ho9)); have HO109 := qK (Kd.Rlo ho9 (bsz qB)); replace HB := qHB HB hb; clear hb ho9)); go_ret; exact ⟨_, qR, by (with_reducible repeat (first | apply Kd.Ral | apply Kd.RdN | apply Kd.Rdr)); exact HO109.out, qB⟩
def spec_l7Head.f  : Option ((List (S100))) := (spec_l5Usual.f (⟨#[116]⟩ : ByteArray)).bind fun t110 => ((spec_l5Usual.f (⟨#[117]⟩ : ByteArray)).bind fun t113 => (some (([(⟨1, (⟨#[116]⟩ : ByteArray), t110, ([] : List (S116)), (⟨#[]⟩ : ByteArray), ([] : List (S122)), ([] : List (S122)), ([] : List (List (S122)))⟩ : S100), (⟨1, (⟨#[117]⟩ : ByteArray), t113, ([] : List (S116)), (⟨#[]⟩ : ByteArray), ([] : List (S122)), ([] : List (S122)), ([] : List (List (S122)))⟩ : S100)] : List (S100)))))
set_option maxHeartbeats 8000000 in
set_option maxRecDepth 100000 in
theorem spec_l7Head.calls  (r : List (S100)) (w : World) (h : spec_l7Head.f  = some r) :
    Calls Try.prog 67 #[] w fun e w' => ∃ v0_ : Value, e = .returned (v0_) ∧ Kd.N k100 100 w' w.heap.size (fun k_ => (w.heap.size ≤ k_)) v0_ r ∧ Below w.heap.size w w' := by
  have hu100 := Try.underlying100; have HB := qK (Below.refl w.heap.size w); have H : ((spec_l5Usual.f (⟨#[116]⟩ : ByteArray)).bind fun t110 => ((spec_l5Usual.f (⟨#[117]⟩ : ByteArray)).bind fun t113 => (some (([(⟨1, (⟨#[116]⟩ : ByteArray), t110, ([] : List (S116)), (⟨#[]⟩ : ByteArray), ([] : List (S122)), ([] : List (S122)), ([] : List (List (S122)))⟩ : S100), (⟨1, (⟨#[117]⟩ : ByteArray), t113, ([] : List (S116)), (⟨#[]⟩ : ByteArray), ([] : List (S122)), ([] : List (S122)), ([] : List (List (S122)))⟩ : S100)] : List (S100)))))) = some r := h; clear h; replace H := Option.bind_eq_some_iff.mp H; obtain ⟨t110, A10, H⟩ := H; have A1 := qK A10; clear A10; replace H := Option.bind_eq_some_iff.mp H; obtain ⟨t113, A20, H⟩ := H; have A2 := qK A20; clear A20; obtain ⟨y116, hy116⟩ : ∃ y_ : List (S100), y_ = (([(⟨1, (⟨#[116]⟩ : ByteArray), t110, ([] : List (S116)), (⟨#[]⟩ : ByteArray), ([] : List (S122)), ([] : List (S122)), ([] : List (List (S122)))⟩ : S100), (⟨1, (⟨#[117]⟩ : ByteArray), t113, ([] : List (S116)), (⟨#[]⟩ : ByteArray), ([] : List (S122)), ([] : List (S122)), ([] : List (List (S122)))⟩ : S100)] : List (S100))) := ⟨_, rfl⟩; (replace H : (some y116) = some r := by first | (rw [hy116]; with_reducible exact H) | (have H2_ := (Option.bind_some _ _).symm.trans H; rw [hy116]; with_reducible exact H2_) | (have H2_ := (Option.bind_some _ _).symm.trans H; with_reducible exact H2_) | with_reducible exact H | (rw [hy116]; exact H) | exact H); have Ny116 := qK hy116; clear hy116; obtain rfl := Option.some.inj H; go_enter Try.func67, Try.ntmps67; go_wp2_with (first | ((with_reducible refine gcl (f := 77) rfl ?_); refine goesL_ (some 1) rfl rfl Try.func77 (by kernel_rfl) rfl #[.string (⟨#[116]⟩ : ByteArray)] rfl qA ?_; (with_reducible refine (spec_l5Usual.calls (⟨#[116]⟩ : ByteArray) t110 _ A1.out).mono ?_); rintro e w3 ⟨v111, rfl, ho0, hb⟩; refine ⟨_, rfl, ?_⟩; have HO112 := qK (Kd.Rlo (Kd.R_newM (M := fun k_ => (w.heap.size ≤ k_)) ho0 (bsz qB) (fun k_ h_ => h_)) (bsz qB)); replace HB := qHB HB hb; (try clear hb); (try clear hb2); (try clear hk); (try clear hi); (try clear ho0); obtain ⟨Ao4, co4, eo4⟩ := Kd.R_slice HO112.out; subst eo4) | ((with_reducible refine gcl (f := 77) rfl ?_); refine goesL_ (some 3) rfl rfl Try.func77 (by kernel_rfl) rfl #[.string (⟨#[117]⟩ : ByteArray)] rfl qA ?_; (with_reducible refine (spec_l5Usual.calls (⟨#[117]⟩ : ByteArray) t113 _ A2.out).mono ?_); rintro e w5 ⟨v114, rfl, ho0, hb⟩; refine ⟨_, rfl, ?_⟩; have HO115 := qK (Kd.Rlo (Kd.R_new' (Kd.R_newM (M := fun k_ => (w.heap.size ≤ k_)) ho0 (bsz qB) (fun k_ h_ => h_)) (Kd.R_lt (qRb HO112))) (bsz qB)); replace HO112 := qK (Kd.R_elder' (qRb HO112) (Kd.R_base ho0) hb); replace HB := qHB HB hb; (try clear hb); (try clear hb2); (try clear hk); (try clear hi); (try clear ho0); obtain ⟨Ao6, co6, eo6⟩ := Kd.R_slice HO115.out; subst eo6) | ((with_reducible refine gds (N := 5) rfl ?_); refine Kd.N_lit k100 _ 100 ?hg (N' := 5) ?hd (xs := ([(⟨1, (⟨#[116]⟩ : ByteArray), t110, ([] : List (S116)), (⟨#[]⟩ : ByteArray), ([] : List (S122)), ([] : List (S122)), ([] : List (List (S122)))⟩ : S100), (⟨1, (⟨#[117]⟩ : ByteArray), t113, ([] : List (S116)), (⟨#[]⟩ : ByteArray), ([] : List (S122)), ([] : List (S122)), ([] : List (List (S122)))⟩ : S100)] : List (S100))) (inner := [.int .i64 1, .string (⟨#[116]⟩ : ByteArray), .slice Ao4 t110.length co4, .slice none 0 0, .string (⟨#[]⟩ : ByteArray), .slice none 0 0, .slice none 0 0, .slice none 0 0, .int .i64 1, .string (⟨#[117]⟩ : ByteArray), .slice Ao6 t113.length co6, .slice none 0 0, .string (⟨#[]⟩ : ByteArray), .slice none 0 0, .slice none 0 0, .slice none 0 0]) (ok := (fun k_ => (w.heap.size ≤ k_))) (okp := (fun k_ => (w.heap.size ≤ k_))) ?hr ?hp (fun _ hk => hk) ((show ∀ k_, w5.heap.size ≤ k_ → (fun k_ => (w.heap.size ≤ k_)) k_ from fun k_ hk => (Nat.le_trans (bsz qB) hk)) _ (Nat.le_refl _)) (Below.refl _ _) (Nat.le_refl _) (by simp) ?_; (case hd => rfl); (case hg => rfl); (case hr => first | (go_simp; done) | (go_simp; rfl)); (case hp => exact (Reps.c8 (show Kd.FK k100 _ _ (⟨1, (⟨#[116]⟩ : ByteArray), t110, ([] : List (S116)), (⟨#[]⟩ : ByteArray), ([] : List (S122)), ([] : List (S122)), ([] : List (List (S122)))⟩ : S100) [.int .i64 1, .string (⟨#[116]⟩ : ByteArray), .slice Ao4 t110.length co4, .slice none 0 0, .string (⟨#[]⟩ : ByteArray), .slice none 0 0, .slice none 0 0, .slice none 0 0] from (k100_mkF _ _ (⟨1, (⟨#[116]⟩ : ByteArray), t110, ([] : List (S116)), (⟨#[]⟩ : ByteArray), ([] : List (S122)), ([] : List (S122)), ([] : List (List (S122)))⟩ : S100) (Kd.R_reads' (Kd.Rmo (ok' := (fun k_ => (w.heap.size ≤ k_))) (HO112.out) (fun k_ hk => hk.1.1))).2.1 (Kd.R_F (Kd.Rmo (ok' := (fun k_ => (w.heap.size ≤ k_))) (HO112.out) (fun k_ hk => hk.1.1))) (Nat.le_refl _) (Kd.F_nil _ _ _) (Nat.le_refl _) (Kd.F_nil _ _ _) (Nat.le_refl _) (Kd.F_nil _ _ _) (Nat.le_refl _) (Kd.F_nil _ _ _))) (Reps.c8 (show Kd.FK k100 _ _ (⟨1, (⟨#[117]⟩ : ByteArray), t113, ([] : List (S116)), (⟨#[]⟩ : ByteArray), ([] : List (S122)), ([] : List (S122)), ([] : List (List (S122)))⟩ : S100) [.int .i64 1, .string (⟨#[117]⟩ : ByteArray), .slice Ao6 t113.length co6, .slice none 0 0, .string (⟨#[]⟩ : ByteArray), .slice none 0 0, .slice none 0 0, .slice none 0 0] from (k100_mkF _ _ (⟨1, (⟨#[117]⟩ : ByteArray), t113, ([] : List (S116)), (⟨#[]⟩ : ByteArray), ([] : List (S122)), ([] : List (S122)), ([] : List (List (S122)))⟩ : S100) (Kd.R_reads' (Kd.Rmo (ok' := (fun k_ => (w.heap.size ≤ k_))) (HO115.out) (fun k_ hk => hk.1.1))).2.1 (Kd.R_F (Kd.Rmo (ok' := (fun k_ => (w.heap.size ≤ k_))) (HO115.out) (fun k_ hk => hk.1.1))) (Nat.le_refl _) (Kd.F_nil _ _ _) (Nat.le_refl _) (Kd.F_nil _ _ _) (Nat.le_refl _) (Kd.F_nil _ _ _) (Nat.le_refl _) (Kd.F_nil _ _ _))) (Reps.none _ _)))); intro v117 w7 ho8 hb hg_ hnew_; clear hg_ hnew_; (first | rw [← Ny116.out] at ho8 | (simp only [Int.reduceToNat] at ho8; rw [← Ny116.out] at ho8)); have HO118 := qK (Kd.N_lower ho8 (bsz qB)); replace HB := qHB HB hb; clear HO112; clear HO115; clear hb ho8)); go_ret; exact ⟨_, qR, by (with_reducible repeat (first | apply Kd.N_alloc | apply Kd.N_drewN | apply Kd.N_drew)); exact HO118.out, qB⟩
mutual
def spec_l1Num.l0 : Nat → Int → List Int → Int → Option (ByteArray)
  | 0, _, _, _ => none
  | k + 1, x1, x5, x6 => if x6 ≥ 0 then (spec_l1Num.l1 k x1 x5 x6 x1 0) else (some (strOfNums x5))
def spec_l1Num.l1 : Nat → Int → List Int → Int → Int → Int → Option (ByteArray)
  | 0, _, _, _, _, _ => none
  | k + 1, x1, x5, x6, x7, x8 => if x8 < x6 then (spec_l1Num.l1 k x1 x5 x6 (x7 / 256) (wrap64 (x8 + 1))) else (if x5.length < 140737488355328 then (spec_l1Num.l0 k x1 (x5 ++ [(x7) % 256]) (wrap64 (x6 - 1))) else (none))
end
def spec_l1Num.f (k : Nat) (a0 : Int) (a1 : Int) : Option (ByteArray) := spec_l1Num.l0 k a1 (([] : List Int)) (wrap64 (a0 - 1))
theorem spec_l1Num.mono_l : ∀ k, (∀ y0 y1 y2, LeO (spec_l1Num.l0 k y0 y1 y2) (spec_l1Num.l0 (k + 1) y0 y1 y2)) ∧ (∀ y0 y1 y2 y3 y4, LeO (spec_l1Num.l1 k y0 y1 y2 y3 y4) (spec_l1Num.l1 (k + 1) y0 y1 y2 y3 y4))
  | 0 => ⟨fun _ _ _ r h => by simp [spec_l1Num.l0] at h, fun _ _ _ _ _ r h => by simp [spec_l1Num.l1] at h⟩
  | k + 1 => by
    obtain ⟨ih0, ih1⟩ := spec_l1Num.mono_l k
    refine ⟨?_, ?_⟩
    · intro y0 y1 y2
      unfold spec_l1Num.l0
      repeat' first
      | (with_reducible exact ih0 _ _ _)
      | (with_reducible exact ih1 _ _ _ _ _)
      | (with_reducible exact LeO.refl _)
      | (with_reducible exact LeO.none _)
      | (with_reducible refine LeO.ite ?_ ?_)
      | (with_reducible refine LeO.bind ?_ (fun _ => ?_))
      | exact ih0 _ _ _
      | exact ih1 _ _ _ _ _
      | exact LeO.none _
      | refine LeO.ite ?_ ?_
      | refine LeO.bind ?_ (fun _ => ?_)
    · intro y0 y1 y2 y3 y4
      unfold spec_l1Num.l1
      repeat' first
      | (with_reducible exact ih0 _ _ _)
      | (with_reducible exact ih1 _ _ _ _ _)
      | (with_reducible exact LeO.refl _)
      | (with_reducible exact LeO.none _)
      | (with_reducible refine LeO.ite ?_ ?_)
      | (with_reducible refine LeO.bind ?_ (fun _ => ?_))
      | exact ih0 _ _ _
      | exact ih1 _ _ _ _ _
      | exact LeO.none _
      | refine LeO.ite ?_ ?_
      | refine LeO.bind ?_ (fun _ => ?_)
theorem spec_l1Num.mono : ∀ a0 a1 k, LeO (spec_l1Num.f k a0 a1) (spec_l1Num.f (k + 1) a0 a1) := by
  intro a0 a1 k
  obtain ⟨ih0, ih1⟩ := spec_l1Num.mono_l k
  unfold spec_l1Num.f
  repeat' first
      | (with_reducible exact ih0 _ _ _)
      | (with_reducible exact ih1 _ _ _ _ _)
      | (with_reducible exact LeO.refl _)
      | (with_reducible exact LeO.none _)
      | (with_reducible refine LeO.ite ?_ ?_)
      | (with_reducible refine LeO.bind ?_ (fun _ => ?_))
      | exact ih0 _ _ _
      | exact ih1 _ _ _ _ _
      | exact LeO.none _
      | refine LeO.ite ?_ ?_
      | refine LeO.bind ?_ (fun _ => ?_)
set_option maxHeartbeats 8000000 in
set_option maxRecDepth 100000 in
theorem spec_l1Num.calls (k : Nat) (a0 : Int) (a1 : Int) (r : ByteArray) (w : World) (h : spec_l1Num.f k a0 a1 = some r) :
    Calls Try.prog 75 #[.int .i64 a0, .int .i64 a1] w fun e w' => e = .returned (.string r) ∧ Below w.heap.size w w' := by
  have HB := qK (Below.refl w.heap.size w); have H : (spec_l1Num.l0 k a1 (([] : List Int)) (wrap64 (a0 - 1))) = some r := h; clear h; obtain ⟨y119, hy119⟩ : ∃ y_ : List Int, y_ = (([] : List Int)) := ⟨_, rfl⟩; (replace H : (spec_l1Num.l0 k a1 y119 (wrap64 (a0 - 1))) = some r := by first | (rw [hy119]; with_reducible exact H) | (have H2_ := (Option.bind_some _ _).symm.trans H; rw [hy119]; with_reducible exact H2_) | (have H2_ := (Option.bind_some _ _).symm.trans H; with_reducible exact H2_) | with_reducible exact H | (rw [hy119]; exact H) | exact H); have Ny119 := qK hy119; clear hy119; have H' := qK H; clear H; go_enter Try.func75, Try.ntmps75; go_wp2_with (first | ((with_reducible refine gds (N := 9) rfl ?_); refine Kd.R_lit (Kd.int .u8) _ 5 ?hg (N := 9) ?hd (xs := ([] : List Int)) (inner := []) (ok := fun _ => True) (okp := fun _ => True) ?hr ?hp (fun _ hk => hk) trivial (Below.refl _ _) (Nat.le_refl _) (by simp) ?_; (case hd => rfl); (case hg => rfl); (case hr => first | (go_simp; done) | (go_simp; rfl)); (case hp => exact (Reps.none _ _)); intro v120 w3 ho4 hb hg_ hnew_; clear hg_ hnew_; (first | rw [← Ny119.out] at ho4 | (simp only [Int.reduceToNat] at ho4; rw [← Ny119.out] at ho4)); have HO121 := qK (Kd.Rlo ho4 (bsz qB)); replace HB := qHB HB hb; clear hb ho4)); go_loopg [5, 6] k (fun kq v5 v6 w' => ∃ (x5_1 : List Int) (x6_1 : Int), v6 = .int .i64 x6_1 ∧ Aside0 (spec_l1Num.l0 kq a1 x5_1 x6_1 = some r) ∧ Aside0 (kq ≤ k) ∧ Aside0 (Kd.R (Kd.int .u8) 5 w' w.heap.size (fun _ => True) v5 x5_1) ∧ Aside0 (Below w.heap.size w w'))
  case atStart => exact ⟨(y119), (wrap64 (a0 - 1)), qS, H', ⟨Nat.le_refl _⟩, ⟨by (with_reducible repeat (first | apply Kd.Ral | apply Kd.RdN | apply Kd.Rdr)); exact HO121.out⟩, ⟨qB⟩⟩
  case round =>
    clear H'; (try clear p2); obtain ⟨x5_1, x6_1, rfl, HA, HK1, HO_5, HB⟩ := hrel
    cases gk with
    | zero => exact absurd HA.out (by simp [spec_l1Num.l0])
    | succ k1 =>
      have H := HA.out; clear HA; simp only [spec_l1Num.l0] at H; by_cases c5 : x6_1 ≥ 0
      · rw [if_pos c5] at H; have c5b0 : decide (0 ≤ x6_1) = true := decide_eq_true c5; clear c5; have H' := qK H; clear H; go_wp2; go_loopg [7, 8] k1 (fun kq v7 v8 w' => ∃ (x7_2 : Int) (x8_2 : Int), v7 = .int .i64 x7_2 ∧ v8 = .int .i64 x8_2 ∧ Aside0 (spec_l1Num.l1 kq a1 x5_1 x6_1 x7_2 x8_2 = some r) ∧ Aside0 (kq ≤ k1) ∧ Aside0 (Kd.R (Kd.int .u8) 5 w' w.heap.size (fun _ => True) u5 x5_1) ∧ Aside0 (Below w.heap.size w w'))
        case atStart => exact ⟨(a1), (0), qS, qS, H', ⟨Nat.le_refl _⟩, ⟨by (with_reducible repeat (first | apply Kd.Ral | apply Kd.RdN | apply Kd.Rdr)); exact HO_5.out⟩, ⟨qB⟩⟩
        case round =>
          clear H'; (try clear p2); (try clear c5); (try clear c5b0); obtain ⟨x7_2, x8_2, rfl, rfl, HA, HK2, HO_5, HB⟩ := hrel
          cases gk with
          | zero => exact absurd HA.out (by simp [spec_l1Num.l1])
          | succ k2 =>
            have H := HA.out; clear HA; simp only [spec_l1Num.l1] at H; by_cases c6 : x8_2 < x6_1
            · rw [if_pos c6] at H; have c6b0 : decide (x8_2 < x6_1) = true := decide_eq_true c6; clear c6; have H' := qK H; clear H; go_wp2; go_roundg k2
              case measure => have := HK1.out; have := HK2.out; omega
              case rel => exact ⟨(x7_2 / 256), (wrap64 (x8_2 + 1)), qS, qS, H', ⟨by have := HK1.out; have := HK2.out; omega⟩, ⟨by (with_reducible repeat (first | apply Kd.Ral | apply Kd.RdN | apply Kd.Rdr)); exact HO_5.out⟩, ⟨qB⟩⟩
            · rw [if_neg c6] at H; have c6b0 : decide (x8_2 < x6_1) = false := decide_eq_false c6; clear c6; by_cases c7 : x5_1.length < 140737488355328
              · rw [if_pos c7] at H; have LMc7 := qK c7; clear c7; obtain ⟨y122, hy122⟩ : ∃ y_ : List Int, y_ = (x5_1 ++ [(x7_2) % 256]) := ⟨_, rfl⟩; (replace H : (spec_l1Num.l0 k2 a1 y122 (wrap64 (x6_1 - 1))) = some r := by first | (rw [hy122]; with_reducible exact H) | (have H2_ := (Option.bind_some _ _).symm.trans H; rw [hy122]; with_reducible exact H2_) | (have H2_ := (Option.bind_some _ _).symm.trans H; with_reducible exact H2_) | with_reducible exact H | (rw [hy122]; exact H) | exact H); have Ny122 := qK hy122; clear hy122; have H' := qK H; clear H; go_wp2_with (first | ((with_reducible refine gbu (b := .append) (xs := #[.tmp 24, .tmp 27]) rfl ?_); at_builtin; refine Kd.R_append (Kd.int .u8) (w0 := w) w.heap.size rfl (.tmp 24) (.tmp 27) 46 5 (.int .u8 0) 1 rfl Try.underlying46 info5 rfl (by decide) (by omega) u5 x5_1 ((x7_2) % 256) [.int .u8 ((x7_2) % 256)] (fun _ => True) (fun _ => False) rfl rfl ?aP (fun _ hk => hk.elim) ?aF ?aO ?aB ?aS ?aL ?_; (case aP => exact rfl); (case aB => exact qB); (case aF => exact (fun _ _ => trivial)); (case aO => exact (qRb HO_5)); (case aS => exact (bsz qB)); (case aL => have := LMc7.out; omega); intro v123 w8 ho hb hg hat; rw [← Ny122.out] at ho; replace HB := qK (hb); have HO124 := qK (ho); clear HO_5; clear ho hb hg hat)); go_roundg k2
                case measure => have := HK1.out; have := HK2.out; omega
                case rel => exact ⟨(y122), (wrap64 (x6_1 - 1)), qS, H', ⟨by have := HK1.out; have := HK2.out; omega⟩, ⟨by (with_reducible repeat (first | apply Kd.Ral | apply Kd.RdN | apply Kd.Rdr)); exact HO124.out⟩, ⟨qB⟩⟩
              · rw [if_neg c7] at H; exact absurd H (by simp)
      · rw [if_neg c5] at H; have c5b0 : decide (0 ≤ x6_1) = false := decide_eq_false c5; clear c5; obtain rfl := Option.some.inj H; have hcv9 := own_string (P := Try.prog) Try.underlying46 Try.underlying5 Try.underlying9 (Kd.own_of_R HO_5.out); go_wp2; go_ret; exact ⟨qR, qB⟩
def spec_l1Between.f (a0 : Int) (a1 : Int) (a2 : Int) : Option (Bool) := if a1 ≤ a0 then (some (decide (a0 ≤ a2))) else (some false)
set_option maxHeartbeats 8000000 in
set_option maxRecDepth 100000 in
theorem spec_l1Between.calls (a0 : Int) (a1 : Int) (a2 : Int) (r : Bool) (w : World) (h : spec_l1Between.f a0 a1 a2 = some r) :
    Calls Try.prog 26 #[.int .i64 a0, .int .i64 a1, .int .i64 a2] w fun e w' => e = .returned (.bool r) ∧ Drawn0 w w' := by
  have H : (if a1 ≤ a0 then (some (decide (a0 ≤ a2))) else (some false)) = some r := h; clear h; by_cases c4 : a1 ≤ a0
  · rw [if_pos c4] at H; have c4b0 : decide (a1 ≤ a0) = true := decide_eq_true c4; clear c4; obtain rfl := Option.some.inj H; go_enter Try.func26, Try.ntmps26; go_wp2; go_ret; exact ⟨by first | rfl | (simp; done) | (simp [*]; done), by repeat (first | exact Drawn0.refl _ | apply Drawn0.step)⟩
  · rw [if_neg c4] at H; have c4b0 : decide (a1 ≤ a0) = false := decide_eq_false c4; clear c4; obtain rfl := Option.some.inj H; go_enter Try.func26, Try.ntmps26; go_wp2; go_ret; exact ⟨by first | rfl | (simp; done) | (simp [*]; done), by repeat (first | exact Drawn0.refl _ | apply Drawn0.step)⟩
def spec_l4Letter.f (a0 : Int) : Option (Bool) := if a0 ≥ 97 then (some (decide (a0 ≤ 122))) else (some false)
set_option maxHeartbeats 8000000 in
set_option maxRecDepth 100000 in
theorem spec_l4Letter.calls (a0 : Int) (r : Bool) (w : World) (h : spec_l4Letter.f a0 = some r) :
    Calls Try.prog 48 #[.int .u8 a0] w fun e w' => e = .returned (.bool r) ∧ Drawn0 w w' := by
  have H : (if a0 ≥ 97 then (some (decide (a0 ≤ 122))) else (some false)) = some r := h; clear h; by_cases c2 : a0 ≥ 97
  · rw [if_pos c2] at H; have c2b0 : decide (97 ≤ a0) = true := decide_eq_true c2; clear c2; obtain rfl := Option.some.inj H; go_enter Try.func48, Try.ntmps48; go_wp2; go_ret; exact ⟨by first | rfl | (simp; done) | (simp [*]; done), by repeat (first | exact Drawn0.refl _ | apply Drawn0.step)⟩
  · rw [if_neg c2] at H; have c2b0 : decide (97 ≤ a0) = false := decide_eq_false c2; clear c2; obtain rfl := Option.some.inj H; go_enter Try.func48, Try.ntmps48; go_wp2; go_ret; exact ⟨by first | rfl | (simp; done) | (simp [*]; done), by repeat (first | exact Drawn0.refl _ | apply Drawn0.step)⟩
def spec_l4Has.l0 : Nat → ByteArray → List ByteArray → Int → Int → Option (Bool)
  | 0, _, _, _, _ => none
  | k + 1, x1, x7, x8, x9 => if x9 < x8 then (if 0 ≤ x9 then (if x9 < (x7.length : Int) then (if (rdOf ByteArray.empty x7 x9).toList = x1.toList then (some true) else (spec_l4Has.l0 k x1 x7 x8 (wrap64 (x9 + 1)))) else (none)) else (none)) else (some false)
def spec_l4Has.f (k : Nat) (l0 : List ByteArray) (a1 : ByteArray) : Option (Bool) := spec_l4Has.l0 k a1 l0 (l0.length : Int) 0
theorem spec_l4Has.mono_l : ∀ k, (∀ y0 y1 y2 y3, LeO (spec_l4Has.l0 k y0 y1 y2 y3) (spec_l4Has.l0 (k + 1) y0 y1 y2 y3))
  | 0 => fun _ _ _ _ r h => by simp [spec_l4Has.l0] at h
  | k + 1 => by
    have ih0 := spec_l4Has.mono_l k
    · intro y0 y1 y2 y3
      unfold spec_l4Has.l0
      repeat' first
      | (with_reducible exact ih0 _ _ _ _)
      | (with_reducible exact LeO.refl _)
      | (with_reducible exact LeO.none _)
      | (with_reducible refine LeO.ite ?_ ?_)
      | (with_reducible refine LeO.bind ?_ (fun _ => ?_))
      | exact ih0 _ _ _ _
      | exact LeO.none _
      | refine LeO.ite ?_ ?_
      | refine LeO.bind ?_ (fun _ => ?_)
theorem spec_l4Has.mono : ∀ a0 a1 k, LeO (spec_l4Has.f k a0 a1) (spec_l4Has.f (k + 1) a0 a1) := by
  intro a0 a1 k
  have ih0 := spec_l4Has.mono_l k
  unfold spec_l4Has.f
  repeat' first
      | (with_reducible exact ih0 _ _ _ _)
      | (with_reducible exact LeO.refl _)
      | (with_reducible exact LeO.none _)
      | (with_reducible refine LeO.ite ?_ ?_)
      | (with_reducible refine LeO.bind ?_ (fun _ => ?_))
      | exact ih0 _ _ _ _
      | exact LeO.none _
      | refine LeO.ite ?_ ?_
      | refine LeO.bind ?_ (fun _ => ?_)
set_option maxHeartbeats 8000000 in
set_option maxRecDepth 100000 in
theorem spec_l4Has.calls (k : Nat) (A0 : Option Addr) (c0 : Nat) (l0 : List ByteArray) (a1 : ByteArray) (r : Bool) (w : World) (hr0 : Kd.C Kd.string w A0 l0.length l0) (hc0 : l0.length ≤ c0) (h : spec_l4Has.f k l0 a1 = some r) :
    Calls Try.prog 118 #[.slice A0 l0.length c0, .string a1] w fun e w' => e = .returned (.bool r) ∧ Drawn0 w w' := by
  have HR0 := qK hr0; have HC0 := qK hc0; clear hr0 hc0; have H : (spec_l4Has.l0 k a1 l0 (l0.length : Int) 0) = some r := h; clear h; have H' := qK H; clear H; go_enter Try.func118, Try.ntmps118; go_wp2; go_loopg [9] k (fun kq v9 w' => ∃ (x9_1 : Int), v9 = .int .i64 x9_1 ∧ Aside0 (spec_l4Has.l0 kq a1 l0 (l0.length : Int) x9_1 = some r) ∧ Aside0 (kq ≤ k) ∧ Drawn0 w w')
  case atStart => exact ⟨(0), qS, H', ⟨Nat.le_refl _⟩, by repeat (first | exact Drawn0.refl _ | apply Drawn0.step)⟩
  case round =>
    clear H'; (try clear c1); (try clear p2); obtain ⟨x9_1, rfl, HA, HK1, ⟨m1, rfl⟩⟩ := hrel
    cases gk with
    | zero => exact absurd HA.out (by simp [spec_l4Has.l0])
    | succ k1 =>
      have H := HA.out; clear HA; simp only [spec_l4Has.l0] at H; by_cases c3 : x9_1 < (l0.length : Int)
      · rw [if_pos c3] at H; have c3b0 : decide (x9_1 < (l0.length : Int)) = true := decide_eq_true c3; clear c3; by_cases c4 : 0 ≤ x9_1
        · rw [if_pos c4] at H; have c4b0 : decide (0 ≤ x9_1) = true := decide_eq_true c4; clear c4; by_cases c5 : x9_1 < (l0.length : Int)
          · rw [if_pos c5] at H; have c5b0 : decide (x9_1 < (l0.length : Int)) = true := decide_eq_true c5; clear c5; by_cases c6 : (rdOf ByteArray.empty l0 x9_1).toList = a1.toList
            · rw [if_pos c6] at H; have c6b0 : ((rdOf ByteArray.empty l0 x9_1).toList == a1.toList) = true := beq_iff_eq.mpr c6; have c6b1 : ((rdOf ByteArray.empty l0 x9_1).toList != a1.toList) = false := bne_eq_false_iff_eq.mpr c6; clear c6; obtain rfl := Option.some.inj H; have p125 : 0 ≤ (x9_1 : Int) := of_decide_eq_true qa; have q125 : x9_1 < (l0.length : Int) := of_decide_eq_true qa; obtain ⟨ad125, e125, hx125_0⟩ := Kd.at_string HR0.out x9_1 p125 q125; cases e125; replace p125 := eq_true p125; replace q125 := eq_true q125; go_wp2; go_ret; exact ⟨by first | rfl | (simp; done) | (simp [*]; done), by repeat (first | exact Drawn0.refl _ | apply Drawn0.step)⟩
            · rw [if_neg c6] at H; have c6b0 : ((rdOf ByteArray.empty l0 x9_1).toList == a1.toList) = false := beq_eq_false_iff_ne.mpr c6; have c6b1 : ((rdOf ByteArray.empty l0 x9_1).toList != a1.toList) = true := bne_iff_ne.mpr c6; have H' := qK H; clear H; have p125 : 0 ≤ (x9_1 : Int) := of_decide_eq_true qa; have q125 : x9_1 < (l0.length : Int) := of_decide_eq_true qa; obtain ⟨ad125, e125, hx125_0⟩ := Kd.at_string HR0.out x9_1 p125 q125; cases e125; replace p125 := eq_true p125; replace q125 := eq_true q125; go_wp2; go_roundg k1
              case measure => have := HK1.out; omega
              case rel => exact ⟨(wrap64 (x9_1 + 1)), qS, H', ⟨by have := HK1.out; omega⟩, by repeat (first | exact Drawn0.refl _ | apply Drawn0.step)⟩
          · rw [if_neg c5] at H; exact absurd H (by simp)
        · rw [if_neg c4] at H; exact absurd H (by simp)
      · rw [if_neg c3] at H; have c3b0 : decide (x9_1 < (l0.length : Int)) = false := decide_eq_false c3; clear c3; obtain rfl := Option.some.inj H; go_wp2; go_ret; exact ⟨by first | rfl | (simp; done) | (simp [*]; done), by repeat (first | exact Drawn0.refl _ | apply Drawn0.step)⟩
def spec_l4Keywords.f  : Option (List ByteArray) := some (([(⟨#[99, 114, 101, 97, 116, 101]⟩ : ByteArray), (⟨#[116, 97, 98, 108, 101]⟩ : ByteArray), (⟨#[105, 110, 115, 101, 114, 116]⟩ : ByteArray), (⟨#[105, 110, 116, 111]⟩ : ByteArray), (⟨#[118, 97, 108, 117, 101, 115]⟩ : ByteArray), (⟨#[117, 112, 100, 97, 116, 101]⟩ : ByteArray), (⟨#[115, 101, 116]⟩ : ByteArray), (⟨#[100, 101, 108, 101, 116, 101]⟩ : ByteArray), (⟨#[102, 114, 111, 109]⟩ : ByteArray), (⟨#[119, 104, 101, 114, 101]⟩ : ByteArray), (⟨#[115, 101, 108, 101, 99, 116]⟩ : ByteArray), (⟨#[97, 110, 100]⟩ : ByteArray), (⟨#[111, 114]⟩ : ByteArray), (⟨#[110, 111, 116]⟩ : ByteArray), (⟨#[108, 101, 110]⟩ : ByteArray), (⟨#[105, 110, 116]⟩ : ByteArray), (⟨#[116, 101, 120, 116]⟩ : ByteArray)] : List ByteArray))
set_option maxHeartbeats 8000000 in
set_option maxRecDepth 100000 in
theorem spec_l4Keywords.calls  (r : List ByteArray) (w : World) (h : spec_l4Keywords.f  = some r) :
    Calls Try.prog 119 #[] w fun e w' => ∃ v0_ : Value, e = .returned (v0_) ∧ Kd.R Kd.string 9 w' w.heap.size (fun _ => True) v0_ r ∧ Below w.heap.size w w' := by
  have HB := qK (Below.refl w.heap.size w); have H : (some (([(⟨#[99, 114, 101, 97, 116, 101]⟩ : ByteArray), (⟨#[116, 97, 98, 108, 101]⟩ : ByteArray), (⟨#[105, 110, 115, 101, 114, 116]⟩ : ByteArray), (⟨#[105, 110, 116, 111]⟩ : ByteArray), (⟨#[118, 97, 108, 117, 101, 115]⟩ : ByteArray), (⟨#[117, 112, 100, 97, 116, 101]⟩ : ByteArray), (⟨#[115, 101, 116]⟩ : ByteArray), (⟨#[100, 101, 108, 101, 116, 101]⟩ : ByteArray), (⟨#[102, 114, 111, 109]⟩ : ByteArray), (⟨#[119, 104, 101, 114, 101]⟩ : ByteArray), (⟨#[115, 101, 108, 101, 99, 116]⟩ : ByteArray), (⟨#[97, 110, 100]⟩ : ByteArray), (⟨#[111, 114]⟩ : ByteArray), (⟨#[110, 111, 116]⟩ : ByteArray), (⟨#[108, 101, 110]⟩ : ByteArray), (⟨#[105, 110, 116]⟩ : ByteArray), (⟨#[116, 101, 120, 116]⟩ : ByteArray)] : List ByteArray))) = some r := h; clear h; obtain ⟨y126, hy126⟩ : ∃ y_ : List ByteArray, y_ = (([(⟨#[99, 114, 101, 97, 116, 101]⟩ : ByteArray), (⟨#[116, 97, 98, 108, 101]⟩ : ByteArray), (⟨#[105, 110, 115, 101, 114, 116]⟩ : ByteArray), (⟨#[105, 110, 116, 111]⟩ : ByteArray), (⟨#[118, 97, 108, 117, 101, 115]⟩ : ByteArray), (⟨#[117, 112, 100, 97, 116, 101]⟩ : ByteArray), (⟨#[115, 101, 116]⟩ : ByteArray), (⟨#[100, 101, 108, 101, 116, 101]⟩ : ByteArray), (⟨#[102, 114, 111, 109]⟩ : ByteArray), (⟨#[119, 104, 101, 114, 101]⟩ : ByteArray), (⟨#[115, 101, 108, 101, 99, 116]⟩ : ByteArray), (⟨#[97, 110, 100]⟩ : ByteArray), (⟨#[111, 114]⟩ : ByteArray), (⟨#[110, 111, 116]⟩ : ByteArray), (⟨#[108, 101, 110]⟩ : ByteArray), (⟨#[105, 110, 116]⟩ : ByteArray), (⟨#[116, 101, 120, 116]⟩ : ByteArray)] : List ByteArray)) := ⟨_, rfl⟩; (replace H : (some y126) = some r := by first | (rw [hy126]; with_reducible exact H) | (have H2_ := (Option.bind_some _ _).symm.trans H; rw [hy126]; with_reducible exact H2_) | (have H2_ := (Option.bind_some _ _).symm.trans H; with_reducible exact H2_) | with_reducible exact H | (rw [hy126]; exact H) | exact H); have Ny126 := qK hy126; clear hy126; obtain rfl := Option.some.inj H; go_enter Try.func119, Try.ntmps119; go_wp2_with (first | ((with_reducible refine gds (N := 1) rfl ?_); refine Kd.R_lit Kd.string _ 9 ?hg (N := 1) ?hd (xs := ([(⟨#[99, 114, 101, 97, 116, 101]⟩ : ByteArray), (⟨#[116, 97, 98, 108, 101]⟩ : ByteArray), (⟨#[105, 110, 115, 101, 114, 116]⟩ : ByteArray), (⟨#[105, 110, 116, 111]⟩ : ByteArray), (⟨#[118, 97, 108, 117, 101, 115]⟩ : ByteArray), (⟨#[117, 112, 100, 97, 116, 101]⟩ : ByteArray), (⟨#[115, 101, 116]⟩ : ByteArray), (⟨#[100, 101, 108, 101, 116, 101]⟩ : ByteArray), (⟨#[102, 114, 111, 109]⟩ : ByteArray), (⟨#[119, 104, 101, 114, 101]⟩ : ByteArray), (⟨#[115, 101, 108, 101, 99, 116]⟩ : ByteArray), (⟨#[97, 110, 100]⟩ : ByteArray), (⟨#[111, 114]⟩ : ByteArray), (⟨#[110, 111, 116]⟩ : ByteArray), (⟨#[108, 101, 110]⟩ : ByteArray), (⟨#[105, 110, 116]⟩ : ByteArray), (⟨#[116, 101, 120, 116]⟩ : ByteArray)] : List ByteArray)) (inner := [.string (⟨#[99, 114, 101, 97, 116, 101]⟩ : ByteArray), .string (⟨#[116, 97, 98, 108, 101]⟩ : ByteArray), .string (⟨#[105, 110, 115, 101, 114, 116]⟩ : ByteArray), .string (⟨#[105, 110, 116, 111]⟩ : ByteArray), .string (⟨#[118, 97, 108, 117, 101, 115]⟩ : ByteArray), .string (⟨#[117, 112, 100, 97, 116, 101]⟩ : ByteArray), .string (⟨#[115, 101, 116]⟩ : ByteArray), .string (⟨#[100, 101, 108, 101, 116, 101]⟩ : ByteArray), .string (⟨#[102, 114, 111, 109]⟩ : ByteArray), .string (⟨#[119, 104, 101, 114, 101]⟩ : ByteArray), .string (⟨#[115, 101, 108, 101, 99, 116]⟩ : ByteArray), .string (⟨#[97, 110, 100]⟩ : ByteArray), .string (⟨#[111, 114]⟩ : ByteArray), .string (⟨#[110, 111, 116]⟩ : ByteArray), .string (⟨#[108, 101, 110]⟩ : ByteArray), .string (⟨#[105, 110, 116]⟩ : ByteArray), .string (⟨#[116, 101, 120, 116]⟩ : ByteArray)]) (ok := fun _ => True) (okp := fun _ => True) ?hr ?hp (fun _ hk => hk) trivial (Below.refl _ _) (Nat.le_refl _) (by simp) ?_; (case hd => rfl); (case hg => rfl); (case hr => first | (go_simp; done) | (go_simp; rfl)); (case hp => exact (Reps.one (show Kd.M Kd.string _ _ _ (⟨#[99, 114, 101, 97, 116, 101]⟩ : ByteArray) [.string (⟨#[99, 114, 101, 97, 116, 101]⟩ : ByteArray)] from rfl) (Reps.one (show Kd.M Kd.string _ _ _ (⟨#[116, 97, 98, 108, 101]⟩ : ByteArray) [.string (⟨#[116, 97, 98, 108, 101]⟩ : ByteArray)] from rfl) (Reps.one (show Kd.M Kd.string _ _ _ (⟨#[105, 110, 115, 101, 114, 116]⟩ : ByteArray) [.string (⟨#[105, 110, 115, 101, 114, 116]⟩ : ByteArray)] from rfl) (Reps.one (show Kd.M Kd.string _ _ _ (⟨#[105, 110, 116, 111]⟩ : ByteArray) [.string (⟨#[105, 110, 116, 111]⟩ : ByteArray)] from rfl) (Reps.one (show Kd.M Kd.string _ _ _ (⟨#[118, 97, 108, 117, 101, 115]⟩ : ByteArray) [.string (⟨#[118, 97, 108, 117, 101, 115]⟩ : ByteArray)] from rfl) (Reps.one (show Kd.M Kd.string _ _ _ (⟨#[117, 112, 100, 97, 116, 101]⟩ : ByteArray) [.string (⟨#[117, 112, 100, 97, 116, 101]⟩ : ByteArray)] from rfl) (Reps.one (show Kd.M Kd.string _ _ _ (⟨#[115, 101, 116]⟩ : ByteArray) [.string (⟨#[115, 101, 116]⟩ : ByteArray)] from rfl) (Reps.one (show Kd.M Kd.string _ _ _ (⟨#[100, 101, 108, 101, 116, 101]⟩ : ByteArray) [.string (⟨#[100, 101, 108, 101, 116, 101]⟩ : ByteArray)] from rfl) (Reps.one (show Kd.M Kd.string _ _ _ (⟨#[102, 114, 111, 109]⟩ : ByteArray) [.string (⟨#[102, 114, 111, 109]⟩ : ByteArray)] from rfl) (Reps.one (show Kd.M Kd.string _ _ _ (⟨#[119, 104, 101, 114, 101]⟩ : ByteArray) [.string (⟨#[119, 104, 101, 114, 101]⟩ : ByteArray)] from rfl) (Reps.one (show Kd.M Kd.string _ _ _ (⟨#[115, 101, 108, 101, 99, 116]⟩ : ByteArray) [.string (⟨#[115, 101, 108, 101, 99, 116]⟩ : ByteArray)] from rfl) (Reps.one (show Kd.M Kd.string _ _ _ (⟨#[97, 110, 100]⟩ : ByteArray) [.string (⟨#[97, 110, 100]⟩ : ByteArray)] from rfl) (Reps.one (show Kd.M Kd.string _ _ _ (⟨#[111, 114]⟩ : ByteArray) [.string (⟨#[111, 114]⟩ : ByteArray)] from rfl) (Reps.one (show Kd.M Kd.string _ _ _ (⟨#[110, 111, 116]⟩ : ByteArray) [.string (⟨#[110, 111, 116]⟩ : ByteArray)] from rfl) (Reps.one (show Kd.M Kd.string _ _ _ (⟨#[108, 101, 110]⟩ : ByteArray) [.string (⟨#[108, 101, 110]⟩ : ByteArray)] from rfl) (Reps.one (show Kd.M Kd.string _ _ _ (⟨#[105, 110, 116]⟩ : ByteArray) [.string (⟨#[105, 110, 116]⟩ : ByteArray)] from rfl) (Reps.one (show Kd.M Kd.string _ _ _ (⟨#[116, 101, 120, 116]⟩ : ByteArray) [.string (⟨#[116, 101, 120, 116]⟩ : ByteArray)] from rfl) (Reps.none _ _))))))))))))))))))); intro v127 w1 ho2 hb hg_ hnew_; clear hg_ hnew_; (first | rw [← Ny126.out] at ho2 | (simp only [Int.reduceToNat] at ho2; rw [← Ny126.out] at ho2)); have HO128 := qK (Kd.Rlo ho2 (bsz qB)); replace HB := qHB HB hb; clear hb ho2)); go_ret; exact ⟨_, qR, by (with_reducible repeat (first | apply Kd.Ral | apply Kd.RdN | apply Kd.Rdr)); exact HO128.out, qB⟩
def spec_l4Inner.f (a0 : Int) : Option (Bool) := (spec_l4Letter.f a0).bind fun t129 => (if t129 = true then (some true) else (if a0 ≥ 48 then (if a0 ≤ 57 then (some true) else (some (a0 == 95))) else (some (a0 == 95))))
set_option maxHeartbeats 8000000 in
set_option maxRecDepth 100000 in
theorem spec_l4Inner.calls (a0 : Int) (r : Bool) (w : World) (h : spec_l4Inner.f a0 = some r) :
    Calls Try.prog 120 #[.int .u8 a0] w fun e w' => e = .returned (.bool r) ∧ Drawn0 w w' := by
  have H : ((spec_l4Letter.f a0).bind fun t129 => (if t129 = true then (some true) else (if a0 ≥ 48 then (if a0 ≤ 57 then (some true) else (some (a0 == 95))) else (some (a0 == 95))))) = some r := h; clear h; replace H := Option.bind_eq_some_iff.mp H; obtain ⟨t129, A20, H⟩ := H; have A2 := qK A20; clear A20; by_cases c3 : t129 = true
  · subst c3; rw [if_pos rfl] at H; obtain rfl := Option.some.inj H; go_enter Try.func120, Try.ntmps120; go_wp2_with (first | ((with_reducible refine gcl (f := 48) rfl ?_); refine goesL_ (some 4) rfl rfl Try.func48 (by kernel_rfl) rfl #[.int .u8 a0] rfl qA ?_; (with_reducible refine (spec_l4Letter.calls a0 true _ A2.out).mono ?_); rintro e w' ⟨rfl, ⟨nd, rfl⟩⟩; refine ⟨_, rfl, ?_⟩)); go_ret; exact ⟨by first | rfl | (simp; done) | (simp [*]; done), by repeat (first | exact Drawn0.refl _ | apply Drawn0.step)⟩
  · replace c3 := Bool.eq_false_iff.mpr c3; subst c3; rw [if_neg qff] at H; by_cases c4 : a0 ≥ 48
    · rw [if_pos c4] at H; have c4b0 : decide (48 ≤ a0) = true := decide_eq_true c4; clear c4; by_cases c5 : a0 ≤ 57
      · rw [if_pos c5] at H; have c5b0 : decide (a0 ≤ 57) = true := decide_eq_true c5; clear c5; obtain rfl := Option.some.inj H; go_enter Try.func120, Try.ntmps120; go_wp2_with (first | ((with_reducible refine gcl (f := 48) rfl ?_); refine goesL_ (some 4) rfl rfl Try.func48 (by kernel_rfl) rfl #[.int .u8 a0] rfl qA ?_; (with_reducible refine (spec_l4Letter.calls a0 false _ A2.out).mono ?_); rintro e w' ⟨rfl, ⟨nd, rfl⟩⟩; refine ⟨_, rfl, ?_⟩)); go_ret; exact ⟨by first | rfl | (simp; done) | (simp [*]; done), by repeat (first | exact Drawn0.refl _ | apply Drawn0.step)⟩
      · rw [if_neg c5] at H; have c5b0 : decide (a0 ≤ 57) = false := decide_eq_false c5; clear c5; obtain rfl := Option.some.inj H; go_enter Try.func120, Try.ntmps120; go_wp2_with (first | ((with_reducible refine gcl (f := 48) rfl ?_); refine goesL_ (some 4) rfl rfl Try.func48 (by kernel_rfl) rfl #[.int .u8 a0] rfl qA ?_; (with_reducible refine (spec_l4Letter.calls a0 false _ A2.out).mono ?_); rintro e w' ⟨rfl, ⟨nd, rfl⟩⟩; refine ⟨_, rfl, ?_⟩)); go_ret; exact ⟨by first | rfl | (simp; done) | (simp [*]; done), by repeat (first | exact Drawn0.refl _ | apply Drawn0.step)⟩
    · rw [if_neg c4] at H; have c4b0 : decide (48 ≤ a0) = false := decide_eq_false c4; clear c4; obtain rfl := Option.some.inj H; go_enter Try.func120, Try.ntmps120; go_wp2_with (first | ((with_reducible refine gcl (f := 48) rfl ?_); refine goesL_ (some 4) rfl rfl Try.func48 (by kernel_rfl) rfl #[.int .u8 a0] rfl qA ?_; (with_reducible refine (spec_l4Letter.calls a0 false _ A2.out).mono ?_); rintro e w' ⟨rfl, ⟨nd, rfl⟩⟩; refine ⟨_, rfl, ?_⟩)); go_ret; exact ⟨by first | rfl | (simp; done) | (simp [*]; done), by repeat (first | exact Drawn0.refl _ | apply Drawn0.step)⟩
end Go.Proofs.Ytoebfjfhdodakaa.L
end
section
namespace Go.Proofs.Ytoebfjfhdodakaa.L
open Go.RowKit Go.Proofs.YtoebfjfhdodakaaW.PrintWords Go.Proofs.YtoebfjfhdodakaaW.PrintLast Go.Proofs.YtoebfjfhdodakaaW.PrintMore
attribute [local go_sem] max2_int min2_int max_two min_two max_three min_three max_four min_four
set_option linter.unusedVariables false
set_option linter.unusedSimpArgs false
mutual
def spec_l4Name.j0 : Nat → ByteArray → Bool → Option (Bool)
  | 0, _, _ => none
  | k + 1, x0, x18 => if x18 = true then (some false) else (spec_l4Name.l0 k x0 0)
def spec_l4Name.l0 : Nat → ByteArray → Int → Option (Bool)
  | 0, _, _ => none
  | k + 1, x0, x3 => if x3 < (x0.size : Int) then (if 0 ≤ x3 then ((spec_l4Inner.f (bt x0 x3)).bind fun t136 => (if t136 = true then (spec_l4Name.l0 k x0 (wrap64 (x3 + 1))) else (some false))) else (none)) else (some true)
end
def spec_l4Name.f (k : Nat) (a0 : ByteArray) : Option (Bool) := (spec_l1Between.f (a0.size : Int) 1 30).bind fun t130 => (if t130 = true then (if 0 < (a0.size : Int) then ((spec_l4Letter.f (bt a0 0)).bind fun t131 => (if t131 = true then ((spec_l4Keywords.f).bind fun t132 => ((spec_l4Has.f k t132 a0).bind fun t135 => (spec_l4Name.j0 k a0 t135))) else (spec_l4Name.j0 k a0 true))) else (none)) else (spec_l4Name.j0 k a0 true))
theorem spec_l4Name.mono_l : ∀ k, (∀ y0 y1, LeO (spec_l4Name.j0 k y0 y1) (spec_l4Name.j0 (k + 1) y0 y1)) ∧ (∀ y0 y1, LeO (spec_l4Name.l0 k y0 y1) (spec_l4Name.l0 (k + 1) y0 y1))
  | 0 => ⟨fun _ _ r h => by simp [spec_l4Name.j0] at h, fun _ _ r h => by simp [spec_l4Name.l0] at h⟩
  | k + 1 => by
    obtain ⟨ih0, ih1⟩ := spec_l4Name.mono_l k
    refine ⟨?_, ?_⟩
    · intro y0 y1
      unfold spec_l4Name.j0
      repeat' first
      | (with_reducible exact ih0 _ _)
      | (with_reducible exact ih1 _ _)
      | (with_reducible exact spec_l4Has.mono _ _ _)
      | (with_reducible exact LeO.refl _)
      | (with_reducible exact LeO.none _)
      | (with_reducible refine LeO.ite ?_ ?_)
      | (with_reducible refine LeO.bind ?_ (fun _ => ?_))
      | exact ih0 _ _
      | exact ih1 _ _
      | exact spec_l4Has.mono _ _ _
      | exact LeO.none _
      | refine LeO.ite ?_ ?_
      | refine LeO.bind ?_ (fun _ => ?_)
    · intro y0 y1
      unfold spec_l4Name.l0
      repeat' first
      | (with_reducible exact ih0 _ _)
      | (with_reducible exact ih1 _ _)
      | (with_reducible exact spec_l4Has.mono _ _ _)
      | (with_reducible exact LeO.refl _)
      | (with_reducible exact LeO.none _)
      | (with_reducible refine LeO.ite ?_ ?_)
      | (with_reducible refine LeO.bind ?_ (fun _ => ?_))
      | exact ih0 _ _
      | exact ih1 _ _
      | exact spec_l4Has.mono _ _ _
      | exact LeO.none _
      | refine LeO.ite ?_ ?_
      | refine LeO.bind ?_ (fun _ => ?_)
theorem spec_l4Name.mono : ∀ a0 k, LeO (spec_l4Name.f k a0) (spec_l4Name.f (k + 1) a0) := by
  intro a0 k
  obtain ⟨ih0, ih1⟩ := spec_l4Name.mono_l k
  unfold spec_l4Name.f
  repeat' first
      | (with_reducible exact ih0 _ _)
      | (with_reducible exact ih1 _ _)
      | (with_reducible exact spec_l4Has.mono _ _ _)
      | (with_reducible exact LeO.refl _)
      | (with_reducible exact LeO.none _)
      | (with_reducible refine LeO.ite ?_ ?_)
      | (with_reducible refine LeO.bind ?_ (fun _ => ?_))
      | exact ih0 _ _
      | exact ih1 _ _
      | exact spec_l4Has.mono _ _ _
      | exact LeO.none _
      | refine LeO.ite ?_ ?_
      | refine LeO.bind ?_ (fun _ => ?_)
set_option maxHeartbeats 8000000 in
set_option maxRecDepth 100000 in
theorem spec_l4Name.calls (k : Nat) (a0 : ByteArray) (r : Bool) (w : World) (h : spec_l4Name.f k a0 = some r) :
    Calls Try.prog 91 #[.string a0] w fun e w' => e = .returned (.bool r) ∧ Below w.heap.size w w' := by
  have HB := qK (Below.refl w.heap.size w); have H : ((spec_l1Between.f (a0.size : Int) 1 30).bind fun t130 => (if t130 = true then (if 0 < (a0.size : Int) then ((spec_l4Letter.f (bt a0 0)).bind fun t131 => (if t131 = true then ((spec_l4Keywords.f).bind fun t132 => ((spec_l4Has.f k t132 a0).bind fun t135 => (spec_l4Name.j0 k a0 t135))) else (spec_l4Name.j0 k a0 true))) else (none)) else (spec_l4Name.j0 k a0 true))) = some r := h; clear h; have HC2 := qK H; clear H; go_enter Try.func91, Try.ntmps91; go_upto_region 1 with (fail); go_cut [18] (fun v18 wc => ∃ (kq : Nat) (x18_1 : Bool), v18 = .bool x18_1 ∧ Aside0 (spec_l4Name.j0 kq a0 x18_1 = some r) ∧ Aside0 (kq ≤ k) ∧ Aside0 (Below w.heap.size w wc))
  case first =>
    have H := HC2.out; clear HC2; replace H := Option.bind_eq_some_iff.mp H; obtain ⟨t130, A30, H⟩ := H; have A3 := qK A30; clear A30; by_cases c4 : t130 = true
    · subst c4; rw [if_pos rfl] at H; by_cases c5 : 0 < (a0.size : Int)
      · rw [if_pos c5] at H; have c5b0 : decide (0 < (a0.size : Int)) = true := decide_eq_true c5; have c5b1 : decide (0 < a0.size) = true := decide_eq_true (by omega); clear c5; (first | rw [c5b0] | (simp only [i64_w, i32_w]; rw [c5b0]) | skip); replace H := Option.bind_eq_some_iff.mp H; obtain ⟨t131, A70, H⟩ := H; have A7 := qK A70; clear A70; by_cases c8 : t131 = true
        · subst c8; rw [if_pos rfl] at H; replace H := Option.bind_eq_some_iff.mp H; obtain ⟨t132, A90, H⟩ := H; have A9 := qK A90; clear A90; replace H := Option.bind_eq_some_iff.mp H; obtain ⟨t135, A100, H⟩ := H; have A10 := qK A100; clear A100; have H' := qK H; clear H; go_wp2_with (first | ((with_reducible refine gcl (f := 26) rfl ?_); refine goesL_ (some 6) rfl rfl Try.func26 (by kernel_rfl) rfl #[.int .i64 (a0.size : Int), .int .i64 1, .int .i64 30] rfl qA ?_; (with_reducible refine (spec_l1Between.calls (a0.size : Int) 1 30 true _ A3.out).mono ?_); rintro e w' ⟨rfl, ⟨nd, rfl⟩⟩; refine ⟨_, rfl, ?_⟩; have p6 : 0 ≤ (0 : Int) := (by omega); have q6 : 0 < a0.size := (by have : (0 : Int) < (a0.size : Int) := of_decide_eq_true qa; omega); have hx6 : ∀ h : 0 < a0.size, ((a0[0]'h).toNat : Int) = bt a0 0 := bt_at a0 0; clear p6; have qi6 : (0 < (a0.size : Int)) = True := eq_true (of_decide_eq_true qa); replace q6 := eq_true q6) | (go_at_call 48; (with_reducible refine (spec_l4Letter.calls (bt a0 0) true _ A7.out).mono ?_); rintro e w' ⟨rfl, ⟨nd, rfl⟩⟩) | (go_at_call 119; (with_reducible refine (spec_l4Keywords.calls  t132 _ A9.out).mono ?_); rintro e w11 ⟨v133, rfl, ho0, hb⟩; have HO134 := qK (Kd.Rlo ho0 (bsz qB)); replace HB := qHB HB hb; (try clear hb); (try clear hb2); (try clear hk); (try clear hi); (try clear ho0); obtain ⟨Ao12, co12, eo12⟩ := Kd.R_slice HO134.out; subst eo12) | (go_at_call 118; (with_reducible refine (spec_l4Has.calls k _ _ t132 a0 t135 _ ?side1 ?side2 A10.out).mono ?_); (case side1 => repeat (first | exact (Kd.R_reads' HO134.out).2.2 | (with_reducible refine Kd.Cal ?_ _) | (with_reducible refine Kd.CdN ?_ _) | (with_reducible refine Kd.Cdr ?_))); (case side2 => exact (Kd.R_reads' HO134.out).2.1); rintro e w' ⟨rfl, ⟨nd, rfl⟩⟩)); go_meet
          case rel => exact ⟨_, (t135), qS, H', ⟨by first | omega | exact Nat.le_refl _⟩, ⟨qB⟩⟩
        · replace c8 := Bool.eq_false_iff.mpr c8; subst c8; rw [if_neg qff] at H; have H' := qK H; clear H; go_wp2_with (first | ((with_reducible refine gcl (f := 26) rfl ?_); refine goesL_ (some 6) rfl rfl Try.func26 (by kernel_rfl) rfl #[.int .i64 (a0.size : Int), .int .i64 1, .int .i64 30] rfl qA ?_; (with_reducible refine (spec_l1Between.calls (a0.size : Int) 1 30 true _ A3.out).mono ?_); rintro e w' ⟨rfl, ⟨nd, rfl⟩⟩; refine ⟨_, rfl, ?_⟩; have p6 : 0 ≤ (0 : Int) := (by omega); have q6 : 0 < a0.size := (by have : (0 : Int) < (a0.size : Int) := of_decide_eq_true qa; omega); have hx6 : ∀ h : 0 < a0.size, ((a0[0]'h).toNat : Int) = bt a0 0 := bt_at a0 0; clear p6; have qi6 : (0 < (a0.size : Int)) = True := eq_true (of_decide_eq_true qa); replace q6 := eq_true q6) | (go_at_call 48; (with_reducible refine (spec_l4Letter.calls (bt a0 0) false _ A7.out).mono ?_); rintro e w' ⟨rfl, ⟨nd, rfl⟩⟩)); go_meet
          case rel => exact ⟨_, (true), qS, H', ⟨by first | omega | exact Nat.le_refl _⟩, ⟨qB⟩⟩
      · rw [if_neg c5] at H; exact absurd H (by simp)
    · replace c4 := Bool.eq_false_iff.mpr c4; subst c4; rw [if_neg qff] at H; have H' := qK H; clear H; go_wp2_with (first | ((with_reducible refine gcl (f := 26) rfl ?_); refine goesL_ (some 6) rfl rfl Try.func26 (by kernel_rfl) rfl #[.int .i64 (a0.size : Int), .int .i64 1, .int .i64 30] rfl qA ?_; (with_reducible refine (spec_l1Between.calls (a0.size : Int) 1 30 false _ A3.out).mono ?_); rintro e w' ⟨rfl, ⟨nd, rfl⟩⟩; refine ⟨_, rfl, ?_⟩)); go_meet
      case rel => exact ⟨_, (true), qS, H', ⟨by first | omega | exact Nat.le_refl _⟩, ⟨qB⟩⟩
  case rest =>
    clear HC2; (try clear c2); (try clear p2); (try clear c4); (try clear c5); (try clear c5b0); (try clear c5b1); (try clear p6); (try clear q6); (try clear hx6); (try clear qi6); (try clear c8); (try clear c9); obtain ⟨kq, x18_1, rfl, HA, HJ1, HB⟩ := hcut
    cases kq with
    | zero => exact absurd HA.out (by simp [spec_l4Name.j0])
    | succ kj1 =>
      have H := HA.out; clear HA; simp only [spec_l4Name.j0] at H; by_cases c13 : x18_1 = true
      · subst c13; rw [if_pos rfl] at H; obtain rfl := Option.some.inj H; go_wp2; go_ret; exact ⟨qR, qB⟩
      · replace c13 := Bool.eq_false_iff.mpr c13; subst c13; rw [if_neg qff] at H; have H' := qK H; clear H; go_wp2; go_loopg [3] kj1 (fun kq v3 w' => ∃ (x3_2 : Int), v3 = .int .i64 x3_2 ∧ Aside0 (spec_l4Name.l0 kq a0 x3_2 = some r) ∧ Aside0 (kq ≤ kj1) ∧ Aside0 (Below w.heap.size w w'))
        case atStart => exact ⟨(0), qS, H', ⟨Nat.le_refl _⟩, ⟨qB⟩⟩
        case round =>
          clear H'; (try clear c1); (try clear c2); (try clear p2); (try clear c4); (try clear c5); (try clear c5b0); (try clear c5b1); (try clear p6); (try clear q6); (try clear hx6); (try clear qi6); (try clear c8); (try clear c9); (try clear c13); obtain ⟨x3_2, rfl, HA, HK2, HB⟩ := hrel
          cases gk with
          | zero => exact absurd HA.out (by simp [spec_l4Name.l0])
          | succ k2 =>
            have H := HA.out; clear HA; simp only [spec_l4Name.l0] at H; by_cases c14 : x3_2 < (a0.size : Int)
            · rw [if_pos c14] at H; have c14b0 : decide (x3_2 < (a0.size : Int)) = true := decide_eq_true c14; clear c14; by_cases c15 : 0 ≤ x3_2
              · rw [if_pos c15] at H; have c15b0 : decide (0 ≤ x3_2) = true := decide_eq_true c15; clear c15; replace H := Option.bind_eq_some_iff.mp H; obtain ⟨t136, A170, H⟩ := H; have A17 := qK A170; clear A170; by_cases c18 : t136 = true
                · subst c18; rw [if_pos rfl] at H; have H' := qK H; clear H; have p16 : 0 ≤ (x3_2 : Int) := of_decide_eq_true qa; have q16 : x3_2 < (a0.size : Int) := of_decide_eq_true qa; have hx16 := bt_at a0 x3_2; replace p16 := eq_true p16; replace q16 := eq_true q16; go_wp2_with (first | ((with_reducible refine gcl (f := 120) rfl ?_); refine goesL_ (some 28) rfl rfl Try.func120 (by kernel_rfl) rfl #[.int .u8 (bt a0 x3_2)] rfl qA ?_; (with_reducible refine (spec_l4Inner.calls (bt a0 x3_2) true _ A17.out).mono ?_); rintro e w' ⟨rfl, ⟨nd, rfl⟩⟩; refine ⟨_, rfl, ?_⟩)); go_roundg k2
                  case measure => have := HJ1.out; have := HK2.out; omega
                  case rel => exact ⟨(wrap64 (x3_2 + 1)), qS, H', ⟨by have := HJ1.out; have := HK2.out; omega⟩, ⟨qB⟩⟩
                · replace c18 := Bool.eq_false_iff.mpr c18; subst c18; rw [if_neg qff] at H; obtain rfl := Option.some.inj H; have p16 : 0 ≤ (x3_2 : Int) := of_decide_eq_true qa; have q16 : x3_2 < (a0.size : Int) := of_decide_eq_true qa; have hx16 := bt_at a0 x3_2; replace p16 := eq_true p16; replace q16 := eq_true q16; go_wp2_with (first | ((with_reducible refine gcl (f := 120) rfl ?_); refine goesL_ (some 28) rfl rfl Try.func120 (by kernel_rfl) rfl #[.int .u8 (bt a0 x3_2)] rfl qA ?_; (with_reducible refine (spec_l4Inner.calls (bt a0 x3_2) false _ A17.out).mono ?_); rintro e w' ⟨rfl, ⟨nd, rfl⟩⟩; refine ⟨_, rfl, ?_⟩)); go_ret; exact ⟨qR, qB⟩
              · rw [if_neg c15] at H; exact absurd H (by simp)
            · rw [if_neg c14] at H; have c14b0 : decide (x3_2 < (a0.size : Int)) = false := decide_eq_false c14; clear c14; obtain rfl := Option.some.inj H; go_wp2; go_ret; exact ⟨qR, qB⟩
def spec_l4Type.f (a0 : Int) : Option (Bool) := if a0 = 1 then (some true) else (some (a0 == 2))
set_option maxHeartbeats 8000000 in
set_option maxRecDepth 100000 in
theorem spec_l4Type.calls (a0 : Int) (r : Bool) (w : World) (h : spec_l4Type.f a0 = some r) :
    Calls Try.prog 92 #[.int .i64 a0] w fun e w' => e = .returned (.bool r) ∧ Drawn0 w w' := by
  have H : (if a0 = 1 then (some true) else (some (a0 == 2))) = some r := h; clear h; by_cases c2 : a0 = 1
  · rw [if_pos c2] at H; have c2b0 : (a0 == 1) = true := beq_iff_eq.mpr c2; have c2b1 : (a0 != 1) = false := bne_eq_false_iff_eq.mpr c2; clear c2; obtain rfl := Option.some.inj H; go_enter Try.func92, Try.ntmps92; go_wp2; go_ret; exact ⟨by first | rfl | (simp; done) | (simp [*]; done), by repeat (first | exact Drawn0.refl _ | apply Drawn0.step)⟩
  · rw [if_neg c2] at H; have c2b0 : (a0 == 1) = false := beq_eq_false_iff_ne.mpr c2; have c2b1 : (a0 != 1) = true := bne_iff_ne.mpr c2; obtain rfl := Option.some.inj H; go_enter Try.func92, Try.ntmps92; go_wp2; go_ret; exact ⟨by first | rfl | (simp; done) | (simp [*]; done), by repeat (first | exact Drawn0.refl _ | apply Drawn0.step)⟩
def spec_l4Number.f (a0 : Int) : Option (Bool) := some (a0 != (-9223372036854775808))
set_option maxHeartbeats 8000000 in
set_option maxRecDepth 100000 in
theorem spec_l4Number.calls (a0 : Int) (r : Bool) (w : World) (h : spec_l4Number.f a0 = some r) :
    Calls Try.prog 121 #[.int .i64 a0] w fun e w' => e = .returned (.bool r) ∧ Drawn0 w w' := by
  have H : (some (a0 != (-9223372036854775808))) = some r := h; clear h; obtain rfl := Option.some.inj H; go_enter Try.func121, Try.ntmps121; go_wp2; go_ret; exact ⟨by first | rfl | (simp; done) | (simp [*]; done), by repeat (first | exact Drawn0.refl _ | apply Drawn0.step)⟩
def spec_l4Text.l0 : Nat → ByteArray → Int → Option (Bool)
  | 0, _, _ => none
  | k + 1, x0, x3 => if x3 < (x0.size : Int) then (if 0 ≤ x3 then ((spec_l1Between.f (wrap64 (bt x0 x3)) 32 126).bind fun t137 => (if t137 = true then (spec_l4Text.l0 k x0 (wrap64 (x3 + 1))) else (some false))) else (none)) else (some true)
def spec_l4Text.f (k : Nat) (a0 : ByteArray) : Option (Bool) := if (a0.size : Int) > 200 then (some false) else (spec_l4Text.l0 k a0 0)
theorem spec_l4Text.mono_l : ∀ k, (∀ y0 y1, LeO (spec_l4Text.l0 k y0 y1) (spec_l4Text.l0 (k + 1) y0 y1))
  | 0 => fun _ _ r h => by simp [spec_l4Text.l0] at h
  | k + 1 => by
    have ih0 := spec_l4Text.mono_l k
    · intro y0 y1
      unfold spec_l4Text.l0
      repeat' first
      | (with_reducible exact ih0 _ _)
      | (with_reducible exact LeO.refl _)
      | (with_reducible exact LeO.none _)
      | (with_reducible refine LeO.ite ?_ ?_)
      | (with_reducible refine LeO.bind ?_ (fun _ => ?_))
      | exact ih0 _ _
      | exact LeO.none _
      | refine LeO.ite ?_ ?_
      | refine LeO.bind ?_ (fun _ => ?_)
theorem spec_l4Text.mono : ∀ a0 k, LeO (spec_l4Text.f k a0) (spec_l4Text.f (k + 1) a0) := by
  intro a0 k
  have ih0 := spec_l4Text.mono_l k
  unfold spec_l4Text.f
  repeat' first
      | (with_reducible exact ih0 _ _)
      | (with_reducible exact LeO.refl _)
      | (with_reducible exact LeO.none _)
      | (with_reducible refine LeO.ite ?_ ?_)
      | (with_reducible refine LeO.bind ?_ (fun _ => ?_))
      | exact ih0 _ _
      | exact LeO.none _
      | refine LeO.ite ?_ ?_
      | refine LeO.bind ?_ (fun _ => ?_)
set_option maxHeartbeats 8000000 in
set_option maxRecDepth 100000 in
theorem spec_l4Text.calls (k : Nat) (a0 : ByteArray) (r : Bool) (w : World) (h : spec_l4Text.f k a0 = some r) :
    Calls Try.prog 122 #[.string a0] w fun e w' => e = .returned (.bool r) ∧ Drawn0 w w' := by
  have H : (if (a0.size : Int) > 200 then (some false) else (spec_l4Text.l0 k a0 0)) = some r := h; clear h; by_cases c2 : (a0.size : Int) > 200
  · rw [if_pos c2] at H; have c2b0 : decide (200 < (a0.size : Int)) = true := decide_eq_true c2; have c2b1 : decide (200 < a0.size) = true := decide_eq_true (by omega); clear c2; obtain rfl := Option.some.inj H; go_enter Try.func122, Try.ntmps122; go_wp2; go_ret; exact ⟨by first | rfl | (simp; done) | (simp [*]; done), by repeat (first | exact Drawn0.refl _ | apply Drawn0.step)⟩
  · rw [if_neg c2] at H; have c2b0 : decide (200 < (a0.size : Int)) = false := decide_eq_false c2; have c2b1 : decide (200 < a0.size) = false := decide_eq_false (by omega); clear c2; have H' := qK H; clear H; go_enter Try.func122, Try.ntmps122; go_wp2; go_loopg [3] k (fun kq v3 w' => ∃ (x3_1 : Int), v3 = .int .i64 x3_1 ∧ Aside0 (spec_l4Text.l0 kq a0 x3_1 = some r) ∧ Aside0 (kq ≤ k) ∧ Drawn0 w w')
    case atStart => exact ⟨(0), qS, H', ⟨Nat.le_refl _⟩, by repeat (first | exact Drawn0.refl _ | apply Drawn0.step)⟩
    case round =>
      clear H'; (try clear c1); (try clear c2); (try clear c2b0); (try clear c2b1); (try clear p2); obtain ⟨x3_1, rfl, HA, HK1, ⟨m1, rfl⟩⟩ := hrel
      cases gk with
      | zero => exact absurd HA.out (by simp [spec_l4Text.l0])
      | succ k1 =>
        have H := HA.out; clear HA; simp only [spec_l4Text.l0] at H; by_cases c3 : x3_1 < (a0.size : Int)
        · rw [if_pos c3] at H; have c3b0 : decide (x3_1 < (a0.size : Int)) = true := decide_eq_true c3; clear c3; by_cases c4 : 0 ≤ x3_1
          · rw [if_pos c4] at H; have c4b0 : decide (0 ≤ x3_1) = true := decide_eq_true c4; clear c4; replace H := Option.bind_eq_some_iff.mp H; obtain ⟨t137, A60, H⟩ := H; have A6 := qK A60; clear A60; by_cases c7 : t137 = true
            · subst c7; rw [if_pos rfl] at H; have H' := qK H; clear H; have p5 : 0 ≤ (x3_1 : Int) := of_decide_eq_true qa; have q5 : x3_1 < (a0.size : Int) := of_decide_eq_true qa; have hx5 := bt_at a0 x3_1; replace p5 := eq_true p5; replace q5 := eq_true q5; go_wp2_with (first | ((with_reducible refine gcl (f := 26) rfl ?_); refine goesL_ (some 17) rfl rfl Try.func26 (by kernel_rfl) rfl #[.int .i64 (wrap64 (bt a0 x3_1)), .int .i64 32, .int .i64 126] rfl qA ?_; (with_reducible refine (spec_l1Between.calls (wrap64 (bt a0 x3_1)) 32 126 true _ A6.out).mono ?_); rintro e w' ⟨rfl, ⟨nd, rfl⟩⟩; refine ⟨_, rfl, ?_⟩)); go_roundg k1
              case measure => have := HK1.out; omega
              case rel => exact ⟨(wrap64 (x3_1 + 1)), qS, H', ⟨by have := HK1.out; omega⟩, by repeat (first | exact Drawn0.refl _ | apply Drawn0.step)⟩
            · replace c7 := Bool.eq_false_iff.mpr c7; subst c7; rw [if_neg qff] at H; obtain rfl := Option.some.inj H; have p5 : 0 ≤ (x3_1 : Int) := of_decide_eq_true qa; have q5 : x3_1 < (a0.size : Int) := of_decide_eq_true qa; have hx5 := bt_at a0 x3_1; replace p5 := eq_true p5; replace q5 := eq_true q5; go_wp2_with (first | ((with_reducible refine gcl (f := 26) rfl ?_); refine goesL_ (some 17) rfl rfl Try.func26 (by kernel_rfl) rfl #[.int .i64 (wrap64 (bt a0 x3_1)), .int .i64 32, .int .i64 126] rfl qA ?_; (with_reducible refine (spec_l1Between.calls (wrap64 (bt a0 x3_1)) 32 126 false _ A6.out).mono ?_); rintro e w' ⟨rfl, ⟨nd, rfl⟩⟩; refine ⟨_, rfl, ?_⟩)); go_ret; exact ⟨by first | rfl | (simp; done) | (simp [*]; done), by repeat (first | exact Drawn0.refl _ | apply Drawn0.step)⟩
          · rw [if_neg c4] at H; exact absurd H (by simp)
        · rw [if_neg c3] at H; have c3b0 : decide (x3_1 < (a0.size : Int)) = false := decide_eq_false c3; clear c3; obtain rfl := Option.some.inj H; go_wp2; go_ret; exact ⟨by first | rfl | (simp; done) | (simp [*]; done), by repeat (first | exact Drawn0.refl _ | apply Drawn0.step)⟩
def spec_l4Value.f (k : Nat) (a0_0 : Int) (a0_1 : Int) (a0_2 : ByteArray) : Option (Bool) := if a0_0 = 1 then ((spec_l4Number.f a0_1).bind fun t139 => (if t139 = true then (some (a0_2.toList == ([] : List UInt8))) else (some false))) else (if a0_0 = 2 then (if a0_1 = 0 then ((spec_l4Text.f k a0_2).bind fun t140 => (some t140)) else (some false)) else (some false))
theorem spec_l4Value.mono : ∀ a0 a1 a2 k, LeO (spec_l4Value.f k a0 a1 a2) (spec_l4Value.f (k + 1) a0 a1 a2) := by
  intro a0 a1 a2 k
  unfold spec_l4Value.f
  repeat' first
      | (with_reducible exact spec_l4Text.mono _ _)
      | (with_reducible exact LeO.refl _)
      | (with_reducible exact LeO.none _)
      | (with_reducible refine LeO.ite ?_ ?_)
      | (with_reducible refine LeO.bind ?_ (fun _ => ?_))
      | exact spec_l4Text.mono _ _
      | exact LeO.none _
      | refine LeO.ite ?_ ?_
      | refine LeO.bind ?_ (fun _ => ?_)
set_option maxHeartbeats 8000000 in
set_option maxRecDepth 100000 in
theorem spec_l4Value.calls (k : Nat) (a0_0 : Int) (a0_1 : Int) (a0_2 : ByteArray) (r : Bool) (w : World) (h : spec_l4Value.f k a0_0 a0_1 a0_2 = some r) :
    Calls Try.prog 93 #[.agg #[.int .i64 a0_0, .int .i64 a0_1, .string a0_2]] w fun e w' => e = .returned (.bool r) ∧ Below w.heap.size w w' := by
  have hu116 := Try.underlying116; have HB := qK (Below.refl w.heap.size w); have H : (if a0_0 = 1 then ((spec_l4Number.f a0_1).bind fun t139 => (if t139 = true then (some (a0_2.toList == ([] : List UInt8))) else (some false))) else (if a0_0 = 2 then (if a0_1 = 0 then ((spec_l4Text.f k a0_2).bind fun t140 => (some t140)) else (some false)) else (some false))) = some r := h; clear h; by_cases c2 : a0_0 = 1
  · rw [if_pos c2] at H; have c2b0 : (a0_0 == 1) = true := beq_iff_eq.mpr c2; have c2b1 : (a0_0 != 1) = false := bne_eq_false_iff_eq.mpr c2; clear c2; replace H := Option.bind_eq_some_iff.mp H; obtain ⟨t139, A30, H⟩ := H; have A3 := qK A30; clear A30; by_cases c4 : t139 = true
    · subst c4; rw [if_pos rfl] at H; obtain rfl := Option.some.inj H; go_enter Try.func93, Try.ntmps93; go_wp2_with (first | ((with_reducible refine gds (N := 1) rfl ?_); refine qbx 1 #[.int .i64 a0_0, .int .i64 a0_1, .string a0_2] 116 ?_; intro gb138 hg w5 hbox hb; have BK138 := qK (hbox); have GW138 := qK ((qW : w.heap.size ≤ gb138)); have GE138 := GW138; replace HB := qHB HB hb; clear hb hbox hg; have hz6 := qz3 BK138.out) | ((with_reducible refine gcl (f := 121) rfl ?_); refine goesL_ (some 8) rfl rfl Try.func121 (by kernel_rfl) rfl #[.int .i64 a0_1] rfl qA ?_; (with_reducible refine (spec_l4Number.calls a0_1 true _ A3.out).mono ?_); rintro e w' ⟨rfl, ⟨nd, rfl⟩⟩; refine ⟨_, rfl, ?_⟩)); go_ret; exact ⟨qR, qB⟩
    · replace c4 := Bool.eq_false_iff.mpr c4; subst c4; rw [if_neg qff] at H; obtain rfl := Option.some.inj H; go_enter Try.func93, Try.ntmps93; go_wp2_with (first | ((with_reducible refine gds (N := 1) rfl ?_); refine qbx 1 #[.int .i64 a0_0, .int .i64 a0_1, .string a0_2] 116 ?_; intro gb138 hg w7 hbox hb; have BK138 := qK (hbox); have GW138 := qK ((qW : w.heap.size ≤ gb138)); have GE138 := GW138; replace HB := qHB HB hb; clear hb hbox hg; have hz8 := qz3 BK138.out) | ((with_reducible refine gcl (f := 121) rfl ?_); refine goesL_ (some 8) rfl rfl Try.func121 (by kernel_rfl) rfl #[.int .i64 a0_1] rfl qA ?_; (with_reducible refine (spec_l4Number.calls a0_1 false _ A3.out).mono ?_); rintro e w' ⟨rfl, ⟨nd, rfl⟩⟩; refine ⟨_, rfl, ?_⟩)); go_ret; exact ⟨qR, qB⟩
  · rw [if_neg c2] at H; have c2b0 : (a0_0 == 1) = false := beq_eq_false_iff_ne.mpr c2; have c2b1 : (a0_0 != 1) = true := bne_iff_ne.mpr c2; by_cases c9 : a0_0 = 2
    · rw [if_pos c9] at H; have c9b0 : (a0_0 == 2) = true := beq_iff_eq.mpr c9; have c9b1 : (a0_0 != 2) = false := bne_eq_false_iff_eq.mpr c9; clear c9; by_cases c10 : a0_1 = 0
      · rw [if_pos c10] at H; have c10b0 : (a0_1 == 0) = true := beq_iff_eq.mpr c10; have c10b1 : (a0_1 != 0) = false := bne_eq_false_iff_eq.mpr c10; clear c10; replace H := Option.bind_eq_some_iff.mp H; obtain ⟨t140, A110, H⟩ := H; have A11 := qK A110; clear A110; obtain rfl := Option.some.inj H; go_enter Try.func93, Try.ntmps93; go_wp2_with (first | ((with_reducible refine gds (N := 1) rfl ?_); refine qbx 1 #[.int .i64 a0_0, .int .i64 a0_1, .string a0_2] 116 ?_; intro gb138 hg w12 hbox hb; have BK138 := qK (hbox); have GW138 := qK ((qW : w.heap.size ≤ gb138)); have GE138 := GW138; replace HB := qHB HB hb; clear hb hbox hg; have hz13 := qz3 BK138.out) | (go_at_call 122; (with_reducible refine (spec_l4Text.calls k a0_2 t140 _ A11.out).mono ?_); rintro e w' ⟨rfl, ⟨nd, rfl⟩⟩)); go_ret; exact ⟨qR, qB⟩
      · rw [if_neg c10] at H; have c10b0 : (a0_1 == 0) = false := beq_eq_false_iff_ne.mpr c10; have c10b1 : (a0_1 != 0) = true := bne_iff_ne.mpr c10; obtain rfl := Option.some.inj H; go_enter Try.func93, Try.ntmps93; go_wp2_with (first | ((with_reducible refine gds (N := 1) rfl ?_); refine qbx 1 #[.int .i64 a0_0, .int .i64 a0_1, .string a0_2] 116 ?_; intro gb138 hg w14 hbox hb; have BK138 := qK (hbox); have GW138 := qK ((qW : w.heap.size ≤ gb138)); have GE138 := GW138; replace HB := qHB HB hb; clear hb hbox hg; have hz15 := qz3 BK138.out)); go_ret; exact ⟨qR, qB⟩
    · rw [if_neg c9] at H; have c9b0 : (a0_0 == 2) = false := beq_eq_false_iff_ne.mpr c9; have c9b1 : (a0_0 != 2) = true := bne_iff_ne.mpr c9; obtain rfl := Option.some.inj H; go_enter Try.func93, Try.ntmps93; go_wp2_with (first | ((with_reducible refine gds (N := 1) rfl ?_); refine qbx 1 #[.int .i64 a0_0, .int .i64 a0_1, .string a0_2] 116 ?_; intro gb138 hg w16 hbox hb; have BK138 := qK (hbox); have GW138 := qK ((qW : w.heap.size ≤ gb138)); have GE138 := GW138; replace HB := qHB HB hb; clear hb hbox hg; have hz17 := qz3 BK138.out)); go_ret; exact ⟨qR, qB⟩
def spec_l4Arity.f (a0 : Int) : Option (Int) := if a0 ≤ 3 then (some 0) else (if a0 = 11 then (some 1) else (if a0 = 13 then (some 1) else (some 2)))
set_option maxHeartbeats 8000000 in
set_option maxRecDepth 100000 in
theorem spec_l4Arity.calls (a0 : Int) (r : Int) (w : World) (h : spec_l4Arity.f a0 = some r) :
    Calls Try.prog 98 #[.int .i64 a0] w fun e w' => e = .returned (.int .i64 r) ∧ Drawn0 w w' := by
  have H : (if a0 ≤ 3 then (some 0) else (if a0 = 11 then (some 1) else (if a0 = 13 then (some 1) else (some 2)))) = some r := h; clear h; by_cases c2 : a0 ≤ 3
  · rw [if_pos c2] at H; have c2b0 : decide (a0 ≤ 3) = true := decide_eq_true c2; clear c2; obtain rfl := Option.some.inj H; go_enter Try.func98, Try.ntmps98; go_wp2; go_ret; exact ⟨by first | rfl | (simp; done) | (simp [*]; done), by repeat (first | exact Drawn0.refl _ | apply Drawn0.step)⟩
  · rw [if_neg c2] at H; have c2b0 : decide (a0 ≤ 3) = false := decide_eq_false c2; clear c2; by_cases c3 : a0 = 11
    · rw [if_pos c3] at H; have c3b0 : (a0 == 11) = true := beq_iff_eq.mpr c3; have c3b1 : (a0 != 11) = false := bne_eq_false_iff_eq.mpr c3; clear c3; obtain rfl := Option.some.inj H; go_enter Try.func98, Try.ntmps98; go_wp2; go_ret; exact ⟨by first | rfl | (simp; done) | (simp [*]; done), by repeat (first | exact Drawn0.refl _ | apply Drawn0.step)⟩
    · rw [if_neg c3] at H; have c3b0 : (a0 == 11) = false := beq_eq_false_iff_ne.mpr c3; have c3b1 : (a0 != 11) = true := bne_iff_ne.mpr c3; by_cases c4 : a0 = 13
      · rw [if_pos c4] at H; have c4b0 : (a0 == 13) = true := beq_iff_eq.mpr c4; have c4b1 : (a0 != 13) = false := bne_eq_false_iff_eq.mpr c4; clear c4; obtain rfl := Option.some.inj H; go_enter Try.func98, Try.ntmps98; go_wp2; go_ret; exact ⟨by first | rfl | (simp; done) | (simp [*]; done), by repeat (first | exact Drawn0.refl _ | apply Drawn0.step)⟩
      · rw [if_neg c4] at H; have c4b0 : (a0 == 13) = false := beq_eq_false_iff_ne.mpr c4; have c4b1 : (a0 != 13) = true := bne_iff_ne.mpr c4; obtain rfl := Option.some.inj H; go_enter Try.func98, Try.ntmps98; go_wp2; go_ret; exact ⟨by first | rfl | (simp; done) | (simp [*]; done), by repeat (first | exact Drawn0.refl _ | apply Drawn0.step)⟩
def spec_l4Item.f (k : Nat) (a0_0 : Int) (a0_1 : Int) (a0_2 : ByteArray) : Option (Bool) := if a0_0 = 1 then ((spec_l4Number.f a0_1).bind fun t142 => (if t142 = true then (some (a0_2.toList == ([] : List UInt8))) else (some false))) else (if a0_0 = 2 then (if a0_1 = 0 then ((spec_l4Text.f k a0_2).bind fun t143 => (some t143)) else (some false)) else (if a0_0 = 3 then (if a0_1 = 0 then ((spec_l4Name.f k a0_2).bind fun t144 => (some t144)) else (some false)) else ((spec_l1Between.f a0_0 4 13).bind fun t145 => (if t145 = true then (if a0_1 = 0 then (some (a0_2.toList == ([] : List UInt8))) else (some false)) else (some false)))))
theorem spec_l4Item.mono : ∀ a0 a1 a2 k, LeO (spec_l4Item.f k a0 a1 a2) (spec_l4Item.f (k + 1) a0 a1 a2) := by
  intro a0 a1 a2 k
  unfold spec_l4Item.f
  repeat' first
      | (with_reducible exact spec_l4Name.mono _ _)
      | (with_reducible exact spec_l4Text.mono _ _)
      | (with_reducible exact LeO.refl _)
      | (with_reducible exact LeO.none _)
      | (with_reducible refine LeO.ite ?_ ?_)
      | (with_reducible refine LeO.bind ?_ (fun _ => ?_))
      | exact spec_l4Name.mono _ _
      | exact spec_l4Text.mono _ _
      | exact LeO.none _
      | refine LeO.ite ?_ ?_
      | refine LeO.bind ?_ (fun _ => ?_)
set_option maxHeartbeats 8000000 in
set_option maxRecDepth 100000 in
theorem spec_l4Item.calls (k : Nat) (a0_0 : Int) (a0_1 : Int) (a0_2 : ByteArray) (r : Bool) (w : World) (h : spec_l4Item.f k a0_0 a0_1 a0_2 = some r) :
    Calls Try.prog 123 #[.agg #[.int .i64 a0_0, .int .i64 a0_1, .string a0_2]] w fun e w' => e = .returned (.bool r) ∧ Below w.heap.size w w' := by
  have hu122 := Try.underlying122; have HB := qK (Below.refl w.heap.size w); have H : (if a0_0 = 1 then ((spec_l4Number.f a0_1).bind fun t142 => (if t142 = true then (some (a0_2.toList == ([] : List UInt8))) else (some false))) else (if a0_0 = 2 then (if a0_1 = 0 then ((spec_l4Text.f k a0_2).bind fun t143 => (some t143)) else (some false)) else (if a0_0 = 3 then (if a0_1 = 0 then ((spec_l4Name.f k a0_2).bind fun t144 => (some t144)) else (some false)) else ((spec_l1Between.f a0_0 4 13).bind fun t145 => (if t145 = true then (if a0_1 = 0 then (some (a0_2.toList == ([] : List UInt8))) else (some false)) else (some false)))))) = some r := h; clear h; by_cases c2 : a0_0 = 1
  · rw [if_pos c2] at H; have c2b0 : (a0_0 == 1) = true := beq_iff_eq.mpr c2; have c2b1 : (a0_0 != 1) = false := bne_eq_false_iff_eq.mpr c2; clear c2; replace H := Option.bind_eq_some_iff.mp H; obtain ⟨t142, A30, H⟩ := H; have A3 := qK A30; clear A30; by_cases c4 : t142 = true
    · subst c4; rw [if_pos rfl] at H; obtain rfl := Option.some.inj H; go_enter Try.func123, Try.ntmps123; go_wp2_with (first | ((with_reducible refine gds (N := 1) rfl ?_); refine qbx 1 #[.int .i64 a0_0, .int .i64 a0_1, .string a0_2] 122 ?_; intro gb141 hg w5 hbox hb; have BK141 := qK (hbox); have GW141 := qK ((qW : w.heap.size ≤ gb141)); have GE141 := GW141; replace HB := qHB HB hb; clear hb hbox hg; have hz6 := qz3 BK141.out) | ((with_reducible refine gcl (f := 121) rfl ?_); refine goesL_ (some 9) rfl rfl Try.func121 (by kernel_rfl) rfl #[.int .i64 a0_1] rfl qA ?_; (with_reducible refine (spec_l4Number.calls a0_1 true _ A3.out).mono ?_); rintro e w' ⟨rfl, ⟨nd, rfl⟩⟩; refine ⟨_, rfl, ?_⟩)); go_ret; exact ⟨qR, qB⟩
    · replace c4 := Bool.eq_false_iff.mpr c4; subst c4; rw [if_neg qff] at H; obtain rfl := Option.some.inj H; go_enter Try.func123, Try.ntmps123; go_wp2_with (first | ((with_reducible refine gds (N := 1) rfl ?_); refine qbx 1 #[.int .i64 a0_0, .int .i64 a0_1, .string a0_2] 122 ?_; intro gb141 hg w7 hbox hb; have BK141 := qK (hbox); have GW141 := qK ((qW : w.heap.size ≤ gb141)); have GE141 := GW141; replace HB := qHB HB hb; clear hb hbox hg; have hz8 := qz3 BK141.out) | ((with_reducible refine gcl (f := 121) rfl ?_); refine goesL_ (some 9) rfl rfl Try.func121 (by kernel_rfl) rfl #[.int .i64 a0_1] rfl qA ?_; (with_reducible refine (spec_l4Number.calls a0_1 false _ A3.out).mono ?_); rintro e w' ⟨rfl, ⟨nd, rfl⟩⟩; refine ⟨_, rfl, ?_⟩)); go_ret; exact ⟨qR, qB⟩
  · rw [if_neg c2] at H; have c2b0 : (a0_0 == 1) = false := beq_eq_false_iff_ne.mpr c2; have c2b1 : (a0_0 != 1) = true := bne_iff_ne.mpr c2; by_cases c9 : a0_0 = 2
    · rw [if_pos c9] at H; have c9b0 : (a0_0 == 2) = true := beq_iff_eq.mpr c9; have c9b1 : (a0_0 != 2) = false := bne_eq_false_iff_eq.mpr c9; clear c9; by_cases c10 : a0_1 = 0
      · rw [if_pos c10] at H; have c10b0 : (a0_1 == 0) = true := beq_iff_eq.mpr c10; have c10b1 : (a0_1 != 0) = false := bne_eq_false_iff_eq.mpr c10; clear c10; replace H := Option.bind_eq_some_iff.mp H; obtain ⟨t143, A110, H⟩ := H; have A11 := qK A110; clear A110; obtain rfl := Option.some.inj H; go_enter Try.func123, Try.ntmps123; go_wp2_with (first | ((with_reducible refine gds (N := 1) rfl ?_); refine qbx 1 #[.int .i64 a0_0, .int .i64 a0_1, .string a0_2] 122 ?_; intro gb141 hg w12 hbox hb; have BK141 := qK (hbox); have GW141 := qK ((qW : w.heap.size ≤ gb141)); have GE141 := GW141; replace HB := qHB HB hb; clear hb hbox hg; have hz13 := qz3 BK141.out) | (go_at_call 122; (with_reducible refine (spec_l4Text.calls k a0_2 t143 _ A11.out).mono ?_); rintro e w' ⟨rfl, ⟨nd, rfl⟩⟩)); go_ret; exact ⟨qR, qB⟩
      · rw [if_neg c10] at H; have c10b0 : (a0_1 == 0) = false := beq_eq_false_iff_ne.mpr c10; have c10b1 : (a0_1 != 0) = true := bne_iff_ne.mpr c10; obtain rfl := Option.some.inj H; go_enter Try.func123, Try.ntmps123; go_wp2_with (first | ((with_reducible refine gds (N := 1) rfl ?_); refine qbx 1 #[.int .i64 a0_0, .int .i64 a0_1, .string a0_2] 122 ?_; intro gb141 hg w14 hbox hb; have BK141 := qK (hbox); have GW141 := qK ((qW : w.heap.size ≤ gb141)); have GE141 := GW141; replace HB := qHB HB hb; clear hb hbox hg; have hz15 := qz3 BK141.out)); go_ret; exact ⟨qR, qB⟩
    · rw [if_neg c9] at H; have c9b0 : (a0_0 == 2) = false := beq_eq_false_iff_ne.mpr c9; have c9b1 : (a0_0 != 2) = true := bne_iff_ne.mpr c9; by_cases c16 : a0_0 = 3
      · rw [if_pos c16] at H; have c16b0 : (a0_0 == 3) = true := beq_iff_eq.mpr c16; have c16b1 : (a0_0 != 3) = false := bne_eq_false_iff_eq.mpr c16; clear c16; by_cases c17 : a0_1 = 0
        · rw [if_pos c17] at H; have c17b0 : (a0_1 == 0) = true := beq_iff_eq.mpr c17; have c17b1 : (a0_1 != 0) = false := bne_eq_false_iff_eq.mpr c17; clear c17; replace H := Option.bind_eq_some_iff.mp H; obtain ⟨t144, A180, H⟩ := H; have A18 := qK A180; clear A180; obtain rfl := Option.some.inj H; go_enter Try.func123, Try.ntmps123; go_wp2_with (first | ((with_reducible refine gds (N := 1) rfl ?_); refine qbx 1 #[.int .i64 a0_0, .int .i64 a0_1, .string a0_2] 122 ?_; intro gb141 hg w19 hbox hb; have BK141 := qK (hbox); have GW141 := qK ((qW : w.heap.size ≤ gb141)); have GE141 := GW141; replace HB := qHB HB hb; clear hb hbox hg; have hz20 := qz3 BK141.out) | (go_at_call 91; (with_reducible refine (spec_l4Name.calls k a0_2 t144 _ A18.out).mono ?_); rintro e w21 ⟨rfl, hb⟩; replace BK141 := qbb BK141 hb; replace HB := qHB HB hb; (try clear hb); (try clear hb2); (try clear hk); (try clear hi))); go_ret; exact ⟨qR, qB⟩
        · rw [if_neg c17] at H; have c17b0 : (a0_1 == 0) = false := beq_eq_false_iff_ne.mpr c17; have c17b1 : (a0_1 != 0) = true := bne_iff_ne.mpr c17; obtain rfl := Option.some.inj H; go_enter Try.func123, Try.ntmps123; go_wp2_with (first | ((with_reducible refine gds (N := 1) rfl ?_); refine qbx 1 #[.int .i64 a0_0, .int .i64 a0_1, .string a0_2] 122 ?_; intro gb141 hg w22 hbox hb; have BK141 := qK (hbox); have GW141 := qK ((qW : w.heap.size ≤ gb141)); have GE141 := GW141; replace HB := qHB HB hb; clear hb hbox hg; have hz23 := qz3 BK141.out)); go_ret; exact ⟨qR, qB⟩
      · rw [if_neg c16] at H; have c16b0 : (a0_0 == 3) = false := beq_eq_false_iff_ne.mpr c16; have c16b1 : (a0_0 != 3) = true := bne_iff_ne.mpr c16; replace H := Option.bind_eq_some_iff.mp H; obtain ⟨t145, A240, H⟩ := H; have A24 := qK A240; clear A240; by_cases c25 : t145 = true
        · subst c25; rw [if_pos rfl] at H; by_cases c26 : a0_1 = 0
          · rw [if_pos c26] at H; have c26b0 : (a0_1 == 0) = true := beq_iff_eq.mpr c26; have c26b1 : (a0_1 != 0) = false := bne_eq_false_iff_eq.mpr c26; clear c26; obtain rfl := Option.some.inj H; go_enter Try.func123, Try.ntmps123; go_wp2_with (first | ((with_reducible refine gds (N := 1) rfl ?_); refine qbx 1 #[.int .i64 a0_0, .int .i64 a0_1, .string a0_2] 122 ?_; intro gb141 hg w27 hbox hb; have BK141 := qK (hbox); have GW141 := qK ((qW : w.heap.size ≤ gb141)); have GE141 := GW141; replace HB := qHB HB hb; clear hb hbox hg; have hz28 := qz3 BK141.out) | ((with_reducible refine gcl (f := 26) rfl ?_); refine goesL_ (some 37) rfl rfl Try.func26 (by kernel_rfl) rfl #[.int .i64 a0_0, .int .i64 4, .int .i64 13] rfl qA ?_; (with_reducible refine (spec_l1Between.calls a0_0 4 13 true _ A24.out).mono ?_); rintro e w' ⟨rfl, ⟨nd, rfl⟩⟩; refine ⟨_, rfl, ?_⟩)); go_ret; exact ⟨qR, qB⟩
          · rw [if_neg c26] at H; have c26b0 : (a0_1 == 0) = false := beq_eq_false_iff_ne.mpr c26; have c26b1 : (a0_1 != 0) = true := bne_iff_ne.mpr c26; obtain rfl := Option.some.inj H; go_enter Try.func123, Try.ntmps123; go_wp2_with (first | ((with_reducible refine gds (N := 1) rfl ?_); refine qbx 1 #[.int .i64 a0_0, .int .i64 a0_1, .string a0_2] 122 ?_; intro gb141 hg w29 hbox hb; have BK141 := qK (hbox); have GW141 := qK ((qW : w.heap.size ≤ gb141)); have GE141 := GW141; replace HB := qHB HB hb; clear hb hbox hg; have hz30 := qz3 BK141.out) | ((with_reducible refine gcl (f := 26) rfl ?_); refine goesL_ (some 37) rfl rfl Try.func26 (by kernel_rfl) rfl #[.int .i64 a0_0, .int .i64 4, .int .i64 13] rfl qA ?_; (with_reducible refine (spec_l1Between.calls a0_0 4 13 true _ A24.out).mono ?_); rintro e w' ⟨rfl, ⟨nd, rfl⟩⟩; refine ⟨_, rfl, ?_⟩)); go_ret; exact ⟨qR, qB⟩
        · replace c25 := Bool.eq_false_iff.mpr c25; subst c25; rw [if_neg qff] at H; obtain rfl := Option.some.inj H; go_enter Try.func123, Try.ntmps123; go_wp2_with (first | ((with_reducible refine gds (N := 1) rfl ?_); refine qbx 1 #[.int .i64 a0_0, .int .i64 a0_1, .string a0_2] 122 ?_; intro gb141 hg w31 hbox hb; have BK141 := qK (hbox); have GW141 := qK ((qW : w.heap.size ≤ gb141)); have GE141 := GW141; replace HB := qHB HB hb; clear hb hbox hg; have hz32 := qz3 BK141.out) | ((with_reducible refine gcl (f := 26) rfl ?_); refine goesL_ (some 37) rfl rfl Try.func26 (by kernel_rfl) rfl #[.int .i64 a0_0, .int .i64 4, .int .i64 13] rfl qA ?_; (with_reducible refine (spec_l1Between.calls a0_0 4 13 false _ A24.out).mono ?_); rintro e w' ⟨rfl, ⟨nd, rfl⟩⟩; refine ⟨_, rfl, ?_⟩)); go_ret; exact ⟨qR, qB⟩
def spec_l4Exp.l0 : Nat → Int → List (S122) → Int → Int → Option (Bool)
  | 0, _, _, _, _ => none
  | k + 1, x3, x10, x11, x12 => if x12 < x11 then (if 0 ≤ x12 then (if x12 < (x10.length : Int) then ((spec_l4Item.f k ((rd_T122 x10 x12).f0) ((rd_T122 x10 x12).f1) ((rd_T122 x10 x12).f2)).bind fun t149 => (if t149 = true then ((spec_l4Arity.f ((rd_T122 x10 x12).f0)).bind fun t150 => (if x3 < t150 then (some false) else ((spec_l4Arity.f ((rd_T122 x10 x12).f0)).bind fun t151 => (spec_l4Exp.l0 k (wrap64 (x3 + (wrap64 (1 - t151)))) x10 x11 (wrap64 (x12 + 1)))))) else (some false))) else (none)) else (none)) else (some (x3 == 1))
def spec_l4Exp.f (k : Nat) (l0 : List (S122)) : Option (Bool) := (spec_l1Between.f (l0.length : Int) 1 100).bind fun t146 => (if t146 = true then (spec_l4Exp.l0 k 0 l0 (l0.length : Int) 0) else (some false))
theorem spec_l4Exp.mono_l : ∀ k, (∀ y0 y1 y2 y3, LeO (spec_l4Exp.l0 k y0 y1 y2 y3) (spec_l4Exp.l0 (k + 1) y0 y1 y2 y3))
  | 0 => fun _ _ _ _ r h => by simp [spec_l4Exp.l0] at h
  | k + 1 => by
    have ih0 := spec_l4Exp.mono_l k
    · intro y0 y1 y2 y3
      unfold spec_l4Exp.l0
      repeat' first
      | (with_reducible exact ih0 _ _ _ _)
      | (with_reducible exact spec_l4Item.mono _ _ _ _)
      | (with_reducible exact LeO.refl _)
      | (with_reducible exact LeO.none _)
      | (with_reducible refine LeO.ite ?_ ?_)
      | (with_reducible refine LeO.bind ?_ (fun _ => ?_))
      | exact ih0 _ _ _ _
      | exact spec_l4Item.mono _ _ _ _
      | exact LeO.none _
      | refine LeO.ite ?_ ?_
      | refine LeO.bind ?_ (fun _ => ?_)
theorem spec_l4Exp.mono : ∀ a0 k, LeO (spec_l4Exp.f k a0) (spec_l4Exp.f (k + 1) a0) := by
  intro a0 k
  have ih0 := spec_l4Exp.mono_l k
  unfold spec_l4Exp.f
  repeat' first
      | (with_reducible exact ih0 _ _ _ _)
      | (with_reducible exact spec_l4Item.mono _ _ _ _)
      | (with_reducible exact LeO.refl _)
      | (with_reducible exact LeO.none _)
      | (with_reducible refine LeO.ite ?_ ?_)
      | (with_reducible refine LeO.bind ?_ (fun _ => ?_))
      | exact ih0 _ _ _ _
      | exact spec_l4Item.mono _ _ _ _
      | exact LeO.none _
      | refine LeO.ite ?_ ?_
      | refine LeO.bind ?_ (fun _ => ?_)
set_option maxHeartbeats 8000000 in
set_option maxRecDepth 100000 in
theorem spec_l4Exp.calls (k : Nat) (A0 : Option Addr) (c0 : Nat) (l0 : List (S122)) (r : Bool) (w : World) (hr0 : Kd.C k122 w A0 l0.length l0) (hc0 : l0.length ≤ c0) (h : spec_l4Exp.f k l0 = some r) :
    Calls Try.prog 94 #[.slice A0 l0.length c0] w fun e w' => e = .returned (.bool r) ∧ Below w.heap.size w w' := by
  have hu122 := Try.underlying122; have HR0 := qK hr0; have HC0 := qK hc0; clear hr0 hc0; have HB := qK (Below.refl w.heap.size w); have H : ((spec_l1Between.f (l0.length : Int) 1 100).bind fun t146 => (if t146 = true then (spec_l4Exp.l0 k 0 l0 (l0.length : Int) 0) else (some false))) = some r := h; clear h; replace H := Option.bind_eq_some_iff.mp H; obtain ⟨t146, A20, H⟩ := H; have A2 := qK A20; clear A20; by_cases c3 : t146 = true
  · subst c3; rw [if_pos rfl] at H; have H' := qK H; clear H; go_enter Try.func94, Try.ntmps94; go_wp2_with (first | ((with_reducible refine gcl (f := 26) rfl ?_); refine goesL_ (some 8) rfl rfl Try.func26 (by kernel_rfl) rfl #[.int .i64 (l0.length : Int), .int .i64 1, .int .i64 100] rfl qA ?_; (with_reducible refine (spec_l1Between.calls (l0.length : Int) 1 100 true _ A2.out).mono ?_); rintro e w' ⟨rfl, ⟨nd, rfl⟩⟩; refine ⟨_, rfl, ?_⟩)); go_loopg [3, 12] k (fun kq v3 v12 w' => ∃ (x3_1 : Int) (x12_1 : Int), v3 = .int .i64 x3_1 ∧ v12 = .int .i64 x12_1 ∧ Aside0 (spec_l4Exp.l0 kq x3_1 l0 (l0.length : Int) x12_1 = some r) ∧ Aside0 (kq ≤ k) ∧ Aside0 (Below w.heap.size w w'))
    case atStart => exact ⟨(0), (0), qS, qS, H', ⟨Nat.le_refl _⟩, ⟨qB⟩⟩
    case round =>
      clear H'; (try clear c2); (try clear p2); (try clear c3); obtain ⟨x3_1, x12_1, rfl, rfl, HA, HK1, HB⟩ := hrel
      cases gk with
      | zero => exact absurd HA.out (by simp [spec_l4Exp.l0])
      | succ k1 =>
        have H := HA.out; clear HA; simp only [spec_l4Exp.l0] at H; by_cases c4 : x12_1 < (l0.length : Int)
        · rw [if_pos c4] at H; have c4b0 : decide (x12_1 < (l0.length : Int)) = true := decide_eq_true c4; clear c4; by_cases c5 : 0 ≤ x12_1
          · rw [if_pos c5] at H; have c5b0 : decide (0 ≤ x12_1) = true := decide_eq_true c5; clear c5; by_cases c6 : x12_1 < (l0.length : Int)
            · rw [if_pos c6] at H; have c6b0 : decide (x12_1 < (l0.length : Int)) = true := decide_eq_true c6; clear c6; replace H := Option.bind_eq_some_iff.mp H; obtain ⟨t149, A70, H⟩ := H; have A7 := qK A70; clear A70; by_cases c8 : t149 = true
              · subst c8; rw [if_pos rfl] at H; replace H := Option.bind_eq_some_iff.mp H; obtain ⟨t150, A90, H⟩ := H; have A9 := qK A90; clear A90; by_cases c10 : x3_1 < t150
                · rw [if_pos c10] at H; have c10b0 : decide (x3_1 < t150) = true := decide_eq_true c10; clear c10; obtain rfl := Option.some.inj H; have p147 : 0 ≤ (x12_1 : Int) := of_decide_eq_true qa; have q147 : x12_1 < (l0.length : Int) := of_decide_eq_true qa; obtain ⟨ad147, e147, hx147_0, hx147_1, hx147_2⟩ := at_T122 HR0.out x12_1 p147 q147; cases e147; replace hx147_0 := (HB.out.cell (World.block_lt_of_cell? w _ hx147_0)).trans hx147_0; replace hx147_1 := (HB.out.cell (World.block_lt_of_cell? w _ hx147_1)).trans hx147_1; replace hx147_2 := (HB.out.cell (World.block_lt_of_cell? w _ hx147_2)).trans hx147_2; replace p147 := eq_true p147; replace q147 := eq_true q147; go_wp2_with (first | ((with_reducible refine gds (N := 5) rfl ?_); refine qbx 5 #[.int .i64 0, .int .i64 0, .string (⟨#[]⟩ : ByteArray)] 122 ?_; intro gb148 hg w11 hbox hb; have BK148 := qK (hbox); have GW148 := qK ((qW : w.heap.size ≤ gb148)); have GE148 := GW148; replace HB := qHB HB hb; clear hb hbox hg; have hz12 := qz3 BK148.out) | ((with_reducible refine gcl (f := 123) rfl ?_); refine goesL_ (some 17) rfl rfl Try.func123 (by kernel_rfl) rfl #[.agg #[.int .i64 ((rd_T122 l0 x12_1).f0), .int .i64 ((rd_T122 l0 x12_1).f1), .string ((rd_T122 l0 x12_1).f2)]] rfl qA ?_; (with_reducible refine (spec_l4Item.calls k1 ((rd_T122 l0 x12_1).f0) ((rd_T122 l0 x12_1).f1) ((rd_T122 l0 x12_1).f2) true _ A7.out).mono ?_); rintro e w13 ⟨rfl, hb⟩; refine ⟨_, rfl, ?_⟩; replace BK148 := qK (bbe (g := gb148) (o := .cells #[.int .i64 ((rd_T122 l0 x12_1).f0), .int .i64 ((rd_T122 l0 x12_1).f1), .string ((rd_T122 l0 x12_1).f2)] 122 (0, 0)) (by (with_reducible repeat (first | refine bdN ?_ _ | refine bkD ?_ | refine bkA ?_ _)); refine bpu (cs := #[.int .i64 ((rd_T122 l0 x12_1).f0), .int .i64 ((rd_T122 l0 x12_1).f1), .string (⟨#[]⟩ : ByteArray)]) ?_ 2 _ rfl; (with_reducible repeat (first | refine bdN ?_ _ | refine bkD ?_ | refine bkA ?_ _)); refine bpu (cs := #[.int .i64 ((rd_T122 l0 x12_1).f0), .int .i64 0, .string (⟨#[]⟩ : ByteArray)]) ?_ 1 _ rfl; (with_reducible repeat (first | refine bdN ?_ _ | refine bkD ?_ | refine bkA ?_ _)); refine bpu (cs := #[.int .i64 0, .int .i64 0, .string (⟨#[]⟩ : ByteArray)]) ?_ 0 _ rfl; (with_reducible repeat (first | refine bdN ?_ _ | refine bkD ?_ | refine bkA ?_ _)); exact BK148.out) hb); replace HB := qHB HB hb; (try clear hb); (try clear hb2); (try clear hk); (try clear hi); have hz14 := qz3 BK148.out) | (go_at_call 98; (with_reducible refine (spec_l4Arity.calls ((rd_T122 l0 x12_1).f0) t150 _ A9.out).mono ?_); rintro e w' ⟨rfl, ⟨nd, rfl⟩⟩)); go_ret; exact ⟨qR, qB⟩
                · rw [if_neg c10] at H; have c10b0 : decide (x3_1 < t150) = false := decide_eq_false c10; clear c10; replace H := Option.bind_eq_some_iff.mp H; obtain ⟨t151, A150, H⟩ := H; have A15 := qK A150; clear A150; have H' := qK H; clear H; have p147 : 0 ≤ (x12_1 : Int) := of_decide_eq_true qa; have q147 : x12_1 < (l0.length : Int) := of_decide_eq_true qa; obtain ⟨ad147, e147, hx147_0, hx147_1, hx147_2⟩ := at_T122 HR0.out x12_1 p147 q147; cases e147; replace hx147_0 := (HB.out.cell (World.block_lt_of_cell? w _ hx147_0)).trans hx147_0; replace hx147_1 := (HB.out.cell (World.block_lt_of_cell? w _ hx147_1)).trans hx147_1; replace hx147_2 := (HB.out.cell (World.block_lt_of_cell? w _ hx147_2)).trans hx147_2; replace p147 := eq_true p147; replace q147 := eq_true q147; go_wp2_with (first | ((with_reducible refine gds (N := 5) rfl ?_); refine qbx 5 #[.int .i64 0, .int .i64 0, .string (⟨#[]⟩ : ByteArray)] 122 ?_; intro gb148 hg w16 hbox hb; have BK148 := qK (hbox); have GW148 := qK ((qW : w.heap.size ≤ gb148)); have GE148 := GW148; replace HB := qHB HB hb; clear hb hbox hg; have hz17 := qz3 BK148.out) | ((with_reducible refine gcl (f := 123) rfl ?_); refine goesL_ (some 17) rfl rfl Try.func123 (by kernel_rfl) rfl #[.agg #[.int .i64 ((rd_T122 l0 x12_1).f0), .int .i64 ((rd_T122 l0 x12_1).f1), .string ((rd_T122 l0 x12_1).f2)]] rfl qA ?_; (with_reducible refine (spec_l4Item.calls k1 ((rd_T122 l0 x12_1).f0) ((rd_T122 l0 x12_1).f1) ((rd_T122 l0 x12_1).f2) true _ A7.out).mono ?_); rintro e w18 ⟨rfl, hb⟩; refine ⟨_, rfl, ?_⟩; replace BK148 := qK (bbe (g := gb148) (o := .cells #[.int .i64 ((rd_T122 l0 x12_1).f0), .int .i64 ((rd_T122 l0 x12_1).f1), .string ((rd_T122 l0 x12_1).f2)] 122 (0, 0)) (by (with_reducible repeat (first | refine bdN ?_ _ | refine bkD ?_ | refine bkA ?_ _)); refine bpu (cs := #[.int .i64 ((rd_T122 l0 x12_1).f0), .int .i64 ((rd_T122 l0 x12_1).f1), .string (⟨#[]⟩ : ByteArray)]) ?_ 2 _ rfl; (with_reducible repeat (first | refine bdN ?_ _ | refine bkD ?_ | refine bkA ?_ _)); refine bpu (cs := #[.int .i64 ((rd_T122 l0 x12_1).f0), .int .i64 0, .string (⟨#[]⟩ : ByteArray)]) ?_ 1 _ rfl; (with_reducible repeat (first | refine bdN ?_ _ | refine bkD ?_ | refine bkA ?_ _)); refine bpu (cs := #[.int .i64 0, .int .i64 0, .string (⟨#[]⟩ : ByteArray)]) ?_ 0 _ rfl; (with_reducible repeat (first | refine bdN ?_ _ | refine bkD ?_ | refine bkA ?_ _)); exact BK148.out) hb); replace HB := qHB HB hb; (try clear hb); (try clear hb2); (try clear hk); (try clear hi); have hz19 := qz3 BK148.out) | (go_at_call 98; (with_reducible refine (spec_l4Arity.calls ((rd_T122 l0 x12_1).f0) t150 _ A9.out).mono ?_); rintro e w' ⟨rfl, ⟨nd, rfl⟩⟩) | ((with_reducible refine gcl (f := 98) rfl ?_); refine goesL_ (some 29) rfl rfl Try.func98 (by kernel_rfl) rfl #[.int .i64 ((rd_T122 l0 x12_1).f0)] rfl qA ?_; (with_reducible refine (spec_l4Arity.calls ((rd_T122 l0 x12_1).f0) t151 _ A15.out).mono ?_); rintro e w' ⟨rfl, ⟨nd, rfl⟩⟩; refine ⟨_, rfl, ?_⟩)); go_roundg k1
                  case measure => have := HK1.out; omega
                  case rel => exact ⟨(wrap64 (x3_1 + (wrap64 (1 - t151)))), (wrap64 (x12_1 + 1)), qS, qS, H', ⟨by have := HK1.out; omega⟩, ⟨qB⟩⟩
              · replace c8 := Bool.eq_false_iff.mpr c8; subst c8; rw [if_neg qff] at H; obtain rfl := Option.some.inj H; have p147 : 0 ≤ (x12_1 : Int) := of_decide_eq_true qa; have q147 : x12_1 < (l0.length : Int) := of_decide_eq_true qa; obtain ⟨ad147, e147, hx147_0, hx147_1, hx147_2⟩ := at_T122 HR0.out x12_1 p147 q147; cases e147; replace hx147_0 := (HB.out.cell (World.block_lt_of_cell? w _ hx147_0)).trans hx147_0; replace hx147_1 := (HB.out.cell (World.block_lt_of_cell? w _ hx147_1)).trans hx147_1; replace hx147_2 := (HB.out.cell (World.block_lt_of_cell? w _ hx147_2)).trans hx147_2; replace p147 := eq_true p147; replace q147 := eq_true q147; go_wp2_with (first | ((with_reducible refine gds (N := 5) rfl ?_); refine qbx 5 #[.int .i64 0, .int .i64 0, .string (⟨#[]⟩ : ByteArray)] 122 ?_; intro gb148 hg w20 hbox hb; have BK148 := qK (hbox); have GW148 := qK ((qW : w.heap.size ≤ gb148)); have GE148 := GW148; replace HB := qHB HB hb; clear hb hbox hg; have hz21 := qz3 BK148.out) | ((with_reducible refine gcl (f := 123) rfl ?_); refine goesL_ (some 17) rfl rfl Try.func123 (by kernel_rfl) rfl #[.agg #[.int .i64 ((rd_T122 l0 x12_1).f0), .int .i64 ((rd_T122 l0 x12_1).f1), .string ((rd_T122 l0 x12_1).f2)]] rfl qA ?_; (with_reducible refine (spec_l4Item.calls k1 ((rd_T122 l0 x12_1).f0) ((rd_T122 l0 x12_1).f1) ((rd_T122 l0 x12_1).f2) false _ A7.out).mono ?_); rintro e w22 ⟨rfl, hb⟩; refine ⟨_, rfl, ?_⟩; replace BK148 := qK (bbe (g := gb148) (o := .cells #[.int .i64 ((rd_T122 l0 x12_1).f0), .int .i64 ((rd_T122 l0 x12_1).f1), .string ((rd_T122 l0 x12_1).f2)] 122 (0, 0)) (by (with_reducible repeat (first | refine bdN ?_ _ | refine bkD ?_ | refine bkA ?_ _)); refine bpu (cs := #[.int .i64 ((rd_T122 l0 x12_1).f0), .int .i64 ((rd_T122 l0 x12_1).f1), .string (⟨#[]⟩ : ByteArray)]) ?_ 2 _ rfl; (with_reducible repeat (first | refine bdN ?_ _ | refine bkD ?_ | refine bkA ?_ _)); refine bpu (cs := #[.int .i64 ((rd_T122 l0 x12_1).f0), .int .i64 0, .string (⟨#[]⟩ : ByteArray)]) ?_ 1 _ rfl; (with_reducible repeat (first | refine bdN ?_ _ | refine bkD ?_ | refine bkA ?_ _)); refine bpu (cs := #[.int .i64 0, .int .i64 0, .string (⟨#[]⟩ : ByteArray)]) ?_ 0 _ rfl; (with_reducible repeat (first | refine bdN ?_ _ | refine bkD ?_ | refine bkA ?_ _)); exact BK148.out) hb); replace HB := qHB HB hb; (try clear hb); (try clear hb2); (try clear hk); (try clear hi))); go_ret; exact ⟨qR, qB⟩
            · rw [if_neg c6] at H; exact absurd H (by simp)
          · rw [if_neg c5] at H; exact absurd H (by simp)
        · rw [if_neg c4] at H; have c4b0 : decide (x12_1 < (l0.length : Int)) = false := decide_eq_false c4; clear c4; obtain rfl := Option.some.inj H; go_wp2; go_ret; exact ⟨qR, qB⟩
  · replace c3 := Bool.eq_false_iff.mpr c3; subst c3; rw [if_neg qff] at H; obtain rfl := Option.some.inj H; go_enter Try.func94, Try.ntmps94; go_wp2_with (first | ((with_reducible refine gcl (f := 26) rfl ?_); refine goesL_ (some 8) rfl rfl Try.func26 (by kernel_rfl) rfl #[.int .i64 (l0.length : Int), .int .i64 1, .int .i64 100] rfl qA ?_; (with_reducible refine (spec_l1Between.calls (l0.length : Int) 1 100 false _ A2.out).mono ?_); rintro e w' ⟨rfl, ⟨nd, rfl⟩⟩; refine ⟨_, rfl, ?_⟩)); go_ret; exact ⟨qR, qB⟩
def spec_l4Where.f (k : Nat) (l0 : List (S122)) : Option (Bool) := if (l0.length : Int) = 0 then (some true) else ((spec_l4Exp.f k l0).bind fun t152 => (some t152))
theorem spec_l4Where.mono : ∀ a0 k, LeO (spec_l4Where.f k a0) (spec_l4Where.f (k + 1) a0) := by
  intro a0 k
  unfold spec_l4Where.f
  repeat' first
      | (with_reducible exact spec_l4Exp.mono _ _)
      | (with_reducible exact LeO.refl _)
      | (with_reducible exact LeO.none _)
      | (with_reducible refine LeO.ite ?_ ?_)
      | (with_reducible refine LeO.bind ?_ (fun _ => ?_))
      | exact spec_l4Exp.mono _ _
      | exact LeO.none _
      | refine LeO.ite ?_ ?_
      | refine LeO.bind ?_ (fun _ => ?_)
set_option maxHeartbeats 8000000 in
set_option maxRecDepth 100000 in
theorem spec_l4Where.calls (k : Nat) (A0 : Option Addr) (c0 : Nat) (l0 : List (S122)) (r : Bool) (w : World) (hr0 : Kd.C k122 w A0 l0.length l0) (hc0 : l0.length ≤ c0) (h : spec_l4Where.f k l0 = some r) :
    Calls Try.prog 95 #[.slice A0 l0.length c0] w fun e w' => e = .returned (.bool r) ∧ Below w.heap.size w w' := by
  have HR0 := qK hr0; have HC0 := qK hc0; clear hr0 hc0; have HB := qK (Below.refl w.heap.size w); have H : (if (l0.length : Int) = 0 then (some true) else ((spec_l4Exp.f k l0).bind fun t152 => (some t152))) = some r := h; clear h; by_cases c2 : (l0.length : Int) = 0
  · rw [if_pos c2] at H; have c2b0 : ((l0.length : Int) == 0) = true := beq_iff_eq.mpr c2; have c2b1 : ((l0.length : Int) != 0) = false := bne_eq_false_iff_eq.mpr c2; clear c2; obtain rfl := Option.some.inj H; go_enter Try.func95, Try.ntmps95; go_wp2; go_ret; exact ⟨qR, qB⟩
  · rw [if_neg c2] at H; have c2b0 : ((l0.length : Int) == 0) = false := beq_eq_false_iff_ne.mpr c2; have c2b1 : ((l0.length : Int) != 0) = true := bne_iff_ne.mpr c2; have c2b2 : ¬ (l0 = []) := fun h_ => c2 (by rw [h_]; rfl); replace H := Option.bind_eq_some_iff.mp H; obtain ⟨t152, A30, H⟩ := H; have A3 := qK A30; clear A30; obtain rfl := Option.some.inj H; go_enter Try.func95, Try.ntmps95; go_wp2_with (first | (go_at_call 94; (with_reducible refine (spec_l4Exp.calls k _ _ l0 t152 _ ?side1 ?side2 A3.out).mono ?_); (case side1 => repeat (first | exact HR0.out | (with_reducible refine Kd.Cal ?_ _) | (with_reducible refine Kd.CdN ?_ _) | (with_reducible refine Kd.Cdr ?_))); (case side2 => exact HC0.out); rintro e w4 ⟨rfl, hb⟩; replace HB := qHB HB hb; (try clear hb); (try clear hb2); (try clear hk); (try clear hi))); go_ret; exact ⟨qR, qB⟩
end Go.Proofs.Ytoebfjfhdodakaa.L
end
section
namespace Go.Proofs.Ytoebfjfhdodakaa.L
open Go.RowKit Go.Proofs.YtoebfjfhdodakaaW.PrintWords Go.Proofs.YtoebfjfhdodakaaW.PrintLast Go.Proofs.YtoebfjfhdodakaaW.PrintMore
attribute [local go_sem] max2_int min2_int max_two min_two max_three min_three max_four min_four
set_option linter.unusedVariables false
set_option linter.unusedSimpArgs false
mutual
def spec_StmOK.j0 : Nat → Int → Bool → Int → ByteArray → List (S114) → List (S116) → ByteArray → List (S122) → List (S122) → List (List (S122)) → Option (Bool)
  | 0, _, _, _, _, _, _, _, _, _, _ => none
  | k + 1, x3, x58, x154000, x154001, x154002, x154003, x154004, x154005, x154006, x154007 => if x58 = true then (some false) else (if x3 < 3 then (spec_StmOK.j1 k x3 ((x154006.length : Int) != 0) x154000 x154001 x154002 x154003 x154004 x154005 x154006 x154007) else (spec_StmOK.j1 k x3 false x154000 x154001 x154002 x154003 x154004 x154005 x154006 x154007))
def spec_StmOK.j1 : Nat → Int → Bool → Int → ByteArray → List (S114) → List (S116) → ByteArray → List (S122) → List (S122) → List (List (S122)) → Option (Bool)
  | 0, _, _, _, _, _, _, _, _, _, _ => none
  | k + 1, x3, x66, x154000, x154001, x154002, x154003, x154004, x154005, x154006, x154007 => if x66 = true then (some false) else (if x3 = 1 then (spec_StmOK.l0 k x154002 (x154002.length : Int) 0 x154000 x154001 x154002 x154003 x154004 x154005 x154006 x154007) else (if x3 = 2 then (spec_StmOK.l1 k x154003 (x154003.length : Int) 0 x154000 x154001 x154002 x154003 x154004 x154005 x154006 x154007) else (if x3 = 3 then ((spec_l4Name.f k x154004).bind fun t162 => (if t162 = true then ((spec_l4Exp.f k x154005).bind fun t163 => (if t163 = true then ((spec_l4Where.f k x154006).bind fun t164 => (some t164)) else (some false))) else (some false))) else (if x3 = 4 then ((spec_l4Where.f k x154006).bind fun t165 => (some t165)) else (if x3 = 5 then (spec_StmOK.l2 k x154007 (x154007.length : Int) 0 x154000 x154001 x154002 x154003 x154004 x154005 x154006 x154007) else (some false))))))
def spec_StmOK.l0 : Nat → List (S114) → Int → Int → Int → ByteArray → List (S114) → List (S116) → ByteArray → List (S122) → List (S122) → List (List (S122)) → Option (Bool)
  | 0, _, _, _, _, _, _, _, _, _, _, _ => none
  | k + 1, x71, x72, x73, x154000, x154001, x154002, x154003, x154004, x154005, x154006, x154007 => if x73 < x72 then (if 0 ≤ x73 then (if x73 < (x71.length : Int) then (if (x154002.length : Int) > 20 then (some false) else ((spec_l4Name.f k ((rd_T114 x71 x73).f0)).bind fun t157 => (if t157 = true then ((spec_l4Type.f ((rd_T114 x71 x73).f1)).bind fun t158 => (if t158 = true then (spec_StmOK.l0 k x71 x72 (wrap64 (x73 + 1)) x154000 x154001 x154002 x154003 x154004 x154005 x154006 x154007) else (some false))) else (some false)))) else (none)) else (none)) else (some (decide ((x154002.length : Int) > 0)))
def spec_StmOK.l1 : Nat → List (S116) → Int → Int → Int → ByteArray → List (S114) → List (S116) → ByteArray → List (S122) → List (S122) → List (List (S122)) → Option (Bool)
  | 0, _, _, _, _, _, _, _, _, _, _, _ => none
  | k + 1, x101, x102, x103, x154000, x154001, x154002, x154003, x154004, x154005, x154006, x154007 => if x103 < x102 then (if 0 ≤ x103 then (if x103 < (x101.length : Int) then (if (x154003.length : Int) > 20 then (some false) else ((spec_l4Value.f k ((rd_T116 x101 x103).f0) ((rd_T116 x101 x103).f1) ((rd_T116 x101 x103).f2)).bind fun t161 => (if t161 = true then (spec_StmOK.l1 k x101 x102 (wrap64 (x103 + 1)) x154000 x154001 x154002 x154003 x154004 x154005 x154006 x154007) else (some false)))) else (none)) else (none)) else (some (decide ((x154003.length : Int) > 0)))
def spec_StmOK.l2 : Nat → List (List (S122)) → Int → Int → Int → ByteArray → List (S114) → List (S116) → ByteArray → List (S122) → List (S122) → List (List (S122)) → Option (Bool)
  | 0, _, _, _, _, _, _, _, _, _, _, _ => none
  | k + 1, x144, x145, x146, x154000, x154001, x154002, x154003, x154004, x154005, x154006, x154007 => if x146 < x145 then (if 0 ≤ x146 then (if x146 < (x144.length : Int) then (if (x154007.length : Int) > 20 then (some false) else ((spec_l4Exp.f k (rd_L8 x144 x146)).bind fun t167 => (if t167 = true then (spec_StmOK.l2 k x144 x145 (wrap64 (x146 + 1)) x154000 x154001 x154002 x154003 x154004 x154005 x154006 x154007) else (some false)))) else (none)) else (none)) else (if (x154007.length : Int) > 0 then ((spec_l4Where.f k x154006).bind fun t168 => (some t168)) else (some false))
end
def spec_StmOK.f (k : Nat) (a0_0 : Int) (a0_1 : ByteArray) (l0_2 : List (S114)) (l0_3 : List (S116)) (a0_4 : ByteArray) (l0_5 : List (S122)) (l0_6 : List (S122)) (l0_7 : List (List (S122))) : Option (Bool) := (spec_l4Name.f k a0_1).bind fun t154 => (if t154 = true then (if a0_0 = 1 then (if a0_0 = 2 then (if a0_0 = 3 then (if a0_0 = 5 then (spec_StmOK.j0 k a0_0 false a0_0 a0_1 l0_2 l0_3 a0_4 l0_5 l0_6 l0_7) else (spec_StmOK.j0 k a0_0 ((l0_7.length : Int) != 0) a0_0 a0_1 l0_2 l0_3 a0_4 l0_5 l0_6 l0_7)) else (if a0_4.toList = ([] : List UInt8) then (if (l0_5.length : Int) = 0 then (if a0_0 = 5 then (spec_StmOK.j0 k a0_0 false a0_0 a0_1 l0_2 l0_3 a0_4 l0_5 l0_6 l0_7) else (spec_StmOK.j0 k a0_0 ((l0_7.length : Int) != 0) a0_0 a0_1 l0_2 l0_3 a0_4 l0_5 l0_6 l0_7)) else (spec_StmOK.j0 k a0_0 true a0_0 a0_1 l0_2 l0_3 a0_4 l0_5 l0_6 l0_7)) else (spec_StmOK.j0 k a0_0 true a0_0 a0_1 l0_2 l0_3 a0_4 l0_5 l0_6 l0_7))) else (if (l0_3.length : Int) = 0 then (if a0_0 = 3 then (if a0_0 = 5 then (spec_StmOK.j0 k a0_0 false a0_0 a0_1 l0_2 l0_3 a0_4 l0_5 l0_6 l0_7) else (spec_StmOK.j0 k a0_0 ((l0_7.length : Int) != 0) a0_0 a0_1 l0_2 l0_3 a0_4 l0_5 l0_6 l0_7)) else (if a0_4.toList = ([] : List UInt8) then (if (l0_5.length : Int) = 0 then (if a0_0 = 5 then (spec_StmOK.j0 k a0_0 false a0_0 a0_1 l0_2 l0_3 a0_4 l0_5 l0_6 l0_7) else (spec_StmOK.j0 k a0_0 ((l0_7.length : Int) != 0) a0_0 a0_1 l0_2 l0_3 a0_4 l0_5 l0_6 l0_7)) else (spec_StmOK.j0 k a0_0 true a0_0 a0_1 l0_2 l0_3 a0_4 l0_5 l0_6 l0_7)) else (spec_StmOK.j0 k a0_0 true a0_0 a0_1 l0_2 l0_3 a0_4 l0_5 l0_6 l0_7))) else (spec_StmOK.j0 k a0_0 true a0_0 a0_1 l0_2 l0_3 a0_4 l0_5 l0_6 l0_7))) else (if (l0_2.length : Int) = 0 then (if a0_0 = 2 then (if a0_0 = 3 then (if a0_0 = 5 then (spec_StmOK.j0 k a0_0 false a0_0 a0_1 l0_2 l0_3 a0_4 l0_5 l0_6 l0_7) else (spec_StmOK.j0 k a0_0 ((l0_7.length : Int) != 0) a0_0 a0_1 l0_2 l0_3 a0_4 l0_5 l0_6 l0_7)) else (if a0_4.toList = ([] : List UInt8) then (if (l0_5.length : Int) = 0 then (if a0_0 = 5 then (spec_StmOK.j0 k a0_0 false a0_0 a0_1 l0_2 l0_3 a0_4 l0_5 l0_6 l0_7) else (spec_StmOK.j0 k a0_0 ((l0_7.length : Int) != 0) a0_0 a0_1 l0_2 l0_3 a0_4 l0_5 l0_6 l0_7)) else (spec_StmOK.j0 k a0_0 true a0_0 a0_1 l0_2 l0_3 a0_4 l0_5 l0_6 l0_7)) else (spec_StmOK.j0 k a0_0 true a0_0 a0_1 l0_2 l0_3 a0_4 l0_5 l0_6 l0_7))) else (if (l0_3.length : Int) = 0 then (if a0_0 = 3 then (if a0_0 = 5 then (spec_StmOK.j0 k a0_0 false a0_0 a0_1 l0_2 l0_3 a0_4 l0_5 l0_6 l0_7) else (spec_StmOK.j0 k a0_0 ((l0_7.length : Int) != 0) a0_0 a0_1 l0_2 l0_3 a0_4 l0_5 l0_6 l0_7)) else (if a0_4.toList = ([] : List UInt8) then (if (l0_5.length : Int) = 0 then (if a0_0 = 5 then (spec_StmOK.j0 k a0_0 false a0_0 a0_1 l0_2 l0_3 a0_4 l0_5 l0_6 l0_7) else (spec_StmOK.j0 k a0_0 ((l0_7.length : Int) != 0) a0_0 a0_1 l0_2 l0_3 a0_4 l0_5 l0_6 l0_7)) else (spec_StmOK.j0 k a0_0 true a0_0 a0_1 l0_2 l0_3 a0_4 l0_5 l0_6 l0_7)) else (spec_StmOK.j0 k a0_0 true a0_0 a0_1 l0_2 l0_3 a0_4 l0_5 l0_6 l0_7))) else (spec_StmOK.j0 k a0_0 true a0_0 a0_1 l0_2 l0_3 a0_4 l0_5 l0_6 l0_7))) else (spec_StmOK.j0 k a0_0 true a0_0 a0_1 l0_2 l0_3 a0_4 l0_5 l0_6 l0_7))) else (some false))
theorem spec_StmOK.mono_l : ∀ k, (∀ y0 y1 y2 y3 y4 y5 y6 y7 y8 y9, LeO (spec_StmOK.j0 k y0 y1 y2 y3 y4 y5 y6 y7 y8 y9) (spec_StmOK.j0 (k + 1) y0 y1 y2 y3 y4 y5 y6 y7 y8 y9)) ∧ (∀ y0 y1 y2 y3 y4 y5 y6 y7 y8 y9, LeO (spec_StmOK.j1 k y0 y1 y2 y3 y4 y5 y6 y7 y8 y9) (spec_StmOK.j1 (k + 1) y0 y1 y2 y3 y4 y5 y6 y7 y8 y9)) ∧ (∀ y0 y1 y2 y3 y4 y5 y6 y7 y8 y9 y10, LeO (spec_StmOK.l0 k y0 y1 y2 y3 y4 y5 y6 y7 y8 y9 y10) (spec_StmOK.l0 (k + 1) y0 y1 y2 y3 y4 y5 y6 y7 y8 y9 y10)) ∧ (∀ y0 y1 y2 y3 y4 y5 y6 y7 y8 y9 y10, LeO (spec_StmOK.l1 k y0 y1 y2 y3 y4 y5 y6 y7 y8 y9 y10) (spec_StmOK.l1 (k + 1) y0 y1 y2 y3 y4 y5 y6 y7 y8 y9 y10)) ∧ (∀ y0 y1 y2 y3 y4 y5 y6 y7 y8 y9 y10, LeO (spec_StmOK.l2 k y0 y1 y2 y3 y4 y5 y6 y7 y8 y9 y10) (spec_StmOK.l2 (k + 1) y0 y1 y2 y3 y4 y5 y6 y7 y8 y9 y10))
  | 0 => ⟨fun _ _ _ _ _ _ _ _ _ _ r h => by simp [spec_StmOK.j0] at h, fun _ _ _ _ _ _ _ _ _ _ r h => by simp [spec_StmOK.j1] at h, fun _ _ _ _ _ _ _ _ _ _ _ r h => by simp [spec_StmOK.l0] at h, fun _ _ _ _ _ _ _ _ _ _ _ r h => by simp [spec_StmOK.l1] at h, fun _ _ _ _ _ _ _ _ _ _ _ r h => by simp [spec_StmOK.l2] at h⟩
  | k + 1 => by
    obtain ⟨ih0, ih1, ih2, ih3, ih4⟩ := spec_StmOK.mono_l k
    refine ⟨?_, ?_, ?_, ?_, ?_⟩
    · intro y0 y1 y2 y3 y4 y5 y6 y7 y8 y9
      unfold spec_StmOK.j0
      repeat' first
      | (with_reducible exact ih0 _ _ _ _ _ _ _ _ _ _)
      | (with_reducible exact ih1 _ _ _ _ _ _ _ _ _ _)
      | (with_reducible exact ih2 _ _ _ _ _ _ _ _ _ _ _)
      | (with_reducible exact ih3 _ _ _ _ _ _ _ _ _ _ _)
      | (with_reducible exact ih4 _ _ _ _ _ _ _ _ _ _ _)
      | (with_reducible exact spec_l4Exp.mono _ _)
      | (with_reducible exact spec_l4Name.mono _ _)
      | (with_reducible exact spec_l4Value.mono _ _ _ _)
      | (with_reducible exact spec_l4Where.mono _ _)
      | (with_reducible exact LeO.refl _)
      | (with_reducible exact LeO.none _)
      | (with_reducible refine LeO.ite ?_ ?_)
      | (with_reducible refine LeO.bind ?_ (fun _ => ?_))
      | exact ih0 _ _ _ _ _ _ _ _ _ _
      | exact ih1 _ _ _ _ _ _ _ _ _ _
      | exact ih2 _ _ _ _ _ _ _ _ _ _ _
      | exact ih3 _ _ _ _ _ _ _ _ _ _ _
      | exact ih4 _ _ _ _ _ _ _ _ _ _ _
      | exact spec_l4Exp.mono _ _
      | exact spec_l4Name.mono _ _
      | exact spec_l4Value.mono _ _ _ _
      | exact spec_l4Where.mono _ _
      | exact LeO.none _
      | refine LeO.ite ?_ ?_
      | refine LeO.bind ?_ (fun _ => ?_)
    · intro y0 y1 y2 y3 y4 y5 y6 y7 y8 y9
      unfold spec_StmOK.j1
      repeat' first
      | (with_reducible exact ih0 _ _ _ _ _ _ _ _ _ _)
      | (with_reducible exact ih1 _ _ _ _ _ _ _ _ _ _)
      | (with_reducible exact ih2 _ _ _ _ _ _ _ _ _ _ _)
      | (with_reducible exact ih3 _ _ _ _ _ _ _ _ _ _ _)
      | (with_reducible exact ih4 _ _ _ _ _ _ _ _ _ _ _)
      | (with_reducible exact spec_l4Exp.mono _ _)
      | (with_reducible exact spec_l4Name.mono _ _)
      | (with_reducible exact spec_l4Value.mono _ _ _ _)
      | (with_reducible exact spec_l4Where.mono _ _)
      | (with_reducible exact LeO.refl _)
      | (with_reducible exact LeO.none _)
      | (with_reducible refine LeO.ite ?_ ?_)
      | (with_reducible refine LeO.bind ?_ (fun _ => ?_))
      | exact ih0 _ _ _ _ _ _ _ _ _ _
      | exact ih1 _ _ _ _ _ _ _ _ _ _
      | exact ih2 _ _ _ _ _ _ _ _ _ _ _
      | exact ih3 _ _ _ _ _ _ _ _ _ _ _
      | exact ih4 _ _ _ _ _ _ _ _ _ _ _
      | exact spec_l4Exp.mono _ _
      | exact spec_l4Name.mono _ _
      | exact spec_l4Value.mono _ _ _ _
      | exact spec_l4Where.mono _ _
      | exact LeO.none _
      | refine LeO.ite ?_ ?_
      | refine LeO.bind ?_ (fun _ => ?_)
    · intro y0 y1 y2 y3 y4 y5 y6 y7 y8 y9 y10
      unfold spec_StmOK.l0
      repeat' first
      | (with_reducible exact ih0 _ _ _ _ _ _ _ _ _ _)
      | (with_reducible exact ih1 _ _ _ _ _ _ _ _ _ _)
      | (with_reducible exact ih2 _ _ _ _ _ _ _ _ _ _ _)
      | (with_reducible exact ih3 _ _ _ _ _ _ _ _ _ _ _)
      | (with_reducible exact ih4 _ _ _ _ _ _ _ _ _ _ _)
      | (with_reducible exact spec_l4Exp.mono _ _)
      | (with_reducible exact spec_l4Name.mono _ _)
      | (with_reducible exact spec_l4Value.mono _ _ _ _)
      | (with_reducible exact spec_l4Where.mono _ _)
      | (with_reducible exact LeO.refl _)
      | (with_reducible exact LeO.none _)
      | (with_reducible refine LeO.ite ?_ ?_)
      | (with_reducible refine LeO.bind ?_ (fun _ => ?_))
      | exact ih0 _ _ _ _ _ _ _ _ _ _
      | exact ih1 _ _ _ _ _ _ _ _ _ _
      | exact ih2 _ _ _ _ _ _ _ _ _ _ _
      | exact ih3 _ _ _ _ _ _ _ _ _ _ _
      | exact ih4 _ _ _ _ _ _ _ _ _ _ _
      | exact spec_l4Exp.mono _ _
      | exact spec_l4Name.mono _ _
      | exact spec_l4Value.mono _ _ _ _
      | exact spec_l4Where.mono _ _
      | exact LeO.none _
      | refine LeO.ite ?_ ?_
      | refine LeO.bind ?_ (fun _ => ?_)
    · intro y0 y1 y2 y3 y4 y5 y6 y7 y8 y9 y10
      unfold spec_StmOK.l1
      repeat' first
      | (with_reducible exact ih0 _ _ _ _ _ _ _ _ _ _)
      | (with_reducible exact ih1 _ _ _ _ _ _ _ _ _ _)
      | (with_reducible exact ih2 _ _ _ _ _ _ _ _ _ _ _)
      | (with_reducible exact ih3 _ _ _ _ _ _ _ _ _ _ _)
      | (with_reducible exact ih4 _ _ _ _ _ _ _ _ _ _ _)
      | (with_reducible exact spec_l4Exp.mono _ _)
      | (with_reducible exact spec_l4Name.mono _ _)
      | (with_reducible exact spec_l4Value.mono _ _ _ _)
      | (with_reducible exact spec_l4Where.mono _ _)
      | (with_reducible exact LeO.refl _)
      | (with_reducible exact LeO.none _)
      | (with_reducible refine LeO.ite ?_ ?_)
      | (with_reducible refine LeO.bind ?_ (fun _ => ?_))
      | exact ih0 _ _ _ _ _ _ _ _ _ _
      | exact ih1 _ _ _ _ _ _ _ _ _ _
      | exact ih2 _ _ _ _ _ _ _ _ _ _ _
      | exact ih3 _ _ _ _ _ _ _ _ _ _ _
      | exact ih4 _ _ _ _ _ _ _ _ _ _ _
      | exact spec_l4Exp.mono _ _
      | exact spec_l4Name.mono _ _
      | exact spec_l4Value.mono _ _ _ _
      | exact spec_l4Where.mono _ _
      | exact LeO.none _
      | refine LeO.ite ?_ ?_
      | refine LeO.bind ?_ (fun _ => ?_)
    · intro y0 y1 y2 y3 y4 y5 y6 y7 y8 y9 y10
      unfold spec_StmOK.l2
      repeat' first
      | (with_reducible exact ih0 _ _ _ _ _ _ _ _ _ _)
      | (with_reducible exact ih1 _ _ _ _ _ _ _ _ _ _)
      | (with_reducible exact ih2 _ _ _ _ _ _ _ _ _ _ _)
      | (with_reducible exact ih3 _ _ _ _ _ _ _ _ _ _ _)
      | (with_reducible exact ih4 _ _ _ _ _ _ _ _ _ _ _)
      | (with_reducible exact spec_l4Exp.mono _ _)
      | (with_reducible exact spec_l4Name.mono _ _)
      | (with_reducible exact spec_l4Value.mono _ _ _ _)
      | (with_reducible exact spec_l4Where.mono _ _)
      | (with_reducible exact LeO.refl _)
      | (with_reducible exact LeO.none _)
      | (with_reducible refine LeO.ite ?_ ?_)
      | (with_reducible refine LeO.bind ?_ (fun _ => ?_))
      | exact ih0 _ _ _ _ _ _ _ _ _ _
      | exact ih1 _ _ _ _ _ _ _ _ _ _
      | exact ih2 _ _ _ _ _ _ _ _ _ _ _
      | exact ih3 _ _ _ _ _ _ _ _ _ _ _
      | exact ih4 _ _ _ _ _ _ _ _ _ _ _
      | exact spec_l4Exp.mono _ _
      | exact spec_l4Name.mono _ _
      | exact spec_l4Value.mono _ _ _ _
      | exact spec_l4Where.mono _ _
      | exact LeO.none _
      | refine LeO.ite ?_ ?_
      | refine LeO.bind ?_ (fun _ => ?_)
theorem spec_StmOK.mono : ∀ a0 a1 a2 a3 a4 a5 a6 a7 k, LeO (spec_StmOK.f k a0 a1 a2 a3 a4 a5 a6 a7) (spec_StmOK.f (k + 1) a0 a1 a2 a3 a4 a5 a6 a7) := by
  intro a0 a1 a2 a3 a4 a5 a6 a7 k
  obtain ⟨ih0, ih1, ih2, ih3, ih4⟩ := spec_StmOK.mono_l k
  unfold spec_StmOK.f
  repeat' first
      | (with_reducible exact ih0 _ _ _ _ _ _ _ _ _ _)
      | (with_reducible exact ih1 _ _ _ _ _ _ _ _ _ _)
      | (with_reducible exact ih2 _ _ _ _ _ _ _ _ _ _ _)
      | (with_reducible exact ih3 _ _ _ _ _ _ _ _ _ _ _)
      | (with_reducible exact ih4 _ _ _ _ _ _ _ _ _ _ _)
      | (with_reducible exact spec_l4Exp.mono _ _)
      | (with_reducible exact spec_l4Name.mono _ _)
      | (with_reducible exact spec_l4Value.mono _ _ _ _)
      | (with_reducible exact spec_l4Where.mono _ _)
      | (with_reducible exact LeO.refl _)
      | (with_reducible exact LeO.none _)
      | (with_reducible refine LeO.ite ?_ ?_)
      | (with_reducible refine LeO.bind ?_ (fun _ => ?_))
      | exact ih0 _ _ _ _ _ _ _ _ _ _
      | exact ih1 _ _ _ _ _ _ _ _ _ _
      | exact ih2 _ _ _ _ _ _ _ _ _ _ _
      | exact ih3 _ _ _ _ _ _ _ _ _ _ _
      | exact ih4 _ _ _ _ _ _ _ _ _ _ _
      | exact spec_l4Exp.mono _ _
      | exact spec_l4Name.mono _ _
      | exact spec_l4Value.mono _ _ _ _
      | exact spec_l4Where.mono _ _
      | exact LeO.none _
      | refine LeO.ite ?_ ?_
      | refine LeO.bind ?_ (fun _ => ?_)
set_option maxHeartbeats 8000000 in
set_option maxRecDepth 100000 in
theorem spec_StmOK.calls (k : Nat) (a0_0 : Int) (a0_1 : ByteArray) (A0_2 : Option Addr) (c0_2 : Nat) (l0_2 : List (S114)) (A0_3 : Option Addr) (c0_3 : Nat) (l0_3 : List (S116)) (a0_4 : ByteArray) (A0_5 : Option Addr) (c0_5 : Nat) (l0_5 : List (S122)) (A0_6 : Option Addr) (c0_6 : Nat) (l0_6 : List (S122)) (A0_7 : Option Addr) (c0_7 : Nat) (l0_7 : List (List (S122))) (r : Bool) (w : World) (hr0_2 : Kd.C k114 w A0_2 l0_2.length l0_2) (hc0_2 : l0_2.length ≤ c0_2) (hr0_3 : Kd.C k116 w A0_3 l0_3.length l0_3) (hc0_3 : l0_3.length ≤ c0_3) (hr0_5 : Kd.C k122 w A0_5 l0_5.length l0_5) (hc0_5 : l0_5.length ≤ c0_5) (hr0_6 : Kd.C k122 w A0_6 l0_6.length l0_6) (hc0_6 : l0_6.length ≤ c0_6) (hr0_7 : Kd.C (Kd.slice 122 k122) w A0_7 l0_7.length l0_7) (hc0_7 : l0_7.length ≤ c0_7) (h : spec_StmOK.f k a0_0 a0_1 l0_2 l0_3 a0_4 l0_5 l0_6 l0_7 = some r) :
    Calls Try.prog 78 #[.agg #[.int .i64 a0_0, .string a0_1, .slice A0_2 l0_2.length c0_2, .slice A0_3 l0_3.length c0_3, .string a0_4, .slice A0_5 l0_5.length c0_5, .slice A0_6 l0_6.length c0_6, .slice A0_7 l0_7.length c0_7]] w fun e w' => e = .returned (.bool r) ∧ Below w.heap.size w w' := by
  have hu100 := Try.underlying100; have hu114 := Try.underlying114; have hu116 := Try.underlying116; have HR0_2 := qK hr0_2; have HC0_2 := qK hc0_2; clear hr0_2 hc0_2; have HR0_3 := qK hr0_3; have HC0_3 := qK hc0_3; clear hr0_3 hc0_3; have HR0_5 := qK hr0_5; have HC0_5 := qK hc0_5; clear hr0_5 hc0_5; have HR0_6 := qK hr0_6; have HC0_6 := qK hc0_6; clear hr0_6 hc0_6; have HR0_7 := qK hr0_7; have HC0_7 := qK hc0_7; clear hr0_7 hc0_7; have HB := qK (Below.refl w.heap.size w); have H : ((spec_l4Name.f k a0_1).bind fun t154 => (if t154 = true then (if a0_0 = 1 then (if a0_0 = 2 then (if a0_0 = 3 then (if a0_0 = 5 then (spec_StmOK.j0 k a0_0 false a0_0 a0_1 l0_2 l0_3 a0_4 l0_5 l0_6 l0_7) else (spec_StmOK.j0 k a0_0 ((l0_7.length : Int) != 0) a0_0 a0_1 l0_2 l0_3 a0_4 l0_5 l0_6 l0_7)) else (if a0_4.toList = ([] : List UInt8) then (if (l0_5.length : Int) = 0 then (if a0_0 = 5 then (spec_StmOK.j0 k a0_0 false a0_0 a0_1 l0_2 l0_3 a0_4 l0_5 l0_6 l0_7) else (spec_StmOK.j0 k a0_0 ((l0_7.length : Int) != 0) a0_0 a0_1 l0_2 l0_3 a0_4 l0_5 l0_6 l0_7)) else (spec_StmOK.j0 k a0_0 true a0_0 a0_1 l0_2 l0_3 a0_4 l0_5 l0_6 l0_7)) else (spec_StmOK.j0 k a0_0 true a0_0 a0_1 l0_2 l0_3 a0_4 l0_5 l0_6 l0_7))) else (if (l0_3.length : Int) = 0 then (if a0_0 = 3 then (if a0_0 = 5 then (spec_StmOK.j0 k a0_0 false a0_0 a0_1 l0_2 l0_3 a0_4 l0_5 l0_6 l0_7) else (spec_StmOK.j0 k a0_0 ((l0_7.length : Int) != 0) a0_0 a0_1 l0_2 l0_3 a0_4 l0_5 l0_6 l0_7)) else (if a0_4.toList = ([] : List UInt8) then (if (l0_5.length : Int) = 0 then (if a0_0 = 5 then (spec_StmOK.j0 k a0_0 false a0_0 a0_1 l0_2 l0_3 a0_4 l0_5 l0_6 l0_7) else (spec_StmOK.j0 k a0_0 ((l0_7.length : Int) != 0) a0_0 a0_1 l0_2 l0_3 a0_4 l0_5 l0_6 l0_7)) else (spec_StmOK.j0 k a0_0 true a0_0 a0_1 l0_2 l0_3 a0_4 l0_5 l0_6 l0_7)) else (spec_StmOK.j0 k a0_0 true a0_0 a0_1 l0_2 l0_3 a0_4 l0_5 l0_6 l0_7))) else (spec_StmOK.j0 k a0_0 true a0_0 a0_1 l0_2 l0_3 a0_4 l0_5 l0_6 l0_7))) else (if (l0_2.length : Int) = 0 then (if a0_0 = 2 then (if a0_0 = 3 then (if a0_0 = 5 then (spec_StmOK.j0 k a0_0 false a0_0 a0_1 l0_2 l0_3 a0_4 l0_5 l0_6 l0_7) else (spec_StmOK.j0 k a0_0 ((l0_7.length : Int) != 0) a0_0 a0_1 l0_2 l0_3 a0_4 l0_5 l0_6 l0_7)) else (if a0_4.toList = ([] : List UInt8) then (if (l0_5.length : Int) = 0 then (if a0_0 = 5 then (spec_StmOK.j0 k a0_0 false a0_0 a0_1 l0_2 l0_3 a0_4 l0_5 l0_6 l0_7) else (spec_StmOK.j0 k a0_0 ((l0_7.length : Int) != 0) a0_0 a0_1 l0_2 l0_3 a0_4 l0_5 l0_6 l0_7)) else (spec_StmOK.j0 k a0_0 true a0_0 a0_1 l0_2 l0_3 a0_4 l0_5 l0_6 l0_7)) else (spec_StmOK.j0 k a0_0 true a0_0 a0_1 l0_2 l0_3 a0_4 l0_5 l0_6 l0_7))) else (if (l0_3.length : Int) = 0 then (if a0_0 = 3 then (if a0_0 = 5 then (spec_StmOK.j0 k a0_0 false a0_0 a0_1 l0_2 l0_3 a0_4 l0_5 l0_6 l0_7) else (spec_StmOK.j0 k a0_0 ((l0_7.length : Int) != 0) a0_0 a0_1 l0_2 l0_3 a0_4 l0_5 l0_6 l0_7)) else (if a0_4.toList = ([] : List UInt8) then (if (l0_5.length : Int) = 0 then (if a0_0 = 5 then (spec_StmOK.j0 k a0_0 false a0_0 a0_1 l0_2 l0_3 a0_4 l0_5 l0_6 l0_7) else (spec_StmOK.j0 k a0_0 ((l0_7.length : Int) != 0) a0_0 a0_1 l0_2 l0_3 a0_4 l0_5 l0_6 l0_7)) else (spec_StmOK.j0 k a0_0 true a0_0 a0_1 l0_2 l0_3 a0_4 l0_5 l0_6 l0_7)) else (spec_StmOK.j0 k a0_0 true a0_0 a0_1 l0_2 l0_3 a0_4 l0_5 l0_6 l0_7))) else (spec_StmOK.j0 k a0_0 true a0_0 a0_1 l0_2 l0_3 a0_4 l0_5 l0_6 l0_7))) else (spec_StmOK.j0 k a0_0 true a0_0 a0_1 l0_2 l0_3 a0_4 l0_5 l0_6 l0_7))) else (some false))) = some r := h; clear h; replace H := Option.bind_eq_some_iff.mp H; obtain ⟨t154, A20, H⟩ := H; have A2 := qK A20; clear A20; by_cases c3 : t154 = true
  · subst c3; rw [if_pos rfl] at H; have HC4 := qK H; clear H; go_enter Try.func78, Try.ntmps78; go_upto_region 4 with (first | ((with_reducible refine gds (N := 1) rfl ?_); (try (refine gate_guard (by rfl) ?_; dsimp only)); refine qbx 1 #[.int .i64 a0_0, .string a0_1, .slice A0_2 l0_2.length c0_2, .slice A0_3 l0_3.length c0_3, .string a0_4, .slice A0_5 l0_5.length c0_5, .slice A0_6 l0_6.length c0_6, .slice A0_7 l0_7.length c0_7] 100 ?_; intro gb153 hg w5 hbox hb; have BK153 := qK (hbox); have GW153 := qK ((qW : w.heap.size ≤ gb153)); have GE153 := GW153; replace HB := qHB HB hb; clear hb hbox hg; have hz6 := qz8 BK153.out) | ((with_reducible refine gcl (f := 91) rfl ?_); refine goesL_ (some 12) rfl rfl Try.func91 (by kernel_rfl) rfl #[.string a0_1] rfl qA ?_; (with_reducible refine (spec_l4Name.calls k a0_1 true _ A2.out).mono ?_); rintro e w7 ⟨rfl, hb⟩; refine ⟨_, rfl, ?_⟩; replace BK153 := qbb BK153 hb; replace HB := qHB HB hb; (try clear hb); (try clear hb2); (try clear hk); (try clear hi); have hz8 := qz8 BK153.out)); (try simp only [Act.put, List.setIfInBounds_toArray, List.set_cons_zero, List.set_cons_succ]); go_cut [58] (fun v58 wc => ∃ (kq : Nat) (x58_3 : Bool), v58 = .bool x58_3 ∧ Aside0 (spec_StmOK.j0 kq a0_0 x58_3 a0_0 a0_1 l0_2 l0_3 a0_4 l0_5 l0_6 l0_7 = some r) ∧ Aside0 (kq ≤ k) ∧ Aside0 (wc.heap[gb153]? = some (.cells #[.int .i64 a0_0, .string a0_1, (.slice A0_2 l0_2.length c0_2), (.slice A0_3 l0_3.length c0_3), .string a0_4, (.slice A0_5 l0_5.length c0_5), (.slice A0_6 l0_6.length c0_6), (.slice A0_7 l0_7.length c0_7)] 100 (0, 0))) ∧ Aside0 (Below w.heap.size w wc))
    case first =>
      have H := HC4.out; clear HC4; by_cases c9 : a0_0 = 1
      · rw [if_pos c9] at H; have c9b0 : (a0_0 == 1) = true := beq_iff_eq.mpr c9; have c9b1 : (a0_0 != 1) = false := bne_eq_false_iff_eq.mpr c9; clear c9; (first | rw [c9b0] | (simp only [i64_w, i32_w]; rw [c9b0]) | skip); by_cases c10 : a0_0 = 2
        · rw [if_pos c10] at H; have c10b0 : (a0_0 == 2) = true := beq_iff_eq.mpr c10; have c10b1 : (a0_0 != 2) = false := bne_eq_false_iff_eq.mpr c10; clear c10; by_cases c11 : a0_0 = 3
          · rw [if_pos c11] at H; have c11b0 : (a0_0 == 3) = true := beq_iff_eq.mpr c11; have c11b1 : (a0_0 != 3) = false := bne_eq_false_iff_eq.mpr c11; clear c11; by_cases c12 : a0_0 = 5
            · rw [if_pos c12] at H; have c12b0 : (a0_0 == 5) = true := beq_iff_eq.mpr c12; have c12b1 : (a0_0 != 5) = false := bne_eq_false_iff_eq.mpr c12; clear c12; have H' := qK H; clear H; go_wp2; go_meet
              case rel => exact ⟨_, (false), qS, H', ⟨by first | omega | exact Nat.le_refl _⟩, ⟨by (with_reducible repeat (first | refine bdN ?_ _ | refine bkD ?_ | refine bkA ?_ _)); exact BK153.out⟩, ⟨qB⟩⟩
            · rw [if_neg c12] at H; have c12b0 : (a0_0 == 5) = false := beq_eq_false_iff_ne.mpr c12; have c12b1 : (a0_0 != 5) = true := bne_iff_ne.mpr c12; have H' := qK H; clear H; obtain ⟨hcz13_0, hcz13_1, hcz13_2, hcz13_3, hcz13_4, hcz13_5, hcz13_6, hcz13_7⟩ := zC8 BK153.out; obtain ⟨hfz13_0, hfz13_1, hfz13_2, hfz13_3, hfz13_4, hfz13_5, hfz13_6, hfz13_7⟩ := zF8 BK153.out; go_wp2; go_meet
              case rel => exact ⟨_, (((l0_7.length : Int) != 0)), qS, H', ⟨by first | omega | exact Nat.le_refl _⟩, ⟨by (with_reducible repeat (first | refine bdN ?_ _ | refine bkD ?_ | refine bkA ?_ _)); exact BK153.out⟩, ⟨qB⟩⟩
          · rw [if_neg c11] at H; have c11b0 : (a0_0 == 3) = false := beq_eq_false_iff_ne.mpr c11; have c11b1 : (a0_0 != 3) = true := bne_iff_ne.mpr c11; by_cases c14 : a0_4.toList = ([] : List UInt8)
            · rw [if_pos c14] at H; have c14b0 : (a0_4.toList == ([] : List UInt8)) = true := beq_iff_eq.mpr c14; have c14b1 : (a0_4.toList != ([] : List UInt8)) = false := bne_eq_false_iff_eq.mpr c14; clear c14; by_cases c15 : (l0_5.length : Int) = 0
              · rw [if_pos c15] at H; have c15b0 : ((l0_5.length : Int) == 0) = true := beq_iff_eq.mpr c15; have c15b1 : ((l0_5.length : Int) != 0) = false := bne_eq_false_iff_eq.mpr c15; clear c15; by_cases c16 : a0_0 = 5
                · rw [if_pos c16] at H; have c16b0 : (a0_0 == 5) = true := beq_iff_eq.mpr c16; have c16b1 : (a0_0 != 5) = false := bne_eq_false_iff_eq.mpr c16; clear c16; have H' := qK H; clear H; obtain ⟨hcz17_0, hcz17_1, hcz17_2, hcz17_3, hcz17_4, hcz17_5, hcz17_6, hcz17_7⟩ := zC8 BK153.out; obtain ⟨hfz17_0, hfz17_1, hfz17_2, hfz17_3, hfz17_4, hfz17_5, hfz17_6, hfz17_7⟩ := zF8 BK153.out; go_wp2; go_meet
                  case rel => exact ⟨_, (false), qS, H', ⟨by first | omega | exact Nat.le_refl _⟩, ⟨by (with_reducible repeat (first | refine bdN ?_ _ | refine bkD ?_ | refine bkA ?_ _)); exact BK153.out⟩, ⟨qB⟩⟩
                · rw [if_neg c16] at H; have c16b0 : (a0_0 == 5) = false := beq_eq_false_iff_ne.mpr c16; have c16b1 : (a0_0 != 5) = true := bne_iff_ne.mpr c16; have H' := qK H; clear H; obtain ⟨hcz18_0, hcz18_1, hcz18_2, hcz18_3, hcz18_4, hcz18_5, hcz18_6, hcz18_7⟩ := zC8 BK153.out; obtain ⟨hfz18_0, hfz18_1, hfz18_2, hfz18_3, hfz18_4, hfz18_5, hfz18_6, hfz18_7⟩ := zF8 BK153.out; go_wp2; go_meet
                  case rel => exact ⟨_, (((l0_7.length : Int) != 0)), qS, H', ⟨by first | omega | exact Nat.le_refl _⟩, ⟨by (with_reducible repeat (first | refine bdN ?_ _ | refine bkD ?_ | refine bkA ?_ _)); exact BK153.out⟩, ⟨qB⟩⟩
              · rw [if_neg c15] at H; have c15b0 : ((l0_5.length : Int) == 0) = false := beq_eq_false_iff_ne.mpr c15; have c15b1 : ((l0_5.length : Int) != 0) = true := bne_iff_ne.mpr c15; have c15b2 : ¬ (l0_5 = []) := fun h_ => c15 (by rw [h_]; rfl); have H' := qK H; clear H; obtain ⟨hcz19_0, hcz19_1, hcz19_2, hcz19_3, hcz19_4, hcz19_5, hcz19_6, hcz19_7⟩ := zC8 BK153.out; obtain ⟨hfz19_0, hfz19_1, hfz19_2, hfz19_3, hfz19_4, hfz19_5, hfz19_6, hfz19_7⟩ := zF8 BK153.out; go_wp2; go_meet
                case rel => exact ⟨_, (true), qS, H', ⟨by first | omega | exact Nat.le_refl _⟩, ⟨by (with_reducible repeat (first | refine bdN ?_ _ | refine bkD ?_ | refine bkA ?_ _)); exact BK153.out⟩, ⟨qB⟩⟩
            · rw [if_neg c14] at H; have c14b0 : (a0_4.toList == ([] : List UInt8)) = false := beq_eq_false_iff_ne.mpr c14; have c14b1 : (a0_4.toList != ([] : List UInt8)) = true := bne_iff_ne.mpr c14; have H' := qK H; clear H; obtain ⟨hcz20_0, hcz20_1, hcz20_2, hcz20_3, hcz20_4, hcz20_5, hcz20_6, hcz20_7⟩ := zC8 BK153.out; obtain ⟨hfz20_0, hfz20_1, hfz20_2, hfz20_3, hfz20_4, hfz20_5, hfz20_6, hfz20_7⟩ := zF8 BK153.out; go_wp2; go_meet
              case rel => exact ⟨_, (true), qS, H', ⟨by first | omega | exact Nat.le_refl _⟩, ⟨by (with_reducible repeat (first | refine bdN ?_ _ | refine bkD ?_ | refine bkA ?_ _)); exact BK153.out⟩, ⟨qB⟩⟩
        · rw [if_neg c10] at H; have c10b0 : (a0_0 == 2) = false := beq_eq_false_iff_ne.mpr c10; have c10b1 : (a0_0 != 2) = true := bne_iff_ne.mpr c10; by_cases c21 : (l0_3.length : Int) = 0
          · rw [if_pos c21] at H; have c21b0 : ((l0_3.length : Int) == 0) = true := beq_iff_eq.mpr c21; have c21b1 : ((l0_3.length : Int) != 0) = false := bne_eq_false_iff_eq.mpr c21; clear c21; by_cases c22 : a0_0 = 3
            · rw [if_pos c22] at H; have c22b0 : (a0_0 == 3) = true := beq_iff_eq.mpr c22; have c22b1 : (a0_0 != 3) = false := bne_eq_false_iff_eq.mpr c22; clear c22; by_cases c23 : a0_0 = 5
              · rw [if_pos c23] at H; have c23b0 : (a0_0 == 5) = true := beq_iff_eq.mpr c23; have c23b1 : (a0_0 != 5) = false := bne_eq_false_iff_eq.mpr c23; clear c23; have H' := qK H; clear H; obtain ⟨hcz24_0, hcz24_1, hcz24_2, hcz24_3, hcz24_4, hcz24_5, hcz24_6, hcz24_7⟩ := zC8 BK153.out; obtain ⟨hfz24_0, hfz24_1, hfz24_2, hfz24_3, hfz24_4, hfz24_5, hfz24_6, hfz24_7⟩ := zF8 BK153.out; go_wp2; go_meet
                case rel => exact ⟨_, (false), qS, H', ⟨by first | omega | exact Nat.le_refl _⟩, ⟨by (with_reducible repeat (first | refine bdN ?_ _ | refine bkD ?_ | refine bkA ?_ _)); exact BK153.out⟩, ⟨qB⟩⟩
              · rw [if_neg c23] at H; have c23b0 : (a0_0 == 5) = false := beq_eq_false_iff_ne.mpr c23; have c23b1 : (a0_0 != 5) = true := bne_iff_ne.mpr c23; have H' := qK H; clear H; obtain ⟨hcz25_0, hcz25_1, hcz25_2, hcz25_3, hcz25_4, hcz25_5, hcz25_6, hcz25_7⟩ := zC8 BK153.out; obtain ⟨hfz25_0, hfz25_1, hfz25_2, hfz25_3, hfz25_4, hfz25_5, hfz25_6, hfz25_7⟩ := zF8 BK153.out; go_wp2; go_meet
                case rel => exact ⟨_, (((l0_7.length : Int) != 0)), qS, H', ⟨by first | omega | exact Nat.le_refl _⟩, ⟨by (with_reducible repeat (first | refine bdN ?_ _ | refine bkD ?_ | refine bkA ?_ _)); exact BK153.out⟩, ⟨qB⟩⟩
            · rw [if_neg c22] at H; have c22b0 : (a0_0 == 3) = false := beq_eq_false_iff_ne.mpr c22; have c22b1 : (a0_0 != 3) = true := bne_iff_ne.mpr c22; by_cases c26 : a0_4.toList = ([] : List UInt8)
              · rw [if_pos c26] at H; have c26b0 : (a0_4.toList == ([] : List UInt8)) = true := beq_iff_eq.mpr c26; have c26b1 : (a0_4.toList != ([] : List UInt8)) = false := bne_eq_false_iff_eq.mpr c26; clear c26; by_cases c27 : (l0_5.length : Int) = 0
                · rw [if_pos c27] at H; have c27b0 : ((l0_5.length : Int) == 0) = true := beq_iff_eq.mpr c27; have c27b1 : ((l0_5.length : Int) != 0) = false := bne_eq_false_iff_eq.mpr c27; clear c27; by_cases c28 : a0_0 = 5
                  · rw [if_pos c28] at H; have c28b0 : (a0_0 == 5) = true := beq_iff_eq.mpr c28; have c28b1 : (a0_0 != 5) = false := bne_eq_false_iff_eq.mpr c28; clear c28; have H' := qK H; clear H; obtain ⟨hcz29_0, hcz29_1, hcz29_2, hcz29_3, hcz29_4, hcz29_5, hcz29_6, hcz29_7⟩ := zC8 BK153.out; obtain ⟨hfz29_0, hfz29_1, hfz29_2, hfz29_3, hfz29_4, hfz29_5, hfz29_6, hfz29_7⟩ := zF8 BK153.out; go_wp2; go_meet
                    case rel => exact ⟨_, (false), qS, H', ⟨by first | omega | exact Nat.le_refl _⟩, ⟨by (with_reducible repeat (first | refine bdN ?_ _ | refine bkD ?_ | refine bkA ?_ _)); exact BK153.out⟩, ⟨qB⟩⟩
                  · rw [if_neg c28] at H; have c28b0 : (a0_0 == 5) = false := beq_eq_false_iff_ne.mpr c28; have c28b1 : (a0_0 != 5) = true := bne_iff_ne.mpr c28; have H' := qK H; clear H; obtain ⟨hcz30_0, hcz30_1, hcz30_2, hcz30_3, hcz30_4, hcz30_5, hcz30_6, hcz30_7⟩ := zC8 BK153.out; obtain ⟨hfz30_0, hfz30_1, hfz30_2, hfz30_3, hfz30_4, hfz30_5, hfz30_6, hfz30_7⟩ := zF8 BK153.out; go_wp2; go_meet
                    case rel => exact ⟨_, (((l0_7.length : Int) != 0)), qS, H', ⟨by first | omega | exact Nat.le_refl _⟩, ⟨by (with_reducible repeat (first | refine bdN ?_ _ | refine bkD ?_ | refine bkA ?_ _)); exact BK153.out⟩, ⟨qB⟩⟩
                · rw [if_neg c27] at H; have c27b0 : ((l0_5.length : Int) == 0) = false := beq_eq_false_iff_ne.mpr c27; have c27b1 : ((l0_5.length : Int) != 0) = true := bne_iff_ne.mpr c27; have c27b2 : ¬ (l0_5 = []) := fun h_ => c27 (by rw [h_]; rfl); have H' := qK H; clear H; obtain ⟨hcz31_0, hcz31_1, hcz31_2, hcz31_3, hcz31_4, hcz31_5, hcz31_6, hcz31_7⟩ := zC8 BK153.out; obtain ⟨hfz31_0, hfz31_1, hfz31_2, hfz31_3, hfz31_4, hfz31_5, hfz31_6, hfz31_7⟩ := zF8 BK153.out; go_wp2; go_meet
                  case rel => exact ⟨_, (true), qS, H', ⟨by first | omega | exact Nat.le_refl _⟩, ⟨by (with_reducible repeat (first | refine bdN ?_ _ | refine bkD ?_ | refine bkA ?_ _)); exact BK153.out⟩, ⟨qB⟩⟩
              · rw [if_neg c26] at H; have c26b0 : (a0_4.toList == ([] : List UInt8)) = false := beq_eq_false_iff_ne.mpr c26; have c26b1 : (a0_4.toList != ([] : List UInt8)) = true := bne_iff_ne.mpr c26; have H' := qK H; clear H; obtain ⟨hcz32_0, hcz32_1, hcz32_2, hcz32_3, hcz32_4, hcz32_5, hcz32_6, hcz32_7⟩ := zC8 BK153.out; obtain ⟨hfz32_0, hfz32_1, hfz32_2, hfz32_3, hfz32_4, hfz32_5, hfz32_6, hfz32_7⟩ := zF8 BK153.out; go_wp2; go_meet
                case rel => exact ⟨_, (true), qS, H', ⟨by first | omega | exact Nat.le_refl _⟩, ⟨by (with_reducible repeat (first | refine bdN ?_ _ | refine bkD ?_ | refine bkA ?_ _)); exact BK153.out⟩, ⟨qB⟩⟩
          · rw [if_neg c21] at H; have c21b0 : ((l0_3.length : Int) == 0) = false := beq_eq_false_iff_ne.mpr c21; have c21b1 : ((l0_3.length : Int) != 0) = true := bne_iff_ne.mpr c21; have c21b2 : ¬ (l0_3 = []) := fun h_ => c21 (by rw [h_]; rfl); have H' := qK H; clear H; obtain ⟨hcz33_0, hcz33_1, hcz33_2, hcz33_3, hcz33_4, hcz33_5, hcz33_6, hcz33_7⟩ := zC8 BK153.out; obtain ⟨hfz33_0, hfz33_1, hfz33_2, hfz33_3, hfz33_4, hfz33_5, hfz33_6, hfz33_7⟩ := zF8 BK153.out; go_wp2; go_meet
            case rel => exact ⟨_, (true), qS, H', ⟨by first | omega | exact Nat.le_refl _⟩, ⟨by (with_reducible repeat (first | refine bdN ?_ _ | refine bkD ?_ | refine bkA ?_ _)); exact BK153.out⟩, ⟨qB⟩⟩
      · rw [if_neg c9] at H; have c9b0 : (a0_0 == 1) = false := beq_eq_false_iff_ne.mpr c9; have c9b1 : (a0_0 != 1) = true := bne_iff_ne.mpr c9; (first | rw [c9b0] | (simp only [i64_w, i32_w]; rw [c9b0]) | skip); by_cases c34 : (l0_2.length : Int) = 0
        · rw [if_pos c34] at H; have c34b0 : ((l0_2.length : Int) == 0) = true := beq_iff_eq.mpr c34; have c34b1 : ((l0_2.length : Int) != 0) = false := bne_eq_false_iff_eq.mpr c34; clear c34; by_cases c35 : a0_0 = 2
          · rw [if_pos c35] at H; have c35b0 : (a0_0 == 2) = true := beq_iff_eq.mpr c35; have c35b1 : (a0_0 != 2) = false := bne_eq_false_iff_eq.mpr c35; clear c35; by_cases c36 : a0_0 = 3
            · rw [if_pos c36] at H; have c36b0 : (a0_0 == 3) = true := beq_iff_eq.mpr c36; have c36b1 : (a0_0 != 3) = false := bne_eq_false_iff_eq.mpr c36; clear c36; by_cases c37 : a0_0 = 5
              · rw [if_pos c37] at H; have c37b0 : (a0_0 == 5) = true := beq_iff_eq.mpr c37; have c37b1 : (a0_0 != 5) = false := bne_eq_false_iff_eq.mpr c37; clear c37; have H' := qK H; clear H; obtain ⟨hcz38_0, hcz38_1, hcz38_2, hcz38_3, hcz38_4, hcz38_5, hcz38_6, hcz38_7⟩ := zC8 BK153.out; obtain ⟨hfz38_0, hfz38_1, hfz38_2, hfz38_3, hfz38_4, hfz38_5, hfz38_6, hfz38_7⟩ := zF8 BK153.out; go_wp2; go_meet
                case rel => exact ⟨_, (false), qS, H', ⟨by first | omega | exact Nat.le_refl _⟩, ⟨by (with_reducible repeat (first | refine bdN ?_ _ | refine bkD ?_ | refine bkA ?_ _)); exact BK153.out⟩, ⟨qB⟩⟩
              · rw [if_neg c37] at H; have c37b0 : (a0_0 == 5) = false := beq_eq_false_iff_ne.mpr c37; have c37b1 : (a0_0 != 5) = true := bne_iff_ne.mpr c37; have H' := qK H; clear H; obtain ⟨hcz39_0, hcz39_1, hcz39_2, hcz39_3, hcz39_4, hcz39_5, hcz39_6, hcz39_7⟩ := zC8 BK153.out; obtain ⟨hfz39_0, hfz39_1, hfz39_2, hfz39_3, hfz39_4, hfz39_5, hfz39_6, hfz39_7⟩ := zF8 BK153.out; go_wp2; go_meet
                case rel => exact ⟨_, (((l0_7.length : Int) != 0)), qS, H', ⟨by first | omega | exact Nat.le_refl _⟩, ⟨by (with_reducible repeat (first | refine bdN ?_ _ | refine bkD ?_ | refine bkA ?_ _)); exact BK153.out⟩, ⟨qB⟩⟩
            · rw [if_neg c36] at H; have c36b0 : (a0_0 == 3) = false := beq_eq_false_iff_ne.mpr c36; have c36b1 : (a0_0 != 3) = true := bne_iff_ne.mpr c36; by_cases c40 : a0_4.toList = ([] : List UInt8)
              · rw [if_pos c40] at H; have c40b0 : (a0_4.toList == ([] : List UInt8)) = true := beq_iff_eq.mpr c40; have c40b1 : (a0_4.toList != ([] : List UInt8)) = false := bne_eq_false_iff_eq.mpr c40; clear c40; by_cases c41 : (l0_5.length : Int) = 0
                · rw [if_pos c41] at H; have c41b0 : ((l0_5.length : Int) == 0) = true := beq_iff_eq.mpr c41; have c41b1 : ((l0_5.length : Int) != 0) = false := bne_eq_false_iff_eq.mpr c41; clear c41; by_cases c42 : a0_0 = 5
                  · rw [if_pos c42] at H; have c42b0 : (a0_0 == 5) = true := beq_iff_eq.mpr c42; have c42b1 : (a0_0 != 5) = false := bne_eq_false_iff_eq.mpr c42; clear c42; have H' := qK H; clear H; obtain ⟨hcz43_0, hcz43_1, hcz43_2, hcz43_3, hcz43_4, hcz43_5, hcz43_6, hcz43_7⟩ := zC8 BK153.out; obtain ⟨hfz43_0, hfz43_1, hfz43_2, hfz43_3, hfz43_4, hfz43_5, hfz43_6, hfz43_7⟩ := zF8 BK153.out; go_wp2; go_meet
                    case rel => exact ⟨_, (false), qS, H', ⟨by first | omega | exact Nat.le_refl _⟩, ⟨by (with_reducible repeat (first | refine bdN ?_ _ | refine bkD ?_ | refine bkA ?_ _)); exact BK153.out⟩, ⟨qB⟩⟩
                  · rw [if_neg c42] at H; have c42b0 : (a0_0 == 5) = false := beq_eq_false_iff_ne.mpr c42; have c42b1 : (a0_0 != 5) = true := bne_iff_ne.mpr c42; have H' := qK H; clear H; obtain ⟨hcz44_0, hcz44_1, hcz44_2, hcz44_3, hcz44_4, hcz44_5, hcz44_6, hcz44_7⟩ := zC8 BK153.out; obtain ⟨hfz44_0, hfz44_1, hfz44_2, hfz44_3, hfz44_4, hfz44_5, hfz44_6, hfz44_7⟩ := zF8 BK153.out; go_wp2; go_meet
                    case rel => exact ⟨_, (((l0_7.length : Int) != 0)), qS, H', ⟨by first | omega | exact Nat.le_refl _⟩, ⟨by (with_reducible repeat (first | refine bdN ?_ _ | refine bkD ?_ | refine bkA ?_ _)); exact BK153.out⟩, ⟨qB⟩⟩
                · rw [if_neg c41] at H; have c41b0 : ((l0_5.length : Int) == 0) = false := beq_eq_false_iff_ne.mpr c41; have c41b1 : ((l0_5.length : Int) != 0) = true := bne_iff_ne.mpr c41; have c41b2 : ¬ (l0_5 = []) := fun h_ => c41 (by rw [h_]; rfl); have H' := qK H; clear H; obtain ⟨hcz45_0, hcz45_1, hcz45_2, hcz45_3, hcz45_4, hcz45_5, hcz45_6, hcz45_7⟩ := zC8 BK153.out; obtain ⟨hfz45_0, hfz45_1, hfz45_2, hfz45_3, hfz45_4, hfz45_5, hfz45_6, hfz45_7⟩ := zF8 BK153.out; go_wp2; go_meet
                  case rel => exact ⟨_, (true), qS, H', ⟨by first | omega | exact Nat.le_refl _⟩, ⟨by (with_reducible repeat (first | refine bdN ?_ _ | refine bkD ?_ | refine bkA ?_ _)); exact BK153.out⟩, ⟨qB⟩⟩
              · rw [if_neg c40] at H; have c40b0 : (a0_4.toList == ([] : List UInt8)) = false := beq_eq_false_iff_ne.mpr c40; have c40b1 : (a0_4.toList != ([] : List UInt8)) = true := bne_iff_ne.mpr c40; have H' := qK H; clear H; obtain ⟨hcz46_0, hcz46_1, hcz46_2, hcz46_3, hcz46_4, hcz46_5, hcz46_6, hcz46_7⟩ := zC8 BK153.out; obtain ⟨hfz46_0, hfz46_1, hfz46_2, hfz46_3, hfz46_4, hfz46_5, hfz46_6, hfz46_7⟩ := zF8 BK153.out; go_wp2; go_meet
                case rel => exact ⟨_, (true), qS, H', ⟨by first | omega | exact Nat.le_refl _⟩, ⟨by (with_reducible repeat (first | refine bdN ?_ _ | refine bkD ?_ | refine bkA ?_ _)); exact BK153.out⟩, ⟨qB⟩⟩
          · rw [if_neg c35] at H; have c35b0 : (a0_0 == 2) = false := beq_eq_false_iff_ne.mpr c35; have c35b1 : (a0_0 != 2) = true := bne_iff_ne.mpr c35; by_cases c47 : (l0_3.length : Int) = 0
            · rw [if_pos c47] at H; have c47b0 : ((l0_3.length : Int) == 0) = true := beq_iff_eq.mpr c47; have c47b1 : ((l0_3.length : Int) != 0) = false := bne_eq_false_iff_eq.mpr c47; clear c47; by_cases c48 : a0_0 = 3
              · rw [if_pos c48] at H; have c48b0 : (a0_0 == 3) = true := beq_iff_eq.mpr c48; have c48b1 : (a0_0 != 3) = false := bne_eq_false_iff_eq.mpr c48; clear c48; by_cases c49 : a0_0 = 5
                · rw [if_pos c49] at H; have c49b0 : (a0_0 == 5) = true := beq_iff_eq.mpr c49; have c49b1 : (a0_0 != 5) = false := bne_eq_false_iff_eq.mpr c49; clear c49; have H' := qK H; clear H; obtain ⟨hcz50_0, hcz50_1, hcz50_2, hcz50_3, hcz50_4, hcz50_5, hcz50_6, hcz50_7⟩ := zC8 BK153.out; obtain ⟨hfz50_0, hfz50_1, hfz50_2, hfz50_3, hfz50_4, hfz50_5, hfz50_6, hfz50_7⟩ := zF8 BK153.out; go_wp2; go_meet
                  case rel => exact ⟨_, (false), qS, H', ⟨by first | omega | exact Nat.le_refl _⟩, ⟨by (with_reducible repeat (first | refine bdN ?_ _ | refine bkD ?_ | refine bkA ?_ _)); exact BK153.out⟩, ⟨qB⟩⟩
                · rw [if_neg c49] at H; have c49b0 : (a0_0 == 5) = false := beq_eq_false_iff_ne.mpr c49; have c49b1 : (a0_0 != 5) = true := bne_iff_ne.mpr c49; have H' := qK H; clear H; obtain ⟨hcz51_0, hcz51_1, hcz51_2, hcz51_3, hcz51_4, hcz51_5, hcz51_6, hcz51_7⟩ := zC8 BK153.out; obtain ⟨hfz51_0, hfz51_1, hfz51_2, hfz51_3, hfz51_4, hfz51_5, hfz51_6, hfz51_7⟩ := zF8 BK153.out; go_wp2; go_meet
                  case rel => exact ⟨_, (((l0_7.length : Int) != 0)), qS, H', ⟨by first | omega | exact Nat.le_refl _⟩, ⟨by (with_reducible repeat (first | refine bdN ?_ _ | refine bkD ?_ | refine bkA ?_ _)); exact BK153.out⟩, ⟨qB⟩⟩
              · rw [if_neg c48] at H; have c48b0 : (a0_0 == 3) = false := beq_eq_false_iff_ne.mpr c48; have c48b1 : (a0_0 != 3) = true := bne_iff_ne.mpr c48; by_cases c52 : a0_4.toList = ([] : List UInt8)
                · rw [if_pos c52] at H; have c52b0 : (a0_4.toList == ([] : List UInt8)) = true := beq_iff_eq.mpr c52; have c52b1 : (a0_4.toList != ([] : List UInt8)) = false := bne_eq_false_iff_eq.mpr c52; clear c52; by_cases c53 : (l0_5.length : Int) = 0
                  · rw [if_pos c53] at H; have c53b0 : ((l0_5.length : Int) == 0) = true := beq_iff_eq.mpr c53; have c53b1 : ((l0_5.length : Int) != 0) = false := bne_eq_false_iff_eq.mpr c53; clear c53; by_cases c54 : a0_0 = 5
                    · rw [if_pos c54] at H; have c54b0 : (a0_0 == 5) = true := beq_iff_eq.mpr c54; have c54b1 : (a0_0 != 5) = false := bne_eq_false_iff_eq.mpr c54; clear c54; have H' := qK H; clear H; obtain ⟨hcz55_0, hcz55_1, hcz55_2, hcz55_3, hcz55_4, hcz55_5, hcz55_6, hcz55_7⟩ := zC8 BK153.out; obtain ⟨hfz55_0, hfz55_1, hfz55_2, hfz55_3, hfz55_4, hfz55_5, hfz55_6, hfz55_7⟩ := zF8 BK153.out; go_wp2; go_meet
                      case rel => exact ⟨_, (false), qS, H', ⟨by first | omega | exact Nat.le_refl _⟩, ⟨by (with_reducible repeat (first | refine bdN ?_ _ | refine bkD ?_ | refine bkA ?_ _)); exact BK153.out⟩, ⟨qB⟩⟩
                    · rw [if_neg c54] at H; have c54b0 : (a0_0 == 5) = false := beq_eq_false_iff_ne.mpr c54; have c54b1 : (a0_0 != 5) = true := bne_iff_ne.mpr c54; have H' := qK H; clear H; obtain ⟨hcz56_0, hcz56_1, hcz56_2, hcz56_3, hcz56_4, hcz56_5, hcz56_6, hcz56_7⟩ := zC8 BK153.out; obtain ⟨hfz56_0, hfz56_1, hfz56_2, hfz56_3, hfz56_4, hfz56_5, hfz56_6, hfz56_7⟩ := zF8 BK153.out; go_wp2; go_meet
                      case rel => exact ⟨_, (((l0_7.length : Int) != 0)), qS, H', ⟨by first | omega | exact Nat.le_refl _⟩, ⟨by (with_reducible repeat (first | refine bdN ?_ _ | refine bkD ?_ | refine bkA ?_ _)); exact BK153.out⟩, ⟨qB⟩⟩
                  · rw [if_neg c53] at H; have c53b0 : ((l0_5.length : Int) == 0) = false := beq_eq_false_iff_ne.mpr c53; have c53b1 : ((l0_5.length : Int) != 0) = true := bne_iff_ne.mpr c53; have c53b2 : ¬ (l0_5 = []) := fun h_ => c53 (by rw [h_]; rfl); have H' := qK H; clear H; obtain ⟨hcz57_0, hcz57_1, hcz57_2, hcz57_3, hcz57_4, hcz57_5, hcz57_6, hcz57_7⟩ := zC8 BK153.out; obtain ⟨hfz57_0, hfz57_1, hfz57_2, hfz57_3, hfz57_4, hfz57_5, hfz57_6, hfz57_7⟩ := zF8 BK153.out; go_wp2; go_meet
                    case rel => exact ⟨_, (true), qS, H', ⟨by first | omega | exact Nat.le_refl _⟩, ⟨by (with_reducible repeat (first | refine bdN ?_ _ | refine bkD ?_ | refine bkA ?_ _)); exact BK153.out⟩, ⟨qB⟩⟩
                · rw [if_neg c52] at H; have c52b0 : (a0_4.toList == ([] : List UInt8)) = false := beq_eq_false_iff_ne.mpr c52; have c52b1 : (a0_4.toList != ([] : List UInt8)) = true := bne_iff_ne.mpr c52; have H' := qK H; clear H; obtain ⟨hcz58_0, hcz58_1, hcz58_2, hcz58_3, hcz58_4, hcz58_5, hcz58_6, hcz58_7⟩ := zC8 BK153.out; obtain ⟨hfz58_0, hfz58_1, hfz58_2, hfz58_3, hfz58_4, hfz58_5, hfz58_6, hfz58_7⟩ := zF8 BK153.out; go_wp2; go_meet
                  case rel => exact ⟨_, (true), qS, H', ⟨by first | omega | exact Nat.le_refl _⟩, ⟨by (with_reducible repeat (first | refine bdN ?_ _ | refine bkD ?_ | refine bkA ?_ _)); exact BK153.out⟩, ⟨qB⟩⟩
            · rw [if_neg c47] at H; have c47b0 : ((l0_3.length : Int) == 0) = false := beq_eq_false_iff_ne.mpr c47; have c47b1 : ((l0_3.length : Int) != 0) = true := bne_iff_ne.mpr c47; have c47b2 : ¬ (l0_3 = []) := fun h_ => c47 (by rw [h_]; rfl); have H' := qK H; clear H; obtain ⟨hcz59_0, hcz59_1, hcz59_2, hcz59_3, hcz59_4, hcz59_5, hcz59_6, hcz59_7⟩ := zC8 BK153.out; obtain ⟨hfz59_0, hfz59_1, hfz59_2, hfz59_3, hfz59_4, hfz59_5, hfz59_6, hfz59_7⟩ := zF8 BK153.out; go_wp2; go_meet
              case rel => exact ⟨_, (true), qS, H', ⟨by first | omega | exact Nat.le_refl _⟩, ⟨by (with_reducible repeat (first | refine bdN ?_ _ | refine bkD ?_ | refine bkA ?_ _)); exact BK153.out⟩, ⟨qB⟩⟩
        · rw [if_neg c34] at H; have c34b0 : ((l0_2.length : Int) == 0) = false := beq_eq_false_iff_ne.mpr c34; have c34b1 : ((l0_2.length : Int) != 0) = true := bne_iff_ne.mpr c34; have c34b2 : ¬ (l0_2 = []) := fun h_ => c34 (by rw [h_]; rfl); have H' := qK H; clear H; obtain ⟨hcz60_0, hcz60_1, hcz60_2, hcz60_3, hcz60_4, hcz60_5, hcz60_6, hcz60_7⟩ := zC8 BK153.out; obtain ⟨hfz60_0, hfz60_1, hfz60_2, hfz60_3, hfz60_4, hfz60_5, hfz60_6, hfz60_7⟩ := zF8 BK153.out; go_wp2; go_meet
          case rel => exact ⟨_, (true), qS, H', ⟨by first | omega | exact Nat.le_refl _⟩, ⟨by (with_reducible repeat (first | refine bdN ?_ _ | refine bkD ?_ | refine bkA ?_ _)); exact BK153.out⟩, ⟨qB⟩⟩
    case rest =>
      clear HC4; (try clear c2); (try clear p2); (try clear c3); (try clear c4); (try clear c5); (try clear c9); (try clear c9b0); (try clear c9b1); (try clear c21); (try clear c21b0); (try clear c21b1); (try clear c21b2); (try clear c22); (try clear c22b0); (try clear c22b1); (try clear c23); (try clear c23b0); (try clear c23b1); (try clear c26); (try clear c26b0); (try clear c26b1); (try clear c27); (try clear c27b0); (try clear c27b1); (try clear c27b2); (try clear c28); (try clear c28b0); (try clear c28b1); (try clear c34); (try clear c34b0); (try clear c34b1); (try clear c34b2); (try clear c35); (try clear c35b0); (try clear c35b1); (try clear c36); (try clear c36b0); (try clear c36b1); (try clear c37); (try clear c37b0); (try clear c37b1); (try clear c40); (try clear c40b0); (try clear c40b1); (try clear c41); (try clear c41b0); (try clear c41b1); (try clear c41b2); (try clear c42); (try clear c42b0); (try clear c42b1); (try clear c47); (try clear c47b0); (try clear c47b1); (try clear c47b2); (try clear c48); (try clear c48b0); (try clear c48b1); (try clear c49); (try clear c49b0); (try clear c49b1); (try clear c52); (try clear c52b0); (try clear c52b1); (try clear c53); (try clear c53b0); (try clear c53b1); (try clear c53b2); (try clear c54); (try clear c54b0); (try clear c54b1); (try clear hcz24_0); (try clear hcz24_1); (try clear hcz24_2); (try clear hcz24_3); (try clear hcz24_4); (try clear hcz24_5); (try clear hcz24_6); (try clear hcz24_7); (try clear hcz25_0); (try clear hcz25_1); (try clear hcz25_2); (try clear hcz25_3); (try clear hcz25_4); (try clear hcz25_5); (try clear hcz25_6); (try clear hcz25_7); (try clear hcz29_0); (try clear hcz29_1); (try clear hcz29_2); (try clear hcz29_3); (try clear hcz29_4); (try clear hcz29_5); (try clear hcz29_6); (try clear hcz29_7); (try clear hcz30_0); (try clear hcz30_1); (try clear hcz30_2); (try clear hcz30_3); (try clear hcz30_4); (try clear hcz30_5); (try clear hcz30_6); (try clear hcz30_7); (try clear hcz31_0); (try clear hcz31_1); (try clear hcz31_2); (try clear hcz31_3); (try clear hcz31_4); (try clear hcz31_5); (try clear hcz31_6); (try clear hcz31_7); (try clear hcz32_0); (try clear hcz32_1); (try clear hcz32_2); (try clear hcz32_3); (try clear hcz32_4); (try clear hcz32_5); (try clear hcz32_6); (try clear hcz32_7); (try clear hcz33_0); (try clear hcz33_1); (try clear hcz33_2); (try clear hcz33_3); (try clear hcz33_4); (try clear hcz33_5); (try clear hcz33_6); (try clear hcz33_7); (try clear hcz38_0); (try clear hcz38_1); (try clear hcz38_2); (try clear hcz38_3); (try clear hcz38_4); (try clear hcz38_5); (try clear hcz38_6); (try clear hcz38_7); (try clear hcz39_0); (try clear hcz39_1); (try clear hcz39_2); (try clear hcz39_3); (try clear hcz39_4); (try clear hcz39_5); (try clear hcz39_6); (try clear hcz39_7); (try clear hcz43_0); (try clear hcz43_1); (try clear hcz43_2); (try clear hcz43_3); (try clear hcz43_4); (try clear hcz43_5); (try clear hcz43_6); (try clear hcz43_7); (try clear hcz44_0); (try clear hcz44_1); (try clear hcz44_2); (try clear hcz44_3); (try clear hcz44_4); (try clear hcz44_5); (try clear hcz44_6); (try clear hcz44_7); (try clear hcz45_0); (try clear hcz45_1); (try clear hcz45_2); (try clear hcz45_3); (try clear hcz45_4); (try clear hcz45_5); (try clear hcz45_6); (try clear hcz45_7); (try clear hcz46_0); (try clear hcz46_1); (try clear hcz46_2); (try clear hcz46_3); (try clear hcz46_4); (try clear hcz46_5); (try clear hcz46_6); (try clear hcz46_7); (try clear hcz50_0); (try clear hcz50_1); (try clear hcz50_2); (try clear hcz50_3); (try clear hcz50_4); (try clear hcz50_5); (try clear hcz50_6); (try clear hcz50_7); (try clear hcz51_0); (try clear hcz51_1); (try clear hcz51_2); (try clear hcz51_3); (try clear hcz51_4); (try clear hcz51_5); (try clear hcz51_6); (try clear hcz51_7); (try clear hcz55_0); (try clear hcz55_1); (try clear hcz55_2); (try clear hcz55_3); (try clear hcz55_4); (try clear hcz55_5); (try clear hcz55_6); (try clear hcz55_7); (try clear hcz56_0); (try clear hcz56_1); (try clear hcz56_2); (try clear hcz56_3); (try clear hcz56_4); (try clear hcz56_5); (try clear hcz56_6); (try clear hcz56_7); (try clear hcz57_0); (try clear hcz57_1); (try clear hcz57_2); (try clear hcz57_3); (try clear hcz57_4); (try clear hcz57_5); (try clear hcz57_6); (try clear hcz57_7); (try clear hcz58_0); (try clear hcz58_1); (try clear hcz58_2); (try clear hcz58_3); (try clear hcz58_4); (try clear hcz58_5); (try clear hcz58_6); (try clear hcz58_7); (try clear hcz59_0); (try clear hcz59_1); (try clear hcz59_2); (try clear hcz59_3); (try clear hcz59_4); (try clear hcz59_5); (try clear hcz59_6); (try clear hcz59_7); (try clear hcz60_0); (try clear hcz60_1); (try clear hcz60_2); (try clear hcz60_3); (try clear hcz60_4); (try clear hcz60_5); (try clear hcz60_6); (try clear hcz60_7); (try clear hfz24_0); (try clear hfz24_1); (try clear hfz24_2); (try clear hfz24_3); (try clear hfz24_4); (try clear hfz24_5); (try clear hfz24_6); (try clear hfz24_7); (try clear hfz25_0); (try clear hfz25_1); (try clear hfz25_2); (try clear hfz25_3); (try clear hfz25_4); (try clear hfz25_5); (try clear hfz25_6); (try clear hfz25_7); (try clear hfz29_0); (try clear hfz29_1); (try clear hfz29_2); (try clear hfz29_3); (try clear hfz29_4); (try clear hfz29_5); (try clear hfz29_6); (try clear hfz29_7); (try clear hfz30_0); (try clear hfz30_1); (try clear hfz30_2); (try clear hfz30_3); (try clear hfz30_4); (try clear hfz30_5); (try clear hfz30_6); (try clear hfz30_7); (try clear hfz31_0); (try clear hfz31_1); (try clear hfz31_2); (try clear hfz31_3); (try clear hfz31_4); (try clear hfz31_5); (try clear hfz31_6); (try clear hfz31_7); (try clear hfz32_0); (try clear hfz32_1); (try clear hfz32_2); (try clear hfz32_3); (try clear hfz32_4); (try clear hfz32_5); (try clear hfz32_6); (try clear hfz32_7); (try clear hfz33_0); (try clear hfz33_1); (try clear hfz33_2); (try clear hfz33_3); (try clear hfz33_4); (try clear hfz33_5); (try clear hfz33_6); (try clear hfz33_7); (try clear hfz38_0); (try clear hfz38_1); (try clear hfz38_2); (try clear hfz38_3); (try clear hfz38_4); (try clear hfz38_5); (try clear hfz38_6); (try clear hfz38_7); (try clear hfz39_0); (try clear hfz39_1); (try clear hfz39_2); (try clear hfz39_3); (try clear hfz39_4); (try clear hfz39_5); (try clear hfz39_6); (try clear hfz39_7); (try clear hfz43_0); (try clear hfz43_1); (try clear hfz43_2); (try clear hfz43_3); (try clear hfz43_4); (try clear hfz43_5); (try clear hfz43_6); (try clear hfz43_7); (try clear hfz44_0); (try clear hfz44_1); (try clear hfz44_2); (try clear hfz44_3); (try clear hfz44_4); (try clear hfz44_5); (try clear hfz44_6); (try clear hfz44_7); (try clear hfz45_0); (try clear hfz45_1); (try clear hfz45_2); (try clear hfz45_3); (try clear hfz45_4); (try clear hfz45_5); (try clear hfz45_6); (try clear hfz45_7); (try clear hfz46_0); (try clear hfz46_1); (try clear hfz46_2); (try clear hfz46_3); (try clear hfz46_4); (try clear hfz46_5); (try clear hfz46_6); (try clear hfz46_7); (try clear hfz50_0); (try clear hfz50_1); (try clear hfz50_2); (try clear hfz50_3); (try clear hfz50_4); (try clear hfz50_5); (try clear hfz50_6); (try clear hfz50_7); (try clear hfz51_0); (try clear hfz51_1); (try clear hfz51_2); (try clear hfz51_3); (try clear hfz51_4); (try clear hfz51_5); (try clear hfz51_6); (try clear hfz51_7); (try clear hfz55_0); (try clear hfz55_1); (try clear hfz55_2); (try clear hfz55_3); (try clear hfz55_4); (try clear hfz55_5); (try clear hfz55_6); (try clear hfz55_7); (try clear hfz56_0); (try clear hfz56_1); (try clear hfz56_2); (try clear hfz56_3); (try clear hfz56_4); (try clear hfz56_5); (try clear hfz56_6); (try clear hfz56_7); (try clear hfz57_0); (try clear hfz57_1); (try clear hfz57_2); (try clear hfz57_3); (try clear hfz57_4); (try clear hfz57_5); (try clear hfz57_6); (try clear hfz57_7); (try clear hfz58_0); (try clear hfz58_1); (try clear hfz58_2); (try clear hfz58_3); (try clear hfz58_4); (try clear hfz58_5); (try clear hfz58_6); (try clear hfz58_7); (try clear hfz59_0); (try clear hfz59_1); (try clear hfz59_2); (try clear hfz59_3); (try clear hfz59_4); (try clear hfz59_5); (try clear hfz59_6); (try clear hfz59_7); (try clear hfz60_0); (try clear hfz60_1); (try clear hfz60_2); (try clear hfz60_3); (try clear hfz60_4); (try clear hfz60_5); (try clear hfz60_6); (try clear hfz60_7); obtain ⟨kq, x58_3, rfl, HA, HJ3, BK153, HB⟩ := hcut
      cases kq with
      | zero => exact absurd HA.out (by simp [spec_StmOK.j0])
      | succ kj3 =>
        have H := HA.out; clear HA; simp only [spec_StmOK.j0] at H; by_cases c61 : x58_3 = true
        · subst c61; rw [if_pos rfl] at H; obtain rfl := Option.some.inj H; go_wp2; go_ret; exact ⟨qR, qB⟩
        · replace c61 := Bool.eq_false_iff.mpr c61; subst c61; rw [if_neg qff] at H; have HC62 := qK H; clear H; go_upto_region 6 with (fail); go_cut [66] (fun v66 wc => ∃ (kq : Nat) (x66_61 : Bool), v66 = .bool x66_61 ∧ Aside0 (spec_StmOK.j1 kq a0_0 x66_61 a0_0 a0_1 l0_2 l0_3 a0_4 l0_5 l0_6 l0_7 = some r) ∧ Aside0 (kq ≤ kj3) ∧ Aside0 (wc.heap[gb153]? = some (.cells #[.int .i64 a0_0, .string a0_1, (.slice A0_2 l0_2.length c0_2), (.slice A0_3 l0_3.length c0_3), .string a0_4, (.slice A0_5 l0_5.length c0_5), (.slice A0_6 l0_6.length c0_6), (.slice A0_7 l0_7.length c0_7)] 100 (0, 0))) ∧ Aside0 (Below w.heap.size w wc))
          case first =>
            have H := HC62.out; clear HC62; by_cases c63 : a0_0 < 3
            · rw [if_pos c63] at H; have c63b0 : decide (a0_0 < 3) = true := decide_eq_true c63; clear c63; (first | rw [c63b0] | (simp only [i64_w, i32_w]; rw [c63b0]) | skip); have H' := qK H; clear H; obtain ⟨hcz64_0, hcz64_1, hcz64_2, hcz64_3, hcz64_4, hcz64_5, hcz64_6, hcz64_7⟩ := zC8 BK153.out; obtain ⟨hfz64_0, hfz64_1, hfz64_2, hfz64_3, hfz64_4, hfz64_5, hfz64_6, hfz64_7⟩ := zF8 BK153.out; go_wp2; go_meet
              case rel => exact ⟨_, (((l0_6.length : Int) != 0)), qS, H', ⟨by have := HJ3.out; first | omega | exact Nat.le_refl _⟩, ⟨by (with_reducible repeat (first | refine bdN ?_ _ | refine bkD ?_ | refine bkA ?_ _)); exact BK153.out⟩, ⟨qB⟩⟩
            · rw [if_neg c63] at H; have c63b0 : decide (a0_0 < 3) = false := decide_eq_false c63; clear c63; (first | rw [c63b0] | (simp only [i64_w, i32_w]; rw [c63b0]) | skip); have H' := qK H; clear H; go_wp2; go_meet
              case rel => exact ⟨_, (false), qS, H', ⟨by have := HJ3.out; first | omega | exact Nat.le_refl _⟩, ⟨by (with_reducible repeat (first | refine bdN ?_ _ | refine bkD ?_ | refine bkA ?_ _)); exact BK153.out⟩, ⟨qB⟩⟩
          case rest =>
            clear HC62; (try clear c2); (try clear p2); (try clear c3); (try clear c4); (try clear c5); (try clear c6); (try clear c9); (try clear c9b0); (try clear c9b1); (try clear c21); (try clear c21b0); (try clear c21b1); (try clear c21b2); (try clear c22); (try clear c22b0); (try clear c22b1); (try clear c23); (try clear c23b0); (try clear c23b1); (try clear c26); (try clear c26b0); (try clear c26b1); (try clear c27); (try clear c27b0); (try clear c27b1); (try clear c27b2); (try clear c28); (try clear c28b0); (try clear c28b1); (try clear c34); (try clear c34b0); (try clear c34b1); (try clear c34b2); (try clear c35); (try clear c35b0); (try clear c35b1); (try clear c36); (try clear c36b0); (try clear c36b1); (try clear c37); (try clear c37b0); (try clear c37b1); (try clear c40); (try clear c40b0); (try clear c40b1); (try clear c41); (try clear c41b0); (try clear c41b1); (try clear c41b2); (try clear c42); (try clear c42b0); (try clear c42b1); (try clear c47); (try clear c47b0); (try clear c47b1); (try clear c47b2); (try clear c48); (try clear c48b0); (try clear c48b1); (try clear c49); (try clear c49b0); (try clear c49b1); (try clear c52); (try clear c52b0); (try clear c52b1); (try clear c53); (try clear c53b0); (try clear c53b1); (try clear c53b2); (try clear c54); (try clear c54b0); (try clear c54b1); (try clear c61); (try clear c63); (try clear c63b0); (try clear hcz24_0); (try clear hcz24_1); (try clear hcz24_2); (try clear hcz24_3); (try clear hcz24_4); (try clear hcz24_5); (try clear hcz24_6); (try clear hcz24_7); (try clear hcz25_0); (try clear hcz25_1); (try clear hcz25_2); (try clear hcz25_3); (try clear hcz25_4); (try clear hcz25_5); (try clear hcz25_6); (try clear hcz25_7); (try clear hcz29_0); (try clear hcz29_1); (try clear hcz29_2); (try clear hcz29_3); (try clear hcz29_4); (try clear hcz29_5); (try clear hcz29_6); (try clear hcz29_7); (try clear hcz30_0); (try clear hcz30_1); (try clear hcz30_2); (try clear hcz30_3); (try clear hcz30_4); (try clear hcz30_5); (try clear hcz30_6); (try clear hcz30_7); (try clear hcz31_0); (try clear hcz31_1); (try clear hcz31_2); (try clear hcz31_3); (try clear hcz31_4); (try clear hcz31_5); (try clear hcz31_6); (try clear hcz31_7); (try clear hcz32_0); (try clear hcz32_1); (try clear hcz32_2); (try clear hcz32_3); (try clear hcz32_4); (try clear hcz32_5); (try clear hcz32_6); (try clear hcz32_7); (try clear hcz33_0); (try clear hcz33_1); (try clear hcz33_2); (try clear hcz33_3); (try clear hcz33_4); (try clear hcz33_5); (try clear hcz33_6); (try clear hcz33_7); (try clear hcz38_0); (try clear hcz38_1); (try clear hcz38_2); (try clear hcz38_3); (try clear hcz38_4); (try clear hcz38_5); (try clear hcz38_6); (try clear hcz38_7); (try clear hcz39_0); (try clear hcz39_1); (try clear hcz39_2); (try clear hcz39_3); (try clear hcz39_4); (try clear hcz39_5); (try clear hcz39_6); (try clear hcz39_7); (try clear hcz43_0); (try clear hcz43_1); (try clear hcz43_2); (try clear hcz43_3); (try clear hcz43_4); (try clear hcz43_5); (try clear hcz43_6); (try clear hcz43_7); (try clear hcz44_0); (try clear hcz44_1); (try clear hcz44_2); (try clear hcz44_3); (try clear hcz44_4); (try clear hcz44_5); (try clear hcz44_6); (try clear hcz44_7); (try clear hcz45_0); (try clear hcz45_1); (try clear hcz45_2); (try clear hcz45_3); (try clear hcz45_4); (try clear hcz45_5); (try clear hcz45_6); (try clear hcz45_7); (try clear hcz46_0); (try clear hcz46_1); (try clear hcz46_2); (try clear hcz46_3); (try clear hcz46_4); (try clear hcz46_5); (try clear hcz46_6); (try clear hcz46_7); (try clear hcz50_0); (try clear hcz50_1); (try clear hcz50_2); (try clear hcz50_3); (try clear hcz50_4); (try clear hcz50_5); (try clear hcz50_6); (try clear hcz50_7); (try clear hcz51_0); (try clear hcz51_1); (try clear hcz51_2); (try clear hcz51_3); (try clear hcz51_4); (try clear hcz51_5); (try clear hcz51_6); (try clear hcz51_7); (try clear hcz55_0); (try clear hcz55_1); (try clear hcz55_2); (try clear hcz55_3); (try clear hcz55_4); (try clear hcz55_5); (try clear hcz55_6); (try clear hcz55_7); (try clear hcz56_0); (try clear hcz56_1); (try clear hcz56_2); (try clear hcz56_3); (try clear hcz56_4); (try clear hcz56_5); (try clear hcz56_6); (try clear hcz56_7); (try clear hcz57_0); (try clear hcz57_1); (try clear hcz57_2); (try clear hcz57_3); (try clear hcz57_4); (try clear hcz57_5); (try clear hcz57_6); (try clear hcz57_7); (try clear hcz58_0); (try clear hcz58_1); (try clear hcz58_2); (try clear hcz58_3); (try clear hcz58_4); (try clear hcz58_5); (try clear hcz58_6); (try clear hcz58_7); (try clear hcz59_0); (try clear hcz59_1); (try clear hcz59_2); (try clear hcz59_3); (try clear hcz59_4); (try clear hcz59_5); (try clear hcz59_6); (try clear hcz59_7); (try clear hcz60_0); (try clear hcz60_1); (try clear hcz60_2); (try clear hcz60_3); (try clear hcz60_4); (try clear hcz60_5); (try clear hcz60_6); (try clear hcz60_7); (try clear hcz64_0); (try clear hcz64_1); (try clear hcz64_2); (try clear hcz64_3); (try clear hcz64_4); (try clear hcz64_5); (try clear hcz64_6); (try clear hcz64_7); (try clear hfz24_0); (try clear hfz24_1); (try clear hfz24_2); (try clear hfz24_3); (try clear hfz24_4); (try clear hfz24_5); (try clear hfz24_6); (try clear hfz24_7); (try clear hfz25_0); (try clear hfz25_1); (try clear hfz25_2); (try clear hfz25_3); (try clear hfz25_4); (try clear hfz25_5); (try clear hfz25_6); (try clear hfz25_7); (try clear hfz29_0); (try clear hfz29_1); (try clear hfz29_2); (try clear hfz29_3); (try clear hfz29_4); (try clear hfz29_5); (try clear hfz29_6); (try clear hfz29_7); (try clear hfz30_0); (try clear hfz30_1); (try clear hfz30_2); (try clear hfz30_3); (try clear hfz30_4); (try clear hfz30_5); (try clear hfz30_6); (try clear hfz30_7); (try clear hfz31_0); (try clear hfz31_1); (try clear hfz31_2); (try clear hfz31_3); (try clear hfz31_4); (try clear hfz31_5); (try clear hfz31_6); (try clear hfz31_7); (try clear hfz32_0); (try clear hfz32_1); (try clear hfz32_2); (try clear hfz32_3); (try clear hfz32_4); (try clear hfz32_5); (try clear hfz32_6); (try clear hfz32_7); (try clear hfz33_0); (try clear hfz33_1); (try clear hfz33_2); (try clear hfz33_3); (try clear hfz33_4); (try clear hfz33_5); (try clear hfz33_6); (try clear hfz33_7); (try clear hfz38_0); (try clear hfz38_1); (try clear hfz38_2); (try clear hfz38_3); (try clear hfz38_4); (try clear hfz38_5); (try clear hfz38_6); (try clear hfz38_7); (try clear hfz39_0); (try clear hfz39_1); (try clear hfz39_2); (try clear hfz39_3); (try clear hfz39_4); (try clear hfz39_5); (try clear hfz39_6); (try clear hfz39_7); (try clear hfz43_0); (try clear hfz43_1); (try clear hfz43_2); (try clear hfz43_3); (try clear hfz43_4); (try clear hfz43_5); (try clear hfz43_6); (try clear hfz43_7); (try clear hfz44_0); (try clear hfz44_1); (try clear hfz44_2); (try clear hfz44_3); (try clear hfz44_4); (try clear hfz44_5); (try clear hfz44_6); (try clear hfz44_7); (try clear hfz45_0); (try clear hfz45_1); (try clear hfz45_2); (try clear hfz45_3); (try clear hfz45_4); (try clear hfz45_5); (try clear hfz45_6); (try clear hfz45_7); (try clear hfz46_0); (try clear hfz46_1); (try clear hfz46_2); (try clear hfz46_3); (try clear hfz46_4); (try clear hfz46_5); (try clear hfz46_6); (try clear hfz46_7); (try clear hfz50_0); (try clear hfz50_1); (try clear hfz50_2); (try clear hfz50_3); (try clear hfz50_4); (try clear hfz50_5); (try clear hfz50_6); (try clear hfz50_7); (try clear hfz51_0); (try clear hfz51_1); (try clear hfz51_2); (try clear hfz51_3); (try clear hfz51_4); (try clear hfz51_5); (try clear hfz51_6); (try clear hfz51_7); (try clear hfz55_0); (try clear hfz55_1); (try clear hfz55_2); (try clear hfz55_3); (try clear hfz55_4); (try clear hfz55_5); (try clear hfz55_6); (try clear hfz55_7); (try clear hfz56_0); (try clear hfz56_1); (try clear hfz56_2); (try clear hfz56_3); (try clear hfz56_4); (try clear hfz56_5); (try clear hfz56_6); (try clear hfz56_7); (try clear hfz57_0); (try clear hfz57_1); (try clear hfz57_2); (try clear hfz57_3); (try clear hfz57_4); (try clear hfz57_5); (try clear hfz57_6); (try clear hfz57_7); (try clear hfz58_0); (try clear hfz58_1); (try clear hfz58_2); (try clear hfz58_3); (try clear hfz58_4); (try clear hfz58_5); (try clear hfz58_6); (try clear hfz58_7); (try clear hfz59_0); (try clear hfz59_1); (try clear hfz59_2); (try clear hfz59_3); (try clear hfz59_4); (try clear hfz59_5); (try clear hfz59_6); (try clear hfz59_7); (try clear hfz60_0); (try clear hfz60_1); (try clear hfz60_2); (try clear hfz60_3); (try clear hfz60_4); (try clear hfz60_5); (try clear hfz60_6); (try clear hfz60_7); (try clear hfz64_0); (try clear hfz64_1); (try clear hfz64_2); (try clear hfz64_3); (try clear hfz64_4); (try clear hfz64_5); (try clear hfz64_6); (try clear hfz64_7); obtain ⟨kq, x66_61, rfl, HA, HJ61, BK153, HB⟩ := hcut
            cases kq with
            | zero => exact absurd HA.out (by simp [spec_StmOK.j1])
            | succ kj61 =>
              have H := HA.out; clear HA; simp only [spec_StmOK.j1] at H; by_cases c65 : x66_61 = true
              · subst c65; rw [if_pos rfl] at H; obtain rfl := Option.some.inj H; go_wp2; go_ret; exact ⟨qR, qB⟩
              · replace c65 := Bool.eq_false_iff.mpr c65; subst c65; rw [if_neg qff] at H; by_cases c66 : a0_0 = 1
                · rw [if_pos c66] at H; have c66b0 : (a0_0 == 1) = true := beq_iff_eq.mpr c66; have c66b1 : (a0_0 != 1) = false := bne_eq_false_iff_eq.mpr c66; clear c66; have H' := qK H; clear H; obtain ⟨hcz67_0, hcz67_1, hcz67_2, hcz67_3, hcz67_4, hcz67_5, hcz67_6, hcz67_7⟩ := zC8 BK153.out; obtain ⟨hfz67_0, hfz67_1, hfz67_2, hfz67_3, hfz67_4, hfz67_5, hfz67_6, hfz67_7⟩ := zF8 BK153.out; go_wp2; go_loopg [73] kj61 (fun kq v73 w' => ∃ (x73_3 : Int), v73 = .int .i64 x73_3 ∧ Aside0 (spec_StmOK.l0 kq l0_2 (l0_2.length : Int) x73_3 a0_0 a0_1 l0_2 l0_3 a0_4 l0_5 l0_6 l0_7 = some r) ∧ Aside0 (kq ≤ kj61) ∧ Aside0 (w'.heap[gb153]? = some (.cells #[.int .i64 a0_0, .string a0_1, (.slice A0_2 l0_2.length c0_2), (.slice A0_3 l0_3.length c0_3), .string a0_4, (.slice A0_5 l0_5.length c0_5), (.slice A0_6 l0_6.length c0_6), (.slice A0_7 l0_7.length c0_7)] 100 (0, 0))) ∧ Aside0 (Below w.heap.size w w'))
                  case atStart => exact ⟨(0), qS, H', ⟨Nat.le_refl _⟩, ⟨by (with_reducible repeat (first | refine bdN ?_ _ | refine bkD ?_ | refine bkA ?_ _)); exact BK153.out⟩, ⟨qB⟩⟩
                  case round =>
                    clear H'; (try clear c2); (try clear p2); (try clear c3); (try clear c4); (try clear c5); (try clear c6); (try clear c9); (try clear c9b0); (try clear c9b1); (try clear c21); (try clear c21b0); (try clear c21b1); (try clear c21b2); (try clear c22); (try clear c22b0); (try clear c22b1); (try clear c23); (try clear c23b0); (try clear c23b1); (try clear c26); (try clear c26b0); (try clear c26b1); (try clear c27); (try clear c27b0); (try clear c27b1); (try clear c27b2); (try clear c28); (try clear c28b0); (try clear c28b1); (try clear c34); (try clear c34b0); (try clear c34b1); (try clear c34b2); (try clear c35); (try clear c35b0); (try clear c35b1); (try clear c36); (try clear c36b0); (try clear c36b1); (try clear c37); (try clear c37b0); (try clear c37b1); (try clear c40); (try clear c40b0); (try clear c40b1); (try clear c41); (try clear c41b0); (try clear c41b1); (try clear c41b2); (try clear c42); (try clear c42b0); (try clear c42b1); (try clear c47); (try clear c47b0); (try clear c47b1); (try clear c47b2); (try clear c48); (try clear c48b0); (try clear c48b1); (try clear c49); (try clear c49b0); (try clear c49b1); (try clear c52); (try clear c52b0); (try clear c52b1); (try clear c53); (try clear c53b0); (try clear c53b1); (try clear c53b2); (try clear c54); (try clear c54b0); (try clear c54b1); (try clear c61); (try clear c63); (try clear c63b0); (try clear c65); (try clear c66); (try clear c66b0); (try clear c66b1); (try clear hcz24_0); (try clear hcz24_1); (try clear hcz24_2); (try clear hcz24_3); (try clear hcz24_4); (try clear hcz24_5); (try clear hcz24_6); (try clear hcz24_7); (try clear hcz25_0); (try clear hcz25_1); (try clear hcz25_2); (try clear hcz25_3); (try clear hcz25_4); (try clear hcz25_5); (try clear hcz25_6); (try clear hcz25_7); (try clear hcz29_0); (try clear hcz29_1); (try clear hcz29_2); (try clear hcz29_3); (try clear hcz29_4); (try clear hcz29_5); (try clear hcz29_6); (try clear hcz29_7); (try clear hcz30_0); (try clear hcz30_1); (try clear hcz30_2); (try clear hcz30_3); (try clear hcz30_4); (try clear hcz30_5); (try clear hcz30_6); (try clear hcz30_7); (try clear hcz31_0); (try clear hcz31_1); (try clear hcz31_2); (try clear hcz31_3); (try clear hcz31_4); (try clear hcz31_5); (try clear hcz31_6); (try clear hcz31_7); (try clear hcz32_0); (try clear hcz32_1); (try clear hcz32_2); (try clear hcz32_3); (try clear hcz32_4); (try clear hcz32_5); (try clear hcz32_6); (try clear hcz32_7); (try clear hcz33_0); (try clear hcz33_1); (try clear hcz33_2); (try clear hcz33_3); (try clear hcz33_4); (try clear hcz33_5); (try clear hcz33_6); (try clear hcz33_7); (try clear hcz38_0); (try clear hcz38_1); (try clear hcz38_2); (try clear hcz38_3); (try clear hcz38_4); (try clear hcz38_5); (try clear hcz38_6); (try clear hcz38_7); (try clear hcz39_0); (try clear hcz39_1); (try clear hcz39_2); (try clear hcz39_3); (try clear hcz39_4); (try clear hcz39_5); (try clear hcz39_6); (try clear hcz39_7); (try clear hcz43_0); (try clear hcz43_1); (try clear hcz43_2); (try clear hcz43_3); (try clear hcz43_4); (try clear hcz43_5); (try clear hcz43_6); (try clear hcz43_7); (try clear hcz44_0); (try clear hcz44_1); (try clear hcz44_2); (try clear hcz44_3); (try clear hcz44_4); (try clear hcz44_5); (try clear hcz44_6); (try clear hcz44_7); (try clear hcz45_0); (try clear hcz45_1); (try clear hcz45_2); (try clear hcz45_3); (try clear hcz45_4); (try clear hcz45_5); (try clear hcz45_6); (try clear hcz45_7); (try clear hcz46_0); (try clear hcz46_1); (try clear hcz46_2); (try clear hcz46_3); (try clear hcz46_4); (try clear hcz46_5); (try clear hcz46_6); (try clear hcz46_7); (try clear hcz50_0); (try clear hcz50_1); (try clear hcz50_2); (try clear hcz50_3); (try clear hcz50_4); (try clear hcz50_5); (try clear hcz50_6); (try clear hcz50_7); (try clear hcz51_0); (try clear hcz51_1); (try clear hcz51_2); (try clear hcz51_3); (try clear hcz51_4); (try clear hcz51_5); (try clear hcz51_6); (try clear hcz51_7); (try clear hcz55_0); (try clear hcz55_1); (try clear hcz55_2); (try clear hcz55_3); (try clear hcz55_4); (try clear hcz55_5); (try clear hcz55_6); (try clear hcz55_7); (try clear hcz56_0); (try clear hcz56_1); (try clear hcz56_2); (try clear hcz56_3); (try clear hcz56_4); (try clear hcz56_5); (try clear hcz56_6); (try clear hcz56_7); (try clear hcz57_0); (try clear hcz57_1); (try clear hcz57_2); (try clear hcz57_3); (try clear hcz57_4); (try clear hcz57_5); (try clear hcz57_6); (try clear hcz57_7); (try clear hcz58_0); (try clear hcz58_1); (try clear hcz58_2); (try clear hcz58_3); (try clear hcz58_4); (try clear hcz58_5); (try clear hcz58_6); (try clear hcz58_7); (try clear hcz59_0); (try clear hcz59_1); (try clear hcz59_2); (try clear hcz59_3); (try clear hcz59_4); (try clear hcz59_5); (try clear hcz59_6); (try clear hcz59_7); (try clear hcz60_0); (try clear hcz60_1); (try clear hcz60_2); (try clear hcz60_3); (try clear hcz60_4); (try clear hcz60_5); (try clear hcz60_6); (try clear hcz60_7); (try clear hcz64_0); (try clear hcz64_1); (try clear hcz64_2); (try clear hcz64_3); (try clear hcz64_4); (try clear hcz64_5); (try clear hcz64_6); (try clear hcz64_7); (try clear hcz67_0); (try clear hcz67_1); (try clear hcz67_2); (try clear hcz67_3); (try clear hcz67_4); (try clear hcz67_5); (try clear hcz67_6); (try clear hcz67_7); (try clear hfz24_0); (try clear hfz24_1); (try clear hfz24_2); (try clear hfz24_3); (try clear hfz24_4); (try clear hfz24_5); (try clear hfz24_6); (try clear hfz24_7); (try clear hfz25_0); (try clear hfz25_1); (try clear hfz25_2); (try clear hfz25_3); (try clear hfz25_4); (try clear hfz25_5); (try clear hfz25_6); (try clear hfz25_7); (try clear hfz29_0); (try clear hfz29_1); (try clear hfz29_2); (try clear hfz29_3); (try clear hfz29_4); (try clear hfz29_5); (try clear hfz29_6); (try clear hfz29_7); (try clear hfz30_0); (try clear hfz30_1); (try clear hfz30_2); (try clear hfz30_3); (try clear hfz30_4); (try clear hfz30_5); (try clear hfz30_6); (try clear hfz30_7); (try clear hfz31_0); (try clear hfz31_1); (try clear hfz31_2); (try clear hfz31_3); (try clear hfz31_4); (try clear hfz31_5); (try clear hfz31_6); (try clear hfz31_7); (try clear hfz32_0); (try clear hfz32_1); (try clear hfz32_2); (try clear hfz32_3); (try clear hfz32_4); (try clear hfz32_5); (try clear hfz32_6); (try clear hfz32_7); (try clear hfz33_0); (try clear hfz33_1); (try clear hfz33_2); (try clear hfz33_3); (try clear hfz33_4); (try clear hfz33_5); (try clear hfz33_6); (try clear hfz33_7); (try clear hfz38_0); (try clear hfz38_1); (try clear hfz38_2); (try clear hfz38_3); (try clear hfz38_4); (try clear hfz38_5); (try clear hfz38_6); (try clear hfz38_7); (try clear hfz39_0); (try clear hfz39_1); (try clear hfz39_2); (try clear hfz39_3); (try clear hfz39_4); (try clear hfz39_5); (try clear hfz39_6); (try clear hfz39_7); (try clear hfz43_0); (try clear hfz43_1); (try clear hfz43_2); (try clear hfz43_3); (try clear hfz43_4); (try clear hfz43_5); (try clear hfz43_6); (try clear hfz43_7); (try clear hfz44_0); (try clear hfz44_1); (try clear hfz44_2); (try clear hfz44_3); (try clear hfz44_4); (try clear hfz44_5); (try clear hfz44_6); (try clear hfz44_7); (try clear hfz45_0); (try clear hfz45_1); (try clear hfz45_2); (try clear hfz45_3); (try clear hfz45_4); (try clear hfz45_5); (try clear hfz45_6); (try clear hfz45_7); (try clear hfz46_0); (try clear hfz46_1); (try clear hfz46_2); (try clear hfz46_3); (try clear hfz46_4); (try clear hfz46_5); (try clear hfz46_6); (try clear hfz46_7); (try clear hfz50_0); (try clear hfz50_1); (try clear hfz50_2); (try clear hfz50_3); (try clear hfz50_4); (try clear hfz50_5); (try clear hfz50_6); (try clear hfz50_7); (try clear hfz51_0); (try clear hfz51_1); (try clear hfz51_2); (try clear hfz51_3); (try clear hfz51_4); (try clear hfz51_5); (try clear hfz51_6); (try clear hfz51_7); (try clear hfz55_0); (try clear hfz55_1); (try clear hfz55_2); (try clear hfz55_3); (try clear hfz55_4); (try clear hfz55_5); (try clear hfz55_6); (try clear hfz55_7); (try clear hfz56_0); (try clear hfz56_1); (try clear hfz56_2); (try clear hfz56_3); (try clear hfz56_4); (try clear hfz56_5); (try clear hfz56_6); (try clear hfz56_7); (try clear hfz57_0); (try clear hfz57_1); (try clear hfz57_2); (try clear hfz57_3); (try clear hfz57_4); (try clear hfz57_5); (try clear hfz57_6); (try clear hfz57_7); (try clear hfz58_0); (try clear hfz58_1); (try clear hfz58_2); (try clear hfz58_3); (try clear hfz58_4); (try clear hfz58_5); (try clear hfz58_6); (try clear hfz58_7); (try clear hfz59_0); (try clear hfz59_1); (try clear hfz59_2); (try clear hfz59_3); (try clear hfz59_4); (try clear hfz59_5); (try clear hfz59_6); (try clear hfz59_7); (try clear hfz60_0); (try clear hfz60_1); (try clear hfz60_2); (try clear hfz60_3); (try clear hfz60_4); (try clear hfz60_5); (try clear hfz60_6); (try clear hfz60_7); (try clear hfz64_0); (try clear hfz64_1); (try clear hfz64_2); (try clear hfz64_3); (try clear hfz64_4); (try clear hfz64_5); (try clear hfz64_6); (try clear hfz64_7); (try clear hfz67_0); (try clear hfz67_1); (try clear hfz67_2); (try clear hfz67_3); (try clear hfz67_4); (try clear hfz67_5); (try clear hfz67_6); (try clear hfz67_7); obtain ⟨x73_3, rfl, HA, HK3, BK153, HB⟩ := hrel
                    cases gk with
                    | zero => exact absurd HA.out (by simp [spec_StmOK.l0])
                    | succ k3 =>
                      have H := HA.out; clear HA; simp only [spec_StmOK.l0] at H; by_cases c68 : x73_3 < (l0_2.length : Int)
                      · rw [if_pos c68] at H; have c68b0 : decide (x73_3 < (l0_2.length : Int)) = true := decide_eq_true c68; clear c68; by_cases c69 : 0 ≤ x73_3
                        · rw [if_pos c69] at H; have c69b0 : decide (0 ≤ x73_3) = true := decide_eq_true c69; clear c69; by_cases c70 : x73_3 < (l0_2.length : Int)
                          · rw [if_pos c70] at H; have c70b0 : decide (x73_3 < (l0_2.length : Int)) = true := decide_eq_true c70; clear c70; by_cases c71 : (l0_2.length : Int) > 20
                            · rw [if_pos c71] at H; have c71b0 : decide (20 < (l0_2.length : Int)) = true := decide_eq_true c71; have c71b1 : decide (20 < l0_2.length) = true := decide_eq_true (by omega); clear c71; obtain rfl := Option.some.inj H; have p155 : 0 ≤ (x73_3 : Int) := of_decide_eq_true qa; have q155 : x73_3 < (l0_2.length : Int) := of_decide_eq_true qa; obtain ⟨ad155, e155, hx155_0, hx155_1⟩ := at_T114 HR0_2.out x73_3 p155 q155; cases e155; replace hx155_0 := (HB.out.cell (World.block_lt_of_cell? w _ hx155_0)).trans hx155_0; replace hx155_1 := (HB.out.cell (World.block_lt_of_cell? w _ hx155_1)).trans hx155_1; replace p155 := eq_true p155; replace q155 := eq_true q155; go_wp2_with (first | ((with_reducible refine gds (N := 5) rfl ?_); (try (refine gate_guard (by rfl) ?_; dsimp only)); refine qbx 5 #[.string (⟨#[]⟩ : ByteArray), .int .i64 0] 114 ?_; intro gb156 hg w72 hbox hb; have BK156 := qK (hbox); have GW156 := qK ((qW : w.heap.size ≤ gb156)); have GE156 := GW156; replace HB := qHB HB hb; have NB153_156 := qK (qlt BK153 hg); have NB156_153 := qK (qgt BK153 hg); replace BK153 := qbb BK153 hb; clear hb hbox hg; have hnb73 := NB156_153.out; have hnc73 := NB153_156.out; have hz74 := qz2 BK156.out; have hz75 := qz8 BK153.out)); go_ret; exact ⟨qR, qB⟩
                            · rw [if_neg c71] at H; have c71b0 : decide (20 < (l0_2.length : Int)) = false := decide_eq_false c71; have c71b1 : decide (20 < l0_2.length) = false := decide_eq_false (by omega); clear c71; replace H := Option.bind_eq_some_iff.mp H; obtain ⟨t157, A760, H⟩ := H; have A76 := qK A760; clear A760; by_cases c77 : t157 = true
                              · subst c77; rw [if_pos rfl] at H; replace H := Option.bind_eq_some_iff.mp H; obtain ⟨t158, A780, H⟩ := H; have A78 := qK A780; clear A780; by_cases c79 : t158 = true
                                · subst c79; rw [if_pos rfl] at H; have H' := qK H; clear H; have p155 : 0 ≤ (x73_3 : Int) := of_decide_eq_true qa; have q155 : x73_3 < (l0_2.length : Int) := of_decide_eq_true qa; obtain ⟨ad155, e155, hx155_0, hx155_1⟩ := at_T114 HR0_2.out x73_3 p155 q155; cases e155; replace hx155_0 := (HB.out.cell (World.block_lt_of_cell? w _ hx155_0)).trans hx155_0; replace hx155_1 := (HB.out.cell (World.block_lt_of_cell? w _ hx155_1)).trans hx155_1; replace p155 := eq_true p155; replace q155 := eq_true q155; go_wp2_with (first | ((with_reducible refine gds (N := 5) rfl ?_); (try (refine gate_guard (by rfl) ?_; dsimp only)); refine qbx 5 #[.string (⟨#[]⟩ : ByteArray), .int .i64 0] 114 ?_; intro gb156 hg w80 hbox hb; have BK156 := qK (hbox); have GW156 := qK ((qW : w.heap.size ≤ gb156)); have GE156 := GW156; replace HB := qHB HB hb; have NB153_156 := qK (qlt BK153 hg); have NB156_153 := qK (qgt BK153 hg); replace BK153 := qbb BK153 hb; clear hb hbox hg; have hnb81 := NB156_153.out; have hnc81 := NB153_156.out; have hz82 := qz2 BK156.out; have hz83 := qz8 BK153.out) | (go_at_call 91; (with_reducible refine (spec_l4Name.calls k3 ((rd_T114 l0_2 x73_3).f0) true _ A76.out).mono ?_); rintro e w84 ⟨rfl, hb⟩; replace BK153 := qK (bbe (g := gb153) (o := .cells #[.int .i64 a0_0, .string a0_1, .slice (some ad155) l0_2.length c0_2, .slice A0_3 l0_3.length c0_3, .string a0_4, .slice A0_5 l0_5.length c0_5, .slice A0_6 l0_6.length c0_6, .slice A0_7 l0_7.length c0_7] 100 (0, 0)) (by (with_reducible repeat (first | refine bdN ?_ _ | refine bkD ?_ | refine bkA ?_ _)); refine bfa ?_ NB153_156.out _; (with_reducible repeat (first | refine bdN ?_ _ | refine bkD ?_ | refine bkA ?_ _)); refine bfa ?_ NB153_156.out _; (with_reducible repeat (first | refine bdN ?_ _ | refine bkD ?_ | refine bkA ?_ _)); exact BK153.out) hb); replace BK156 := qK (bbe (g := gb156) (o := .cells #[.string ((rd_T114 l0_2 x73_3).f0), .int .i64 ((rd_T114 l0_2 x73_3).f1)] 114 (0, 0)) (by (with_reducible repeat (first | refine bdN ?_ _ | refine bkD ?_ | refine bkA ?_ _)); refine bpu (cs := #[.string ((rd_T114 l0_2 x73_3).f0), .int .i64 0]) ?_ 1 _ rfl; (with_reducible repeat (first | refine bdN ?_ _ | refine bkD ?_ | refine bkA ?_ _)); refine bpu (cs := #[.string (⟨#[]⟩ : ByteArray), .int .i64 0]) ?_ 0 _ rfl; (with_reducible repeat (first | refine bdN ?_ _ | refine bkD ?_ | refine bkA ?_ _)); exact BK156.out) hb); replace HB := qHB HB hb; (try clear hb); (try clear hb2); (try clear hk); (try clear hi); have hz85 := qz2 BK156.out) | (go_at_call 92; (with_reducible refine (spec_l4Type.calls ((rd_T114 l0_2 x73_3).f1) true _ A78.out).mono ?_); rintro e w' ⟨rfl, ⟨nd, rfl⟩⟩)); go_roundg k3
                                  case measure => have := HJ3.out; have := HJ61.out; have := HK3.out; omega
                                  case rel => exact ⟨(wrap64 (x73_3 + 1)), qS, H', ⟨by have := HJ3.out; have := HJ61.out; have := HK3.out; omega⟩, ⟨by (with_reducible repeat (first | refine bdN ?_ _ | refine bkD ?_ | refine bkA ?_ _)); exact BK153.out⟩, ⟨qB⟩⟩
                                · replace c79 := Bool.eq_false_iff.mpr c79; subst c79; rw [if_neg qff] at H; obtain rfl := Option.some.inj H; have p155 : 0 ≤ (x73_3 : Int) := of_decide_eq_true qa; have q155 : x73_3 < (l0_2.length : Int) := of_decide_eq_true qa; obtain ⟨ad155, e155, hx155_0, hx155_1⟩ := at_T114 HR0_2.out x73_3 p155 q155; cases e155; replace hx155_0 := (HB.out.cell (World.block_lt_of_cell? w _ hx155_0)).trans hx155_0; replace hx155_1 := (HB.out.cell (World.block_lt_of_cell? w _ hx155_1)).trans hx155_1; replace p155 := eq_true p155; replace q155 := eq_true q155; go_wp2_with (first | ((with_reducible refine gds (N := 5) rfl ?_); (try (refine gate_guard (by rfl) ?_; dsimp only)); refine qbx 5 #[.string (⟨#[]⟩ : ByteArray), .int .i64 0] 114 ?_; intro gb156 hg w86 hbox hb; have BK156 := qK (hbox); have GW156 := qK ((qW : w.heap.size ≤ gb156)); have GE156 := GW156; replace HB := qHB HB hb; have NB153_156 := qK (qlt BK153 hg); have NB156_153 := qK (qgt BK153 hg); replace BK153 := qbb BK153 hb; clear hb hbox hg; have hnb87 := NB156_153.out; have hnc87 := NB153_156.out; have hz88 := qz2 BK156.out; have hz89 := qz8 BK153.out) | (go_at_call 91; (with_reducible refine (spec_l4Name.calls k3 ((rd_T114 l0_2 x73_3).f0) true _ A76.out).mono ?_); rintro e w90 ⟨rfl, hb⟩; replace BK153 := qK (bbe (g := gb153) (o := .cells #[.int .i64 a0_0, .string a0_1, .slice (some ad155) l0_2.length c0_2, .slice A0_3 l0_3.length c0_3, .string a0_4, .slice A0_5 l0_5.length c0_5, .slice A0_6 l0_6.length c0_6, .slice A0_7 l0_7.length c0_7] 100 (0, 0)) (by (with_reducible repeat (first | refine bdN ?_ _ | refine bkD ?_ | refine bkA ?_ _)); refine bfa ?_ NB153_156.out _; (with_reducible repeat (first | refine bdN ?_ _ | refine bkD ?_ | refine bkA ?_ _)); refine bfa ?_ NB153_156.out _; (with_reducible repeat (first | refine bdN ?_ _ | refine bkD ?_ | refine bkA ?_ _)); exact BK153.out) hb); replace BK156 := qK (bbe (g := gb156) (o := .cells #[.string ((rd_T114 l0_2 x73_3).f0), .int .i64 ((rd_T114 l0_2 x73_3).f1)] 114 (0, 0)) (by (with_reducible repeat (first | refine bdN ?_ _ | refine bkD ?_ | refine bkA ?_ _)); refine bpu (cs := #[.string ((rd_T114 l0_2 x73_3).f0), .int .i64 0]) ?_ 1 _ rfl; (with_reducible repeat (first | refine bdN ?_ _ | refine bkD ?_ | refine bkA ?_ _)); refine bpu (cs := #[.string (⟨#[]⟩ : ByteArray), .int .i64 0]) ?_ 0 _ rfl; (with_reducible repeat (first | refine bdN ?_ _ | refine bkD ?_ | refine bkA ?_ _)); exact BK156.out) hb); replace HB := qHB HB hb; (try clear hb); (try clear hb2); (try clear hk); (try clear hi); have hz91 := qz2 BK156.out) | (go_at_call 92; (with_reducible refine (spec_l4Type.calls ((rd_T114 l0_2 x73_3).f1) false _ A78.out).mono ?_); rintro e w' ⟨rfl, ⟨nd, rfl⟩⟩)); go_ret; exact ⟨qR, qB⟩
                              · replace c77 := Bool.eq_false_iff.mpr c77; subst c77; rw [if_neg qff] at H; obtain rfl := Option.some.inj H; have p155 : 0 ≤ (x73_3 : Int) := of_decide_eq_true qa; have q155 : x73_3 < (l0_2.length : Int) := of_decide_eq_true qa; obtain ⟨ad155, e155, hx155_0, hx155_1⟩ := at_T114 HR0_2.out x73_3 p155 q155; cases e155; replace hx155_0 := (HB.out.cell (World.block_lt_of_cell? w _ hx155_0)).trans hx155_0; replace hx155_1 := (HB.out.cell (World.block_lt_of_cell? w _ hx155_1)).trans hx155_1; replace p155 := eq_true p155; replace q155 := eq_true q155; go_wp2_with (first | ((with_reducible refine gds (N := 5) rfl ?_); (try (refine gate_guard (by rfl) ?_; dsimp only)); refine qbx 5 #[.string (⟨#[]⟩ : ByteArray), .int .i64 0] 114 ?_; intro gb156 hg w92 hbox hb; have BK156 := qK (hbox); have GW156 := qK ((qW : w.heap.size ≤ gb156)); have GE156 := GW156; replace HB := qHB HB hb; have NB153_156 := qK (qlt BK153 hg); have NB156_153 := qK (qgt BK153 hg); replace BK153 := qbb BK153 hb; clear hb hbox hg; have hnb93 := NB156_153.out; have hnc93 := NB153_156.out; have hz94 := qz2 BK156.out; have hz95 := qz8 BK153.out) | (go_at_call 91; (with_reducible refine (spec_l4Name.calls k3 ((rd_T114 l0_2 x73_3).f0) false _ A76.out).mono ?_); rintro e w96 ⟨rfl, hb⟩; replace BK153 := qK (bbe (g := gb153) (o := .cells #[.int .i64 a0_0, .string a0_1, .slice (some ad155) l0_2.length c0_2, .slice A0_3 l0_3.length c0_3, .string a0_4, .slice A0_5 l0_5.length c0_5, .slice A0_6 l0_6.length c0_6, .slice A0_7 l0_7.length c0_7] 100 (0, 0)) (by (with_reducible repeat (first | refine bdN ?_ _ | refine bkD ?_ | refine bkA ?_ _)); refine bfa ?_ NB153_156.out _; (with_reducible repeat (first | refine bdN ?_ _ | refine bkD ?_ | refine bkA ?_ _)); refine bfa ?_ NB153_156.out _; (with_reducible repeat (first | refine bdN ?_ _ | refine bkD ?_ | refine bkA ?_ _)); exact BK153.out) hb); replace BK156 := qK (bbe (g := gb156) (o := .cells #[.string ((rd_T114 l0_2 x73_3).f0), .int .i64 ((rd_T114 l0_2 x73_3).f1)] 114 (0, 0)) (by (with_reducible repeat (first | refine bdN ?_ _ | refine bkD ?_ | refine bkA ?_ _)); refine bpu (cs := #[.string ((rd_T114 l0_2 x73_3).f0), .int .i64 0]) ?_ 1 _ rfl; (with_reducible repeat (first | refine bdN ?_ _ | refine bkD ?_ | refine bkA ?_ _)); refine bpu (cs := #[.string (⟨#[]⟩ : ByteArray), .int .i64 0]) ?_ 0 _ rfl; (with_reducible repeat (first | refine bdN ?_ _ | refine bkD ?_ | refine bkA ?_ _)); exact BK156.out) hb); replace HB := qHB HB hb; (try clear hb); (try clear hb2); (try clear hk); (try clear hi))); go_ret; exact ⟨qR, qB⟩
                          · rw [if_neg c70] at H; exact absurd H (by simp)
                        · rw [if_neg c69] at H; exact absurd H (by simp)
                      · rw [if_neg c68] at H; have c68b0 : decide (x73_3 < (l0_2.length : Int)) = false := decide_eq_false c68; clear c68; obtain rfl := Option.some.inj H; obtain ⟨hcz97_0, hcz97_1, hcz97_2, hcz97_3, hcz97_4, hcz97_5, hcz97_6, hcz97_7⟩ := zC8 BK153.out; obtain ⟨hfz97_0, hfz97_1, hfz97_2, hfz97_3, hfz97_4, hfz97_5, hfz97_6, hfz97_7⟩ := zF8 BK153.out; go_wp2; go_ret; exact ⟨qR, qB⟩
                · rw [if_neg c66] at H; have c66b0 : (a0_0 == 1) = false := beq_eq_false_iff_ne.mpr c66; have c66b1 : (a0_0 != 1) = true := bne_iff_ne.mpr c66; by_cases c98 : a0_0 = 2
                  · rw [if_pos c98] at H; have c98b0 : (a0_0 == 2) = true := beq_iff_eq.mpr c98; have c98b1 : (a0_0 != 2) = false := bne_eq_false_iff_eq.mpr c98; clear c98; have H' := qK H; clear H; obtain ⟨hcz99_0, hcz99_1, hcz99_2, hcz99_3, hcz99_4, hcz99_5, hcz99_6, hcz99_7⟩ := zC8 BK153.out; obtain ⟨hfz99_0, hfz99_1, hfz99_2, hfz99_3, hfz99_4, hfz99_5, hfz99_6, hfz99_7⟩ := zF8 BK153.out; go_wp2; go_loopg [103] kj61 (fun kq v103 w' => ∃ (x103_3 : Int), v103 = .int .i64 x103_3 ∧ Aside0 (spec_StmOK.l1 kq l0_3 (l0_3.length : Int) x103_3 a0_0 a0_1 l0_2 l0_3 a0_4 l0_5 l0_6 l0_7 = some r) ∧ Aside0 (kq ≤ kj61) ∧ Aside0 (w'.heap[gb153]? = some (.cells #[.int .i64 a0_0, .string a0_1, (.slice A0_2 l0_2.length c0_2), (.slice A0_3 l0_3.length c0_3), .string a0_4, (.slice A0_5 l0_5.length c0_5), (.slice A0_6 l0_6.length c0_6), (.slice A0_7 l0_7.length c0_7)] 100 (0, 0))) ∧ Aside0 (Below w.heap.size w w'))
                    case atStart => exact ⟨(0), qS, H', ⟨Nat.le_refl _⟩, ⟨by (with_reducible repeat (first | refine bdN ?_ _ | refine bkD ?_ | refine bkA ?_ _)); exact BK153.out⟩, ⟨qB⟩⟩
                    case round =>
                      clear H'; (try clear p1); (try clear q1); (try clear hx1); (try clear c2); (try clear p2); (try clear c3); (try clear c4); (try clear c5); (try clear c6); (try clear p6); (try clear c7); (try clear c8); (try clear c9); (try clear p15); (try clear q15); (try clear hx15); (try clear c23); (try clear c23b1); (try clear c26); (try clear c26b0); (try clear c26b1); (try clear c27); (try clear c27b0); (try clear c27b1); (try clear c27b2); (try clear c28); (try clear c28b0); (try clear c28b1); (try clear c34); (try clear c34b0); (try clear c34b1); (try clear c34b2); (try clear c35); (try clear c35b0); (try clear c35b1); (try clear c36); (try clear c36b0); (try clear c36b1); (try clear c37); (try clear c37b0); (try clear c37b1); (try clear c40); (try clear c40b0); (try clear c40b1); (try clear c41); (try clear c41b0); (try clear c41b1); (try clear c41b2); (try clear c42); (try clear c42b0); (try clear c42b1); (try clear c47); (try clear c47b0); (try clear c47b1); (try clear c47b2); (try clear c48); (try clear c48b0); (try clear c48b1); (try clear c49); (try clear c49b0); (try clear c49b1); (try clear c52); (try clear c52b0); (try clear c52b1); (try clear c53); (try clear c53b0); (try clear c53b1); (try clear c53b2); (try clear c54); (try clear c54b0); (try clear c54b1); (try clear c61); (try clear c63); (try clear c63b0); (try clear p64); (try clear c65); (try clear c66); (try clear c66b0); (try clear c66b1); (try clear c68); (try clear c68b0); (try clear c69); (try clear c69b0); (try clear c70); (try clear c70b0); (try clear c71); (try clear c71b0); (try clear c71b1); (try clear c73); (try clear c77); (try clear c79); (try clear c81); (try clear c87); (try clear c93); (try clear c98); (try clear c98b0); (try clear c98b1); (try clear hcz24_0); (try clear hcz24_1); (try clear hcz24_2); (try clear hcz24_3); (try clear hcz24_4); (try clear hcz24_5); (try clear hcz24_6); (try clear hcz24_7); (try clear hcz25_0); (try clear hcz25_1); (try clear hcz25_2); (try clear hcz25_3); (try clear hcz25_4); (try clear hcz25_5); (try clear hcz25_6); (try clear hcz25_7); (try clear hcz29_0); (try clear hcz29_1); (try clear hcz29_2); (try clear hcz29_3); (try clear hcz29_4); (try clear hcz29_5); (try clear hcz29_6); (try clear hcz29_7); (try clear hcz30_0); (try clear hcz30_1); (try clear hcz30_2); (try clear hcz30_3); (try clear hcz30_4); (try clear hcz30_5); (try clear hcz30_6); (try clear hcz30_7); (try clear hcz31_0); (try clear hcz31_1); (try clear hcz31_2); (try clear hcz31_3); (try clear hcz31_4); (try clear hcz31_5); (try clear hcz31_6); (try clear hcz31_7); (try clear hcz32_0); (try clear hcz32_1); (try clear hcz32_2); (try clear hcz32_3); (try clear hcz32_4); (try clear hcz32_5); (try clear hcz32_6); (try clear hcz32_7); (try clear hcz33_0); (try clear hcz33_1); (try clear hcz33_2); (try clear hcz33_3); (try clear hcz33_4); (try clear hcz33_5); (try clear hcz33_6); (try clear hcz33_7); (try clear hcz38_0); (try clear hcz38_1); (try clear hcz38_2); (try clear hcz38_3); (try clear hcz38_4); (try clear hcz38_5); (try clear hcz38_6); (try clear hcz38_7); (try clear hcz39_0); (try clear hcz39_1); (try clear hcz39_2); (try clear hcz39_3); (try clear hcz39_4); (try clear hcz39_5); (try clear hcz39_6); (try clear hcz39_7); (try clear hcz43_0); (try clear hcz43_1); (try clear hcz43_2); (try clear hcz43_3); (try clear hcz43_4); (try clear hcz43_5); (try clear hcz43_6); (try clear hcz43_7); (try clear hcz44_0); (try clear hcz44_1); (try clear hcz44_2); (try clear hcz44_3); (try clear hcz44_4); (try clear hcz44_5); (try clear hcz44_6); (try clear hcz44_7); (try clear hcz45_0); (try clear hcz45_1); (try clear hcz45_2); (try clear hcz45_3); (try clear hcz45_4); (try clear hcz45_5); (try clear hcz45_6); (try clear hcz45_7); (try clear hcz46_0); (try clear hcz46_1); (try clear hcz46_2); (try clear hcz46_3); (try clear hcz46_4); (try clear hcz46_5); (try clear hcz46_6); (try clear hcz46_7); (try clear hcz50_0); (try clear hcz50_1); (try clear hcz50_2); (try clear hcz50_3); (try clear hcz50_4); (try clear hcz50_5); (try clear hcz50_6); (try clear hcz50_7); (try clear hcz51_0); (try clear hcz51_1); (try clear hcz51_2); (try clear hcz51_3); (try clear hcz51_4); (try clear hcz51_5); (try clear hcz51_6); (try clear hcz51_7); (try clear hcz55_0); (try clear hcz55_1); (try clear hcz55_2); (try clear hcz55_3); (try clear hcz55_4); (try clear hcz55_5); (try clear hcz55_6); (try clear hcz55_7); (try clear hcz56_0); (try clear hcz56_1); (try clear hcz56_2); (try clear hcz56_3); (try clear hcz56_4); (try clear hcz56_5); (try clear hcz56_6); (try clear hcz56_7); (try clear hcz57_0); (try clear hcz57_1); (try clear hcz57_2); (try clear hcz57_3); (try clear hcz57_4); (try clear hcz57_5); (try clear hcz57_6); (try clear hcz57_7); (try clear hcz58_0); (try clear hcz58_1); (try clear hcz58_2); (try clear hcz58_3); (try clear hcz58_4); (try clear hcz58_5); (try clear hcz58_6); (try clear hcz58_7); (try clear hcz59_0); (try clear hcz59_1); (try clear hcz59_2); (try clear hcz59_3); (try clear hcz59_4); (try clear hcz59_5); (try clear hcz59_6); (try clear hcz59_7); (try clear hcz60_0); (try clear hcz60_1); (try clear hcz60_2); (try clear hcz60_3); (try clear hcz60_4); (try clear hcz60_5); (try clear hcz60_6); (try clear hcz60_7); (try clear hcz64_0); (try clear hcz64_1); (try clear hcz64_2); (try clear hcz64_3); (try clear hcz64_4); (try clear hcz64_5); (try clear hcz64_6); (try clear hcz64_7); (try clear hcz67_0); (try clear hcz67_1); (try clear hcz67_2); (try clear hcz67_3); (try clear hcz67_4); (try clear hcz67_5); (try clear hcz67_6); (try clear hcz67_7); (try clear hz74); (try clear hz75); (try clear hz82); (try clear hz83); (try clear hz85); (try clear hz88); (try clear hz89); (try clear hz91); (try clear hz94); (try clear hz95); (try clear hcz97_0); (try clear hcz97_1); (try clear hcz97_2); (try clear hcz97_3); (try clear hcz97_4); (try clear hcz97_5); (try clear hcz97_6); (try clear hcz97_7); (try clear hcz99_0); (try clear hcz99_1); (try clear hcz99_2); (try clear hcz99_3); (try clear hcz99_4); (try clear hcz99_5); (try clear hcz99_6); (try clear hcz99_7); (try clear hfz24_0); (try clear hfz24_1); (try clear hfz24_2); (try clear hfz24_3); (try clear hfz24_4); (try clear hfz24_5); (try clear hfz24_6); (try clear hfz24_7); (try clear hfz25_0); (try clear hfz25_1); (try clear hfz25_2); (try clear hfz25_3); (try clear hfz25_4); (try clear hfz25_5); (try clear hfz25_6); (try clear hfz25_7); (try clear hfz29_0); (try clear hfz29_1); (try clear hfz29_2); (try clear hfz29_3); (try clear hfz29_4); (try clear hfz29_5); (try clear hfz29_6); (try clear hfz29_7); (try clear hfz30_0); (try clear hfz30_1); (try clear hfz30_2); (try clear hfz30_3); (try clear hfz30_4); (try clear hfz30_5); (try clear hfz30_6); (try clear hfz30_7); (try clear hfz31_0); (try clear hfz31_1); (try clear hfz31_2); (try clear hfz31_3); (try clear hfz31_4); (try clear hfz31_5); (try clear hfz31_6); (try clear hfz31_7); (try clear hfz32_0); (try clear hfz32_1); (try clear hfz32_2); (try clear hfz32_3); (try clear hfz32_4); (try clear hfz32_5); (try clear hfz32_6); (try clear hfz32_7); (try clear hfz33_0); (try clear hfz33_1); (try clear hfz33_2); (try clear hfz33_3); (try clear hfz33_4); (try clear hfz33_5); (try clear hfz33_6); (try clear hfz33_7); (try clear hfz38_0); (try clear hfz38_1); (try clear hfz38_2); (try clear hfz38_3); (try clear hfz38_4); (try clear hfz38_5); (try clear hfz38_6); (try clear hfz38_7); (try clear hfz39_0); (try clear hfz39_1); (try clear hfz39_2); (try clear hfz39_3); (try clear hfz39_4); (try clear hfz39_5); (try clear hfz39_6); (try clear hfz39_7); (try clear hfz43_0); (try clear hfz43_1); (try clear hfz43_2); (try clear hfz43_3); (try clear hfz43_4); (try clear hfz43_5); (try clear hfz43_6); (try clear hfz43_7); (try clear hfz44_0); (try clear hfz44_1); (try clear hfz44_2); (try clear hfz44_3); (try clear hfz44_4); (try clear hfz44_5); (try clear hfz44_6); (try clear hfz44_7); (try clear hfz45_0); (try clear hfz45_1); (try clear hfz45_2); (try clear hfz45_3); (try clear hfz45_4); (try clear hfz45_5); (try clear hfz45_6); (try clear hfz45_7); (try clear hfz46_0); (try clear hfz46_1); (try clear hfz46_2); (try clear hfz46_3); (try clear hfz46_4); (try clear hfz46_5); (try clear hfz46_6); (try clear hfz46_7); (try clear hfz50_0); (try clear hfz50_1); (try clear hfz50_2); (try clear hfz50_3); (try clear hfz50_4); (try clear hfz50_5); (try clear hfz50_6); (try clear hfz50_7); (try clear hfz51_0); (try clear hfz51_1); (try clear hfz51_2); (try clear hfz51_3); (try clear hfz51_4); (try clear hfz51_5); (try clear hfz51_6); (try clear hfz51_7); (try clear hfz55_0); (try clear hfz55_1); (try clear hfz55_2); (try clear hfz55_3); (try clear hfz55_4); (try clear hfz55_5); (try clear hfz55_6); (try clear hfz55_7); (try clear hfz56_0); (try clear hfz56_1); (try clear hfz56_2); (try clear hfz56_3); (try clear hfz56_4); (try clear hfz56_5); (try clear hfz56_6); (try clear hfz56_7); (try clear hfz57_0); (try clear hfz57_1); (try clear hfz57_2); (try clear hfz57_3); (try clear hfz57_4); (try clear hfz57_5); (try clear hfz57_6); (try clear hfz57_7); (try clear hfz58_0); (try clear hfz58_1); (try clear hfz58_2); (try clear hfz58_3); (try clear hfz58_4); (try clear hfz58_5); (try clear hfz58_6); (try clear hfz58_7); (try clear hfz59_0); (try clear hfz59_1); (try clear hfz59_2); (try clear hfz59_3); (try clear hfz59_4); (try clear hfz59_5); (try clear hfz59_6); (try clear hfz59_7); (try clear hfz60_0); (try clear hfz60_1); (try clear hfz60_2); (try clear hfz60_3); (try clear hfz60_4); (try clear hfz60_5); (try clear hfz60_6); (try clear hfz60_7); (try clear hfz64_0); (try clear hfz64_1); (try clear hfz64_2); (try clear hfz64_3); (try clear hfz64_4); (try clear hfz64_5); (try clear hfz64_6); (try clear hfz64_7); (try clear hfz67_0); (try clear hfz67_1); (try clear hfz67_2); (try clear hfz67_3); (try clear hfz67_4); (try clear hfz67_5); (try clear hfz67_6); (try clear hfz67_7); (try clear hfz97_0); (try clear hfz97_1); (try clear hfz97_2); (try clear hfz97_3); (try clear hfz97_4); (try clear hfz97_5); (try clear hfz97_6); (try clear hfz97_7); (try clear hfz99_0); (try clear hfz99_1); (try clear hfz99_2); (try clear hfz99_3); (try clear hfz99_4); (try clear hfz99_5); (try clear hfz99_6); (try clear hfz99_7); (try clear hx155_0); (try clear hx155_1); (try clear p155); (try clear q155); obtain ⟨x103_3, rfl, HA, HK3, BK153, HB⟩ := hrel
                      cases gk with
                      | zero => exact absurd HA.out (by simp [spec_StmOK.l1])
                      | succ k3 =>
                        have H := HA.out; clear HA; simp only [spec_StmOK.l1] at H; by_cases c100 : x103_3 < (l0_3.length : Int)
                        · rw [if_pos c100] at H; have c100b0 : decide (x103_3 < (l0_3.length : Int)) = true := decide_eq_true c100; clear c100; by_cases c101 : 0 ≤ x103_3
                          · rw [if_pos c101] at H; have c101b0 : decide (0 ≤ x103_3) = true := decide_eq_true c101; clear c101; by_cases c102 : x103_3 < (l0_3.length : Int)
                            · rw [if_pos c102] at H; have c102b0 : decide (x103_3 < (l0_3.length : Int)) = true := decide_eq_true c102; clear c102; by_cases c103 : (l0_3.length : Int) > 20
                              · rw [if_pos c103] at H; have c103b0 : decide (20 < (l0_3.length : Int)) = true := decide_eq_true c103; have c103b1 : decide (20 < l0_3.length) = true := decide_eq_true (by omega); clear c103; obtain rfl := Option.some.inj H; have p159 : 0 ≤ (x103_3 : Int) := of_decide_eq_true qa; have q159 : x103_3 < (l0_3.length : Int) := of_decide_eq_true qa; obtain ⟨ad159, e159, hx159_0, hx159_1, hx159_2⟩ := at_T116 HR0_3.out x103_3 p159 q159; cases e159; replace hx159_0 := (HB.out.cell (World.block_lt_of_cell? w _ hx159_0)).trans hx159_0; replace hx159_1 := (HB.out.cell (World.block_lt_of_cell? w _ hx159_1)).trans hx159_1; replace hx159_2 := (HB.out.cell (World.block_lt_of_cell? w _ hx159_2)).trans hx159_2; replace p159 := eq_true p159; replace q159 := eq_true q159; go_wp2_with (first | ((with_reducible refine gds (N := 7) rfl ?_); (try (refine gate_guard (by rfl) ?_; dsimp only)); refine qbx 7 #[.int .i64 0, .int .i64 0, .string (⟨#[]⟩ : ByteArray)] 116 ?_; intro gb160 hg w104 hbox hb; have BK160 := qK (hbox); have GW160 := qK ((qW : w.heap.size ≤ gb160)); have GE160 := GW160; replace HB := qHB HB hb; have NB153_160 := qK (qlt BK153 hg); have NB160_153 := qK (qgt BK153 hg); replace BK153 := qbb BK153 hb; clear hb hbox hg; have hnb105 := NB160_153.out; have hnc105 := NB153_160.out; have hz106 := qz3 BK160.out; have hz107 := qz8 BK153.out)); go_ret; exact ⟨qR, qB⟩
                              · rw [if_neg c103] at H; have c103b0 : decide (20 < (l0_3.length : Int)) = false := decide_eq_false c103; have c103b1 : decide (20 < l0_3.length) = false := decide_eq_false (by omega); clear c103; replace H := Option.bind_eq_some_iff.mp H; obtain ⟨t161, A1080, H⟩ := H; have A108 := qK A1080; clear A1080; by_cases c109 : t161 = true
                                · subst c109; rw [if_pos rfl] at H; have H' := qK H; clear H; have p159 : 0 ≤ (x103_3 : Int) := of_decide_eq_true qa; have q159 : x103_3 < (l0_3.length : Int) := of_decide_eq_true qa; obtain ⟨ad159, e159, hx159_0, hx159_1, hx159_2⟩ := at_T116 HR0_3.out x103_3 p159 q159; cases e159; replace hx159_0 := (HB.out.cell (World.block_lt_of_cell? w _ hx159_0)).trans hx159_0; replace hx159_1 := (HB.out.cell (World.block_lt_of_cell? w _ hx159_1)).trans hx159_1; replace hx159_2 := (HB.out.cell (World.block_lt_of_cell? w _ hx159_2)).trans hx159_2; replace p159 := eq_true p159; replace q159 := eq_true q159; go_wp2_with (first | ((with_reducible refine gds (N := 7) rfl ?_); (try (refine gate_guard (by rfl) ?_; dsimp only)); refine qbx 7 #[.int .i64 0, .int .i64 0, .string (⟨#[]⟩ : ByteArray)] 116 ?_; intro gb160 hg w110 hbox hb; have BK160 := qK (hbox); have GW160 := qK ((qW : w.heap.size ≤ gb160)); have GE160 := GW160; replace HB := qHB HB hb; have NB153_160 := qK (qlt BK153 hg); have NB160_153 := qK (qgt BK153 hg); replace BK153 := qbb BK153 hb; clear hb hbox hg; have hnb111 := NB160_153.out; have hnc111 := NB153_160.out; have hz112 := qz3 BK160.out; have hz113 := qz8 BK153.out) | (go_at_call 93; (with_reducible refine (spec_l4Value.calls k3 ((rd_T116 l0_3 x103_3).f0) ((rd_T116 l0_3 x103_3).f1) ((rd_T116 l0_3 x103_3).f2) true _ A108.out).mono ?_); rintro e w114 ⟨rfl, hb⟩; replace BK153 := qK (bbe (g := gb153) (o := .cells #[.int .i64 a0_0, .string a0_1, .slice A0_2 l0_2.length c0_2, .slice (some ad159) l0_3.length c0_3, .string a0_4, .slice A0_5 l0_5.length c0_5, .slice A0_6 l0_6.length c0_6, .slice A0_7 l0_7.length c0_7] 100 (0, 0)) (by (with_reducible repeat (first | refine bdN ?_ _ | refine bkD ?_ | refine bkA ?_ _)); refine bfa ?_ NB153_160.out _; (with_reducible repeat (first | refine bdN ?_ _ | refine bkD ?_ | refine bkA ?_ _)); refine bfa ?_ NB153_160.out _; (with_reducible repeat (first | refine bdN ?_ _ | refine bkD ?_ | refine bkA ?_ _)); refine bfa ?_ NB153_160.out _; (with_reducible repeat (first | refine bdN ?_ _ | refine bkD ?_ | refine bkA ?_ _)); exact BK153.out) hb); replace BK160 := qK (bbe (g := gb160) (o := .cells #[.int .i64 ((rd_T116 l0_3 x103_3).f0), .int .i64 ((rd_T116 l0_3 x103_3).f1), .string ((rd_T116 l0_3 x103_3).f2)] 116 (0, 0)) (by (with_reducible repeat (first | refine bdN ?_ _ | refine bkD ?_ | refine bkA ?_ _)); refine bpu (cs := #[.int .i64 ((rd_T116 l0_3 x103_3).f0), .int .i64 ((rd_T116 l0_3 x103_3).f1), .string (⟨#[]⟩ : ByteArray)]) ?_ 2 _ rfl; (with_reducible repeat (first | refine bdN ?_ _ | refine bkD ?_ | refine bkA ?_ _)); refine bpu (cs := #[.int .i64 ((rd_T116 l0_3 x103_3).f0), .int .i64 0, .string (⟨#[]⟩ : ByteArray)]) ?_ 1 _ rfl; (with_reducible repeat (first | refine bdN ?_ _ | refine bkD ?_ | refine bkA ?_ _)); refine bpu (cs := #[.int .i64 0, .int .i64 0, .string (⟨#[]⟩ : ByteArray)]) ?_ 0 _ rfl; (with_reducible repeat (first | refine bdN ?_ _ | refine bkD ?_ | refine bkA ?_ _)); exact BK160.out) hb); replace HB := qHB HB hb; (try clear hb); (try clear hb2); (try clear hk); (try clear hi))); go_roundg k3
                                  case measure => have := HJ3.out; have := HJ61.out; have := HK3.out; omega
                                  case rel => exact ⟨(wrap64 (x103_3 + 1)), qS, H', ⟨by have := HJ3.out; have := HJ61.out; have := HK3.out; omega⟩, ⟨by (with_reducible repeat (first | refine bdN ?_ _ | refine bkD ?_ | refine bkA ?_ _)); exact BK153.out⟩, ⟨qB⟩⟩
                                · replace c109 := Bool.eq_false_iff.mpr c109; subst c109; rw [if_neg qff] at H; obtain rfl := Option.some.inj H; have p159 : 0 ≤ (x103_3 : Int) := of_decide_eq_true qa; have q159 : x103_3 < (l0_3.length : Int) := of_decide_eq_true qa; obtain ⟨ad159, e159, hx159_0, hx159_1, hx159_2⟩ := at_T116 HR0_3.out x103_3 p159 q159; cases e159; replace hx159_0 := (HB.out.cell (World.block_lt_of_cell? w _ hx159_0)).trans hx159_0; replace hx159_1 := (HB.out.cell (World.block_lt_of_cell? w _ hx159_1)).trans hx159_1; replace hx159_2 := (HB.out.cell (World.block_lt_of_cell? w _ hx159_2)).trans hx159_2; replace p159 := eq_true p159; replace q159 := eq_true q159; go_wp2_with (first | ((with_reducible refine gds (N := 7) rfl ?_); (try (refine gate_guard (by rfl) ?_; dsimp only)); refine qbx 7 #[.int .i64 0, .int .i64 0, .string (⟨#[]⟩ : ByteArray)] 116 ?_; intro gb160 hg w115 hbox hb; have BK160 := qK (hbox); have GW160 := qK ((qW : w.heap.size ≤ gb160)); have GE160 := GW160; replace HB := qHB HB hb; have NB153_160 := qK (qlt BK153 hg); have NB160_153 := qK (qgt BK153 hg); replace BK153 := qbb BK153 hb; clear hb hbox hg; have hnb116 := NB160_153.out; have hnc116 := NB153_160.out; have hz117 := qz3 BK160.out; have hz118 := qz8 BK153.out) | (go_at_call 93; (with_reducible refine (spec_l4Value.calls k3 ((rd_T116 l0_3 x103_3).f0) ((rd_T116 l0_3 x103_3).f1) ((rd_T116 l0_3 x103_3).f2) false _ A108.out).mono ?_); rintro e w119 ⟨rfl, hb⟩; replace BK153 := qK (bbe (g := gb153) (o := .cells #[.int .i64 a0_0, .string a0_1, .slice A0_2 l0_2.length c0_2, .slice (some ad159) l0_3.length c0_3, .string a0_4, .slice A0_5 l0_5.length c0_5, .slice A0_6 l0_6.length c0_6, .slice A0_7 l0_7.length c0_7] 100 (0, 0)) (by (with_reducible repeat (first | refine bdN ?_ _ | refine bkD ?_ | refine bkA ?_ _)); refine bfa ?_ NB153_160.out _; (with_reducible repeat (first | refine bdN ?_ _ | refine bkD ?_ | refine bkA ?_ _)); refine bfa ?_ NB153_160.out _; (with_reducible repeat (first | refine bdN ?_ _ | refine bkD ?_ | refine bkA ?_ _)); refine bfa ?_ NB153_160.out _; (with_reducible repeat (first | refine bdN ?_ _ | refine bkD ?_ | refine bkA ?_ _)); exact BK153.out) hb); replace BK160 := qK (bbe (g := gb160) (o := .cells #[.int .i64 ((rd_T116 l0_3 x103_3).f0), .int .i64 ((rd_T116 l0_3 x103_3).f1), .string ((rd_T116 l0_3 x103_3).f2)] 116 (0, 0)) (by (with_reducible repeat (first | refine bdN ?_ _ | refine bkD ?_ | refine bkA ?_ _)); refine bpu (cs := #[.int .i64 ((rd_T116 l0_3 x103_3).f0), .int .i64 ((rd_T116 l0_3 x103_3).f1), .string (⟨#[]⟩ : ByteArray)]) ?_ 2 _ rfl; (with_reducible repeat (first | refine bdN ?_ _ | refine bkD ?_ | refine bkA ?_ _)); refine bpu (cs := #[.int .i64 ((rd_T116 l0_3 x103_3).f0), .int .i64 0, .string (⟨#[]⟩ : ByteArray)]) ?_ 1 _ rfl; (with_reducible repeat (first | refine bdN ?_ _ | refine bkD ?_ | refine bkA ?_ _)); refine bpu (cs := #[.int .i64 0, .int .i64 0, .string (⟨#[]⟩ : ByteArray)]) ?_ 0 _ rfl; (with_reducible repeat (first | refine bdN ?_ _ | refine bkD ?_ | refine bkA ?_ _)); exact BK160.out) hb); replace HB := qHB HB hb; (try clear hb); (try clear hb2); (try clear hk); (try clear hi))); go_ret; exact ⟨qR, qB⟩
                            · rw [if_neg c102] at H; exact absurd H (by simp)
                          · rw [if_neg c101] at H; exact absurd H (by simp)
                        · rw [if_neg c100] at H; have c100b0 : decide (x103_3 < (l0_3.length : Int)) = false := decide_eq_false c100; clear c100; obtain rfl := Option.some.inj H; obtain ⟨hcz120_0, hcz120_1, hcz120_2, hcz120_3, hcz120_4, hcz120_5, hcz120_6, hcz120_7⟩ := zC8 BK153.out; obtain ⟨hfz120_0, hfz120_1, hfz120_2, hfz120_3, hfz120_4, hfz120_5, hfz120_6, hfz120_7⟩ := zF8 BK153.out; go_wp2; go_ret; exact ⟨qR, qB⟩
                  · rw [if_neg c98] at H; have c98b0 : (a0_0 == 2) = false := beq_eq_false_iff_ne.mpr c98; have c98b1 : (a0_0 != 2) = true := bne_iff_ne.mpr c98; by_cases c121 : a0_0 = 3
                    · rw [if_pos c121] at H; have c121b0 : (a0_0 == 3) = true := beq_iff_eq.mpr c121; have c121b1 : (a0_0 != 3) = false := bne_eq_false_iff_eq.mpr c121; clear c121; replace H := Option.bind_eq_some_iff.mp H; obtain ⟨t162, A1220, H⟩ := H; have A122 := qK A1220; clear A1220; by_cases c123 : t162 = true
                      · subst c123; rw [if_pos rfl] at H; replace H := Option.bind_eq_some_iff.mp H; obtain ⟨t163, A1240, H⟩ := H; have A124 := qK A1240; clear A1240; by_cases c125 : t163 = true
                        · subst c125; rw [if_pos rfl] at H; replace H := Option.bind_eq_some_iff.mp H; obtain ⟨t164, A1260, H⟩ := H; have A126 := qK A1260; clear A1260; obtain rfl := Option.some.inj H; obtain ⟨hcz127_0, hcz127_1, hcz127_2, hcz127_3, hcz127_4, hcz127_5, hcz127_6, hcz127_7⟩ := zC8 BK153.out; obtain ⟨hfz127_0, hfz127_1, hfz127_2, hfz127_3, hfz127_4, hfz127_5, hfz127_6, hfz127_7⟩ := zF8 BK153.out; go_wp2_with (first | ((with_reducible refine gcl (f := 91) rfl ?_); refine goesL_ (some 125) rfl rfl Try.func91 (by kernel_rfl) rfl #[.string a0_4] rfl qA ?_; (with_reducible refine (spec_l4Name.calls kj61 a0_4 true _ A122.out).mono ?_); rintro e w128 ⟨rfl, hb⟩; refine ⟨_, rfl, ?_⟩; replace BK153 := qbb BK153 hb; replace HB := qHB HB hb; (try clear hb); (try clear hb2); (try clear hk); (try clear hi); have hz129 := qz8 BK153.out) | (go_at_call 94; (with_reducible refine (spec_l4Exp.calls kj61 _ _ l0_5 true _ ?side1 ?side2 A124.out).mono ?_); (case side1 => exact qC HR0_5); (case side2 => exact HC0_5.out); rintro e w130 ⟨rfl, hb⟩; replace BK153 := qbb BK153 hb; replace HB := qHB HB hb; (try clear hb); (try clear hb2); (try clear hk); (try clear hi); have hz131 := qz8 BK153.out) | (go_at_call 95; (with_reducible refine (spec_l4Where.calls kj61 _ _ l0_6 t164 _ ?side1 ?side2 A126.out).mono ?_); (case side1 => exact qC HR0_6); (case side2 => exact HC0_6.out); rintro e w132 ⟨rfl, hb⟩; replace BK153 := qbb BK153 hb; replace HB := qHB HB hb; (try clear hb); (try clear hb2); (try clear hk); (try clear hi))); go_ret; exact ⟨qR, qB⟩
                        · replace c125 := Bool.eq_false_iff.mpr c125; subst c125; rw [if_neg qff] at H; obtain rfl := Option.some.inj H; obtain ⟨hcz133_0, hcz133_1, hcz133_2, hcz133_3, hcz133_4, hcz133_5, hcz133_6, hcz133_7⟩ := zC8 BK153.out; obtain ⟨hfz133_0, hfz133_1, hfz133_2, hfz133_3, hfz133_4, hfz133_5, hfz133_6, hfz133_7⟩ := zF8 BK153.out; go_wp2_with (first | ((with_reducible refine gcl (f := 91) rfl ?_); refine goesL_ (some 125) rfl rfl Try.func91 (by kernel_rfl) rfl #[.string a0_4] rfl qA ?_; (with_reducible refine (spec_l4Name.calls kj61 a0_4 true _ A122.out).mono ?_); rintro e w134 ⟨rfl, hb⟩; refine ⟨_, rfl, ?_⟩; replace BK153 := qbb BK153 hb; replace HB := qHB HB hb; (try clear hb); (try clear hb2); (try clear hk); (try clear hi); have hz135 := qz8 BK153.out) | (go_at_call 94; (with_reducible refine (spec_l4Exp.calls kj61 _ _ l0_5 false _ ?side1 ?side2 A124.out).mono ?_); (case side1 => exact qC HR0_5); (case side2 => exact HC0_5.out); rintro e w136 ⟨rfl, hb⟩; replace BK153 := qbb BK153 hb; replace HB := qHB HB hb; (try clear hb); (try clear hb2); (try clear hk); (try clear hi))); go_ret; exact ⟨qR, qB⟩
                      · replace c123 := Bool.eq_false_iff.mpr c123; subst c123; rw [if_neg qff] at H; obtain rfl := Option.some.inj H; obtain ⟨hcz137_0, hcz137_1, hcz137_2, hcz137_3, hcz137_4, hcz137_5, hcz137_6, hcz137_7⟩ := zC8 BK153.out; obtain ⟨hfz137_0, hfz137_1, hfz137_2, hfz137_3, hfz137_4, hfz137_5, hfz137_6, hfz137_7⟩ := zF8 BK153.out; go_wp2_with (first | ((with_reducible refine gcl (f := 91) rfl ?_); refine goesL_ (some 125) rfl rfl Try.func91 (by kernel_rfl) rfl #[.string a0_4] rfl qA ?_; (with_reducible refine (spec_l4Name.calls kj61 a0_4 false _ A122.out).mono ?_); rintro e w138 ⟨rfl, hb⟩; refine ⟨_, rfl, ?_⟩; replace BK153 := qbb BK153 hb; replace HB := qHB HB hb; (try clear hb); (try clear hb2); (try clear hk); (try clear hi))); go_ret; exact ⟨qR, qB⟩
                    · rw [if_neg c121] at H; have c121b0 : (a0_0 == 3) = false := beq_eq_false_iff_ne.mpr c121; have c121b1 : (a0_0 != 3) = true := bne_iff_ne.mpr c121; by_cases c139 : a0_0 = 4
                      · rw [if_pos c139] at H; have c139b0 : (a0_0 == 4) = true := beq_iff_eq.mpr c139; have c139b1 : (a0_0 != 4) = false := bne_eq_false_iff_eq.mpr c139; clear c139; replace H := Option.bind_eq_some_iff.mp H; obtain ⟨t165, A1400, H⟩ := H; have A140 := qK A1400; clear A1400; obtain rfl := Option.some.inj H; obtain ⟨hcz141_0, hcz141_1, hcz141_2, hcz141_3, hcz141_4, hcz141_5, hcz141_6, hcz141_7⟩ := zC8 BK153.out; obtain ⟨hfz141_0, hfz141_1, hfz141_2, hfz141_3, hfz141_4, hfz141_5, hfz141_6, hfz141_7⟩ := zF8 BK153.out; go_wp2_with (first | ((with_reducible refine gcl (f := 95) rfl ?_); refine goesL_ (some 140) rfl rfl Try.func95 (by kernel_rfl) rfl #[.slice A0_6 l0_6.length c0_6] rfl qA ?_; (with_reducible refine (spec_l4Where.calls kj61 _ _ l0_6 t165 _ ?side1 ?side2 A140.out).mono ?_); (case side1 => exact qC HR0_6); (case side2 => exact HC0_6.out); rintro e w142 ⟨rfl, hb⟩; refine ⟨_, rfl, ?_⟩; replace BK153 := qbb BK153 hb; replace HB := qHB HB hb; (try clear hb); (try clear hb2); (try clear hk); (try clear hi))); go_ret; exact ⟨qR, qB⟩
                      · rw [if_neg c139] at H; have c139b0 : (a0_0 == 4) = false := beq_eq_false_iff_ne.mpr c139; have c139b1 : (a0_0 != 4) = true := bne_iff_ne.mpr c139; by_cases c143 : a0_0 = 5
                        · rw [if_pos c143] at H; have c143b0 : (a0_0 == 5) = true := beq_iff_eq.mpr c143; have c143b1 : (a0_0 != 5) = false := bne_eq_false_iff_eq.mpr c143; clear c143; have H' := qK H; clear H; obtain ⟨hcz144_0, hcz144_1, hcz144_2, hcz144_3, hcz144_4, hcz144_5, hcz144_6, hcz144_7⟩ := zC8 BK153.out; obtain ⟨hfz144_0, hfz144_1, hfz144_2, hfz144_3, hfz144_4, hfz144_5, hfz144_6, hfz144_7⟩ := zF8 BK153.out; go_wp2; go_loopg [146] kj61 (fun kq v146 w' => ∃ (x146_3 : Int), v146 = .int .i64 x146_3 ∧ Aside0 (spec_StmOK.l2 kq l0_7 (l0_7.length : Int) x146_3 a0_0 a0_1 l0_2 l0_3 a0_4 l0_5 l0_6 l0_7 = some r) ∧ Aside0 (kq ≤ kj61) ∧ Aside0 (w'.heap[gb153]? = some (.cells #[.int .i64 a0_0, .string a0_1, (.slice A0_2 l0_2.length c0_2), (.slice A0_3 l0_3.length c0_3), .string a0_4, (.slice A0_5 l0_5.length c0_5), (.slice A0_6 l0_6.length c0_6), (.slice A0_7 l0_7.length c0_7)] 100 (0, 0))) ∧ Aside0 (Below w.heap.size w w'))
                          case atStart => exact ⟨(0), qS, H', ⟨Nat.le_refl _⟩, ⟨by (with_reducible repeat (first | refine bdN ?_ _ | refine bkD ?_ | refine bkA ?_ _)); exact BK153.out⟩, ⟨qB⟩⟩
                          case round =>
                            clear H'; (try clear c1); (try clear p1); (try clear q1); (try clear hx1); (try clear p2); (try clear p6); (try clear c9); (try clear c10); (try clear c11); (try clear c12); (try clear c13); (try clear c14); (try clear p15); (try clear q15); (try clear hx15); (try clear p64); (try clear c91); (try clear c95); (try clear c98); (try clear c98b0); (try clear c98b1); (try clear c100); (try clear c100b0); (try clear c101); (try clear c101b0); (try clear c102); (try clear c102b0); (try clear c103); (try clear c103b0); (try clear c103b1); (try clear c105); (try clear c109); (try clear c111); (try clear c116); (try clear c121); (try clear c121b0); (try clear c121b1); (try clear c123); (try clear c125); (try clear c139); (try clear c139b0); (try clear c139b1); (try clear c143); (try clear c143b0); (try clear c143b1); (try clear hz106); (try clear hz107); (try clear hz112); (try clear hz113); (try clear hz117); (try clear hz118); (try clear hcz120_0); (try clear hcz120_1); (try clear hcz120_2); (try clear hcz120_3); (try clear hcz120_4); (try clear hcz120_5); (try clear hcz120_6); (try clear hcz120_7); (try clear hcz127_0); (try clear hcz127_1); (try clear hcz127_2); (try clear hcz127_3); (try clear hcz127_4); (try clear hcz127_5); (try clear hcz127_6); (try clear hcz127_7); (try clear hz129); (try clear hz131); (try clear hcz133_0); (try clear hcz133_1); (try clear hcz133_2); (try clear hcz133_3); (try clear hcz133_4); (try clear hcz133_5); (try clear hcz133_6); (try clear hcz133_7); (try clear hz135); (try clear hcz137_0); (try clear hcz137_1); (try clear hcz137_2); (try clear hcz137_3); (try clear hcz137_4); (try clear hcz137_5); (try clear hcz137_6); (try clear hcz137_7); (try clear hcz141_0); (try clear hcz141_1); (try clear hcz141_2); (try clear hcz141_3); (try clear hcz141_4); (try clear hcz141_5); (try clear hcz141_6); (try clear hcz141_7); (try clear hcz144_0); (try clear hcz144_1); (try clear hcz144_2); (try clear hcz144_3); (try clear hcz144_4); (try clear hcz144_5); (try clear hcz144_6); (try clear hcz144_7); (try clear hcz67_1); (try clear hcz67_2); (try clear hcz67_3); (try clear hcz67_4); (try clear hcz67_5); (try clear hcz67_6); (try clear hcz67_7); (try clear hz74); (try clear hz75); (try clear hz82); (try clear hz83); (try clear hz85); (try clear hz88); (try clear hz89); (try clear hz91); (try clear hz94); (try clear hz95); (try clear hcz97_0); (try clear hcz97_1); (try clear hcz97_2); (try clear hcz97_3); (try clear hcz97_4); (try clear hcz97_5); (try clear hcz97_6); (try clear hcz97_7); (try clear hcz99_0); (try clear hcz99_1); (try clear hcz99_2); (try clear hcz99_3); (try clear hcz99_4); (try clear hcz99_5); (try clear hcz99_6); (try clear hcz99_7); (try clear hfz120_0); (try clear hfz120_1); (try clear hfz120_2); (try clear hfz120_3); (try clear hfz120_4); (try clear hfz120_5); (try clear hfz120_6); (try clear hfz120_7); (try clear hfz127_0); (try clear hfz127_1); (try clear hfz127_2); (try clear hfz127_3); (try clear hfz127_4); (try clear hfz127_5); (try clear hfz127_6); (try clear hfz127_7); (try clear hfz133_0); (try clear hfz133_1); (try clear hfz133_2); (try clear hfz133_3); (try clear hfz133_4); (try clear hfz133_5); (try clear hfz133_6); (try clear hfz133_7); (try clear hfz137_0); (try clear hfz137_1); (try clear hfz137_2); (try clear hfz137_3); (try clear hfz137_4); (try clear hfz137_5); (try clear hfz137_6); (try clear hfz137_7); (try clear hfz141_0); (try clear hfz141_1); (try clear hfz141_2); (try clear hfz141_3); (try clear hfz141_4); (try clear hfz141_5); (try clear hfz141_6); (try clear hfz141_7); (try clear hfz144_0); (try clear hfz144_1); (try clear hfz144_2); (try clear hfz144_3); (try clear hfz144_4); (try clear hfz144_5); (try clear hfz144_6); (try clear hfz144_7); (try clear hfz24_0); (try clear hfz24_1); (try clear hfz24_2); (try clear hfz24_3); (try clear hfz24_4); (try clear hfz24_5); (try clear hfz24_6); (try clear hfz24_7); (try clear hfz25_0); (try clear hfz25_1); (try clear hfz25_2); (try clear hfz25_3); (try clear hfz25_4); (try clear hfz25_5); (try clear hfz25_6); (try clear hfz25_7); (try clear hfz29_0); (try clear hfz29_1); (try clear hfz29_2); (try clear hfz29_3); (try clear hfz29_4); (try clear hfz29_5); (try clear hfz29_6); (try clear hfz29_7); (try clear hfz30_0); (try clear hfz30_1); (try clear hfz30_2); (try clear hfz30_3); (try clear hfz30_4); (try clear hfz30_5); (try clear hfz30_6); (try clear hfz30_7); (try clear hfz31_0); (try clear hfz31_1); (try clear hfz31_2); (try clear hfz31_3); (try clear hfz31_4); (try clear hfz31_5); (try clear hfz31_6); (try clear hfz31_7); (try clear hfz32_0); (try clear hfz32_1); (try clear hfz32_2); (try clear hfz32_3); (try clear hfz32_4); (try clear hfz32_5); (try clear hfz32_6); (try clear hfz32_7); (try clear hfz33_0); (try clear hfz33_1); (try clear hfz33_2); (try clear hfz33_3); (try clear hfz33_4); (try clear hfz33_5); (try clear hfz33_6); (try clear hfz33_7); (try clear hfz38_0); (try clear hfz38_1); (try clear hfz38_2); (try clear hfz38_3); (try clear hfz38_4); (try clear hfz38_5); (try clear hfz38_6); (try clear hfz38_7); (try clear hfz39_0); (try clear hfz39_1); (try clear hfz39_2); (try clear hfz39_3); (try clear hfz39_4); (try clear hfz39_5); (try clear hfz39_6); (try clear hfz39_7); (try clear hfz43_0); (try clear hfz43_1); (try clear hfz43_2); (try clear hfz43_3); (try clear hfz43_4); (try clear hfz43_5); (try clear hfz43_6); (try clear hfz43_7); (try clear hfz44_0); (try clear hfz44_1); (try clear hfz44_2); (try clear hfz44_3); (try clear hfz44_4); (try clear hfz44_5); (try clear hfz44_6); (try clear hfz44_7); (try clear hfz45_0); (try clear hfz45_1); (try clear hfz45_2); (try clear hfz45_3); (try clear hfz45_4); (try clear hfz45_5); (try clear hfz45_6); (try clear hfz45_7); (try clear hfz46_0); (try clear hfz46_1); (try clear hfz46_2); (try clear hfz46_3); (try clear hfz46_4); (try clear hfz46_5); (try clear hfz46_6); (try clear hfz46_7); (try clear hfz50_0); (try clear hfz50_1); (try clear hfz50_2); (try clear hfz50_3); (try clear hfz50_4); (try clear hfz50_5); (try clear hfz50_6); (try clear hfz50_7); (try clear hfz51_0); (try clear hfz51_1); (try clear hfz51_2); (try clear hfz51_3); (try clear hfz51_4); (try clear hfz51_5); (try clear hfz51_6); (try clear hfz51_7); (try clear hfz55_0); (try clear hfz55_1); (try clear hfz55_2); (try clear hfz55_3); (try clear hfz55_4); (try clear hfz55_5); (try clear hfz55_6); (try clear hfz55_7); (try clear hfz56_0); (try clear hfz56_1); (try clear hfz56_2); (try clear hfz56_3); (try clear hfz56_4); (try clear hfz56_5); (try clear hfz56_6); (try clear hfz56_7); (try clear hfz57_0); (try clear hfz57_1); (try clear hfz57_2); (try clear hfz57_3); (try clear hfz57_4); (try clear hfz57_5); (try clear hfz57_6); (try clear hfz57_7); (try clear hfz58_0); (try clear hfz58_1); (try clear hfz58_2); (try clear hfz58_3); (try clear hfz58_4); (try clear hfz58_5); (try clear hfz58_6); (try clear hfz58_7); (try clear hfz59_0); (try clear hfz59_1); (try clear hfz59_2); (try clear hfz59_3); (try clear hfz59_4); (try clear hfz59_5); (try clear hfz59_6); (try clear hfz59_7); (try clear hfz60_0); (try clear hfz60_1); (try clear hfz60_2); (try clear hfz60_3); (try clear hfz60_4); (try clear hfz60_5); (try clear hfz60_6); (try clear hfz60_7); (try clear hfz64_0); (try clear hfz64_1); (try clear hfz64_2); (try clear hfz64_3); (try clear hfz64_4); (try clear hfz64_5); (try clear hfz64_6); (try clear hfz64_7); (try clear hfz67_0); (try clear hfz67_1); (try clear hfz67_2); (try clear hfz67_3); (try clear hfz67_4); (try clear hfz67_5); (try clear hfz67_6); (try clear hfz67_7); (try clear hfz97_0); (try clear hfz97_1); (try clear hfz97_2); (try clear hfz97_3); (try clear hfz97_4); (try clear hfz97_5); (try clear hfz97_6); (try clear hfz97_7); (try clear hfz99_0); (try clear hfz99_1); (try clear hfz99_2); (try clear hfz99_3); (try clear hfz99_4); (try clear hfz99_5); (try clear hfz99_6); (try clear hfz99_7); (try clear hx155_0); (try clear hx155_1); (try clear hx159_0); (try clear hx159_1); (try clear hx159_2); (try clear p155); (try clear p159); (try clear q155); (try clear q159); obtain ⟨x146_3, rfl, HA, HK3, BK153, HB⟩ := hrel
                            cases gk with
                            | zero => exact absurd HA.out (by simp [spec_StmOK.l2])
                            | succ k3 =>
                              have H := HA.out; clear HA; simp only [spec_StmOK.l2] at H; by_cases c145 : x146_3 < (l0_7.length : Int)
                              · rw [if_pos c145] at H; have c145b0 : decide (x146_3 < (l0_7.length : Int)) = true := decide_eq_true c145; clear c145; by_cases c146 : 0 ≤ x146_3
                                · rw [if_pos c146] at H; have c146b0 : decide (0 ≤ x146_3) = true := decide_eq_true c146; clear c146; by_cases c147 : x146_3 < (l0_7.length : Int)
                                  · rw [if_pos c147] at H; have c147b0 : decide (x146_3 < (l0_7.length : Int)) = true := decide_eq_true c147; clear c147; by_cases c148 : (l0_7.length : Int) > 20
                                    · rw [if_pos c148] at H; have c148b0 : decide (20 < (l0_7.length : Int)) = true := decide_eq_true c148; have c148b1 : decide (20 < l0_7.length) = true := decide_eq_true (by omega); clear c148; obtain rfl := Option.some.inj H; have p166 : 0 ≤ (x146_3 : Int) := of_decide_eq_true qa; have q166 : x146_3 < (l0_7.length : Int) := of_decide_eq_true qa; obtain ⟨ad166, A166_0, c166_0, e166, hx166_0, hl166_0, hi166_0⟩ := at_L8 HR0_7.out x146_3 p166 q166; cases e166; replace hx166_0 := (HB.out.cell (World.block_lt_of_cell? w _ hx166_0)).trans hx166_0; have HR166_0 := qK hi166_0; have HC166_0 := qK hl166_0; clear hi166_0 hl166_0; replace p166 := eq_true p166; replace q166 := eq_true q166; obtain ⟨hcz149_0, hcz149_1, hcz149_2, hcz149_3, hcz149_4, hcz149_5, hcz149_6, hcz149_7⟩ := zC8 BK153.out; obtain ⟨hfz149_0, hfz149_1, hfz149_2, hfz149_3, hfz149_4, hfz149_5, hfz149_6, hfz149_7⟩ := zF8 BK153.out; go_wp2; go_ret; exact ⟨qR, qB⟩
                                    · rw [if_neg c148] at H; have c148b0 : decide (20 < (l0_7.length : Int)) = false := decide_eq_false c148; have c148b1 : decide (20 < l0_7.length) = false := decide_eq_false (by omega); clear c148; replace H := Option.bind_eq_some_iff.mp H; obtain ⟨t167, A1500, H⟩ := H; have A150 := qK A1500; clear A1500; by_cases c151 : t167 = true
                                      · subst c151; rw [if_pos rfl] at H; have H' := qK H; clear H; have p166 : 0 ≤ (x146_3 : Int) := of_decide_eq_true qa; have q166 : x146_3 < (l0_7.length : Int) := of_decide_eq_true qa; obtain ⟨ad166, A166_0, c166_0, e166, hx166_0, hl166_0, hi166_0⟩ := at_L8 HR0_7.out x146_3 p166 q166; cases e166; replace hx166_0 := (HB.out.cell (World.block_lt_of_cell? w _ hx166_0)).trans hx166_0; have HR166_0 := qK hi166_0; have HC166_0 := qK hl166_0; clear hi166_0 hl166_0; replace p166 := eq_true p166; replace q166 := eq_true q166; obtain ⟨hcz152_0, hcz152_1, hcz152_2, hcz152_3, hcz152_4, hcz152_5, hcz152_6, hcz152_7⟩ := zC8 BK153.out; obtain ⟨hfz152_0, hfz152_1, hfz152_2, hfz152_3, hfz152_4, hfz152_5, hfz152_6, hfz152_7⟩ := zF8 BK153.out; go_wp2_with (first | (go_at_call 94; (with_reducible refine (spec_l4Exp.calls k3 _ _ (rd_L8 l0_7 x146_3) true _ ?side1 ?side2 A150.out).mono ?_); (case side1 => exact qC HR166_0); (case side2 => exact HC166_0.out); rintro e w153 ⟨rfl, hb⟩; replace BK153 := qbb BK153 hb; replace HB := qHB HB hb; (try clear hb); (try clear hb2); (try clear hk); (try clear hi))); go_roundg k3
                                        case measure => have := HJ3.out; have := HJ61.out; have := HK3.out; omega
                                        case rel => exact ⟨(wrap64 (x146_3 + 1)), qS, H', ⟨by have := HJ3.out; have := HJ61.out; have := HK3.out; omega⟩, ⟨by (with_reducible repeat (first | refine bdN ?_ _ | refine bkD ?_ | refine bkA ?_ _)); exact BK153.out⟩, ⟨qB⟩⟩
                                      · replace c151 := Bool.eq_false_iff.mpr c151; subst c151; rw [if_neg qff] at H; obtain rfl := Option.some.inj H; have p166 : 0 ≤ (x146_3 : Int) := of_decide_eq_true qa; have q166 : x146_3 < (l0_7.length : Int) := of_decide_eq_true qa; obtain ⟨ad166, A166_0, c166_0, e166, hx166_0, hl166_0, hi166_0⟩ := at_L8 HR0_7.out x146_3 p166 q166; cases e166; replace hx166_0 := (HB.out.cell (World.block_lt_of_cell? w _ hx166_0)).trans hx166_0; have HR166_0 := qK hi166_0; have HC166_0 := qK hl166_0; clear hi166_0 hl166_0; replace p166 := eq_true p166; replace q166 := eq_true q166; obtain ⟨hcz154_0, hcz154_1, hcz154_2, hcz154_3, hcz154_4, hcz154_5, hcz154_6, hcz154_7⟩ := zC8 BK153.out; obtain ⟨hfz154_0, hfz154_1, hfz154_2, hfz154_3, hfz154_4, hfz154_5, hfz154_6, hfz154_7⟩ := zF8 BK153.out; go_wp2_with (first | (go_at_call 94; (with_reducible refine (spec_l4Exp.calls k3 _ _ (rd_L8 l0_7 x146_3) false _ ?side1 ?side2 A150.out).mono ?_); (case side1 => exact qC HR166_0); (case side2 => exact HC166_0.out); rintro e w155 ⟨rfl, hb⟩; replace BK153 := qbb BK153 hb; replace HB := qHB HB hb; (try clear hb); (try clear hb2); (try clear hk); (try clear hi))); go_ret; exact ⟨qR, qB⟩
                                  · rw [if_neg c147] at H; exact absurd H (by simp)
                                · rw [if_neg c146] at H; exact absurd H (by simp)
                              · rw [if_neg c145] at H; have c145b0 : decide (x146_3 < (l0_7.length : Int)) = false := decide_eq_false c145; clear c145; by_cases c156 : (l0_7.length : Int) > 0
                                · rw [if_pos c156] at H; have c156b0 : decide (0 < (l0_7.length : Int)) = true := decide_eq_true c156; have c156b1 : decide (0 < l0_7.length) = true := decide_eq_true (by omega); clear c156; replace H := Option.bind_eq_some_iff.mp H; obtain ⟨t168, A1570, H⟩ := H; have A157 := qK A1570; clear A1570; obtain rfl := Option.some.inj H; obtain ⟨hcz158_0, hcz158_1, hcz158_2, hcz158_3, hcz158_4, hcz158_5, hcz158_6, hcz158_7⟩ := zC8 BK153.out; obtain ⟨hfz158_0, hfz158_1, hfz158_2, hfz158_3, hfz158_4, hfz158_5, hfz158_6, hfz158_7⟩ := zF8 BK153.out; go_wp2_with (first | (go_at_call 95; (with_reducible refine (spec_l4Where.calls k3 _ _ l0_6 t168 _ ?side1 ?side2 A157.out).mono ?_); (case side1 => exact qC HR0_6); (case side2 => exact HC0_6.out); rintro e w159 ⟨rfl, hb⟩; replace BK153 := qbb BK153 hb; replace HB := qHB HB hb; (try clear hb); (try clear hb2); (try clear hk); (try clear hi))); go_ret; exact ⟨qR, qB⟩
                                · rw [if_neg c156] at H; have c156b0 : decide (0 < (l0_7.length : Int)) = false := decide_eq_false c156; have c156b1 : decide (0 < l0_7.length) = false := decide_eq_false (by omega); clear c156; obtain rfl := Option.some.inj H; obtain ⟨hcz160_0, hcz160_1, hcz160_2, hcz160_3, hcz160_4, hcz160_5, hcz160_6, hcz160_7⟩ := zC8 BK153.out; obtain ⟨hfz160_0, hfz160_1, hfz160_2, hfz160_3, hfz160_4, hfz160_5, hfz160_6, hfz160_7⟩ := zF8 BK153.out; go_wp2; go_ret; exact ⟨qR, qB⟩
                        · rw [if_neg c143] at H; have c143b0 : (a0_0 == 5) = false := beq_eq_false_iff_ne.mpr c143; have c143b1 : (a0_0 != 5) = true := bne_iff_ne.mpr c143; obtain rfl := Option.some.inj H; go_wp2; go_ret; exact ⟨qR, qB⟩
  · replace c3 := Bool.eq_false_iff.mpr c3; subst c3; rw [if_neg qff] at H; obtain rfl := Option.some.inj H; go_enter Try.func78, Try.ntmps78; go_wp2_with (first | ((with_reducible refine gds (N := 1) rfl ?_); (try (refine gate_guard (by rfl) ?_; dsimp only)); refine qbx 1 #[.int .i64 a0_0, .string a0_1, .slice A0_2 l0_2.length c0_2, .slice A0_3 l0_3.length c0_3, .string a0_4, .slice A0_5 l0_5.length c0_5, .slice A0_6 l0_6.length c0_6, .slice A0_7 l0_7.length c0_7] 100 ?_; intro gb153 hg w161 hbox hb; have BK153 := qK (hbox); have GW153 := qK ((qW : w.heap.size ≤ gb153)); have GE153 := GW153; replace HB := qHB HB hb; clear hb hbox hg; have hz162 := qz8 BK153.out) | ((with_reducible refine gcl (f := 91) rfl ?_); refine goesL_ (some 12) rfl rfl Try.func91 (by kernel_rfl) rfl #[.string a0_1] rfl qA ?_; (with_reducible refine (spec_l4Name.calls k a0_1 false _ A2.out).mono ?_); rintro e w163 ⟨rfl, hb⟩; refine ⟨_, rfl, ?_⟩; replace BK153 := qbb BK153 hb; replace HB := qHB HB hb; (try clear hb); (try clear hb2); (try clear hk); (try clear hi))); go_ret; exact ⟨qR, qB⟩
end Go.Proofs.Ytoebfjfhdodakaa.L
end
section
set_option linter.unusedVariables false
set_option linter.unusedSimpArgs false
namespace Go.Proofs.Ytoebfjfhdodakaa.L
open Go Go.Lib Go.RowKit Go.Proofs.Ytoebfjfhdodakaa Go.Proofs.YtoebfjfhdodakaaW.PrintWords Go.Proofs.YtoebfjfhdodakaaW.PrintLast Go.Proofs.YtoebfjfhdodakaaW.PrintMore
/-- No cell of the row bears the mark. -/
def freeF (fz : Nat × Nat) (n : Nat) : Prop := fz.2 = 0 ∨ n ≤ fz.1
theorem frozen_free {w : World} {g k : Nat} {cur : Array Value} {t : TypeId} {fz : Nat × Nat} (hg : w.heap[g]? = some (.cells cur t fz)) (hf : freeF fz cur.size) (hk : k < cur.size) : w.frozen? ⟨g, k, none⟩ = false := by
  obtain ⟨lo, hi⟩ := fz
  unfold freeF at hf
  simp only [World.frozen?, hg, Bool.and_eq_false_iff, decide_eq_false_iff_not]
  simp only at hf
  omega
theorem store_free (P : Program) (g o : Nat) (t : TypeId) (fz : Nat × Nat) (vs : List Value) : ∀ (i : Nat) (cur : Array Value) (w : World), w.heap[g]? = some (.cells cur t fz) → freeF fz cur.size → o + i + vs.length ≤ cur.size → (∀ v ∈ vs, v.oneCell' = true) →
    (storeCells ⟨g, o, none⟩ vs i).run P w = .ok () (w.setRow g (cur.toList.take (o + i) ++ vs ++ cur.toList.drop (o + i + vs.length)).toArray) := by
  induction vs with
  | nil =>
    intro i cur w hg _ _ _
    simp only [storeCells, List.append_nil, List.length_nil, Nat.add_zero, List.take_append_drop, Array.toArray_toList]
    rw [setRow_self w g cur t fz hg]
    rfl
  | cons v vs ih =>
    intro i cur w hg hf hl h1
    have hi : o + i < cur.size := by simp at hl; omega
    have hadd : (⟨g, o, none⟩ : Addr).add i = ⟨g, o + i, none⟩ := by unfold Addr.add; split <;> simp_all
    have hst : (store ((⟨g, o, none⟩ : Addr).add i) v).run P w = .ok () (w.setRow g (cur.setIfInBounds (o + i) v)) := by
      rw [hadd, run_store P w _ v _ (h1 v (by simp)), show w.cell? ⟨g, o + i, none⟩ = some cur[o + i] from by simp [World.cell?, hg, hi]]
      simp [frozen_free hg hf hi, setCell_eq_setRow w g (o + i) cur t fz v hg]
    have h2 := ih (i + 1) (cur.setIfInBounds (o + i) v) (w.setRow g (cur.setIfInBounds (o + i) v)) (setRow_heap w g cur _ t _ hg) (by simpa using hf) (by simp at hl ⊢; omega) (fun x hx => h1 x (by simp [hx]))
    simp only [storeCells, Sem.run_bind, hst, Result.andThen_ok, h2, setRow_setRow]
    congr 3
    have e := list_seg_step cur.toList (o + i) v vs (by simp at hl ⊢; omega)
    simpa [Array.toList_setIfInBounds, Nat.add_assoc] using e
/-- A row of the call's own (from block base on) whose first cells are these bytes. -/
def bytRow (w : World) (base : Nat) (e : TypeId) (v : Value) (s : ByteArray) : Prop :=
  ∃ g cap cur fz, v = .slice (some ⟨g, 0, none⟩) s.size cap ∧ base ≤ g ∧ w.heap[g]? = some (.cells cur e fz) ∧ freeF fz cur.size ∧ s.size ≤ cap ∧ cap ≤ maxLen ∧ cur.size = cap ∧ cur.toList.take s.size = strCells s
theorem bytRow_below {w w' : World} {base : Nat} {e : TypeId} {v : Value} {s : ByteArray} (h : bytRow w base e v s) (hb : Below w.heap.size w w') : bytRow w' base e v s := by
  obtain ⟨g, cap, cur, fz, h1, h2, h3, h4⟩ := h
  exact ⟨g, cap, cur, fz, h1, h2, (hb.block g (Array.getElem?_eq_some_iff.1 h3).1).trans h3, h4⟩
theorem bytRow_own {w : World} {base : Nat} {e : TypeId} {v : Value} {s : ByteArray} (h : bytRow w base e v s) : ∀ k, v.ownBlock = some k → base ≤ k ∧ k < w.heap.size := by
  obtain ⟨g, cap, cur, fz, rfl, h2, h3, h4⟩ := h
  intro k hk
  obtain rfl : g = k := by simpa [Value.ownBlock] using hk
  exact ⟨h2, (Array.getElem?_eq_some_iff.1 h3).1⟩
theorem bytRow_set {w : World} {base : Nat} {e : TypeId} {v : Value} {s : ByteArray} (h : bytRow w base e v s) (a : Addr) (u : Value) (hne : some a.block ≠ v.ownBlock) : bytRow (w.setCell a u) base e v s := by
  obtain ⟨g, cap, cur, fz, rfl, h2, h3, h4⟩ := h
  exact ⟨g, cap, cur, fz, rfl, h2, (Below.heap_setCell w a u g (fun e => hne (by rw [← e]; rfl))).trans h3, h4⟩
theorem strCells_append (s t : ByteArray) : strCells (s ++ t) = strCells s ++ strCells t := by
  unfold strCells
  rw [ByteArray.data_append, Array.toList_append, List.map_append]
theorem bytRow_made (w : World) (base : Nat) (e : TypeId) (s : ByteArray) (hb : base ≤ w.heap.size) (hs : s.size ≤ maxLen) : bytRow (bytesWorld w e s) base e (.slice (some ⟨w.heap.size, 0, none⟩) s.size (grownCap w s.size 0 e)) s := by
  have hge := grownCap_ge w s.size 0 e
  have hsz : (bytesCells w e s).size = grownCap w s.size 0 e := by
    unfold bytesCells
    simp only [Array.size_append, Array.size_map, Array.size_replicate]
    have : s.data.size = s.size := rfl
    omega
  refine ⟨w.heap.size, _, _, _, rfl, hb, bytesWorld_at_new w e s, Or.inr (Nat.le_refl _), hge, grownCap_le_maxLen w _ _ e hs, hsz, ?_⟩
  unfold bytesCells
  have hl : (strCells s).length = s.size := strCells_length s
  rw [Array.toList_append, Array.toList_map, show s.data.toList.map (fun b => Value.int .u8 b.toNat) = strCells s from rfl, ← hl]
  exact List.take_left
theorem bytesWorld_below (w0 w : World) (e : TypeId) (s : ByteArray) {B : Nat} (h : Below B w0 w) (hb : B ≤ w.heap.size) : Below B w0 (bytesWorld w e s) := by
  refine h.trans ⟨rfl, rfl, rfl, by rw [bytesWorld_size]; omega, fun k hk => bytesWorld_at_old w e s k (by omega)⟩
theorem bytRow_append {P : Program} {w : World} {base : Nat} {e : TypeId} {v : Value} {s : ByteArray} (t u ty : TypeId) (i : TypeInfo) (ht : P.underlying t = some (.slice e)) (hu : P.underlying u = some .string) (hi : P.info? e = some i) (hz : i.zero = some (.int .u8 0)) (hsize : i.size = 1) (hby : i.bytes = 1)
    (h : bytRow w base e v s) (x : ByteArray) (hsm : s.size + x.size ≤ 1000000000) (hb : base ≤ w.heap.size) :
    ∃ v' w', (Builtin.append_ #[t, u] ty #[v, .string x]).run P w = .ok v' w' ∧ bytRow w' base e v' (s ++ x) ∧ w.grownBy w' v.ownBlock := by
  obtain ⟨g, cap, cur, fz, rfl, hbg, hg, hf, hsc, hcm, hcs, htk⟩ := h
  have hml : maxLen = 9223372036854775807 := rfl
  have hsl : (strCells s).length = s.size := strCells_length s
  have hxl : (strCells x).length = x.size := strCells_length x
  have hone := strCells_oneCell x
  have hsz : (s ++ x).size = s.size + x.size := ByteArray.size_append
  by_cases hroom : s.size + x.size ≤ cap
  · have hfc := run_firstCells_string (P := P) w 1 x
    have hst := store_free P g s.size e fz (strCells x) 0 cur w hg hf (by omega) hone
    simp only [Nat.add_zero, hxl] at hst
    refine ⟨.slice (some ⟨g, 0, none⟩) (s.size + x.size) cap, w.setRow g (cur.toList.take s.size ++ strCells x ++ cur.toList.drop (s.size + x.size)).toArray, ?_, ?_, ?_⟩
    · simp [Builtin.append_, run_underlying ht, run_underlying hu, sizeOf, typeInfo, hi, hsize, Builtin.lenOf, hroom, hfc, Addr.add_lit, hst]
    · refine ⟨g, cap, _, fz, by rw [hsz], hbg, setRow_heap w g cur _ e _ hg, ?_, by omega, hcm, ?_, ?_⟩
      · simp only [List.size_toArray, List.length_append, List.length_take, List.length_drop, Array.length_toList, hxl]
        have : min s.size cur.size + x.size + (cur.size - (s.size + x.size)) = cur.size := by omega
        rw [this]
        exact hf
      · simp only [List.size_toArray, List.length_append, List.length_take, List.length_drop, Array.length_toList, hxl]
        omega
      · rw [htk, strCells_append, hsz]
        have hl : (strCells s ++ strCells x).length = s.size + x.size := by rw [List.length_append, hsl, hxl]
        rw [← hl]
        exact List.take_left
    · exact ⟨rfl, rfl, rfl, by simp, fun k _ hk => setRow_other w g k _ (fun e => hk (by simp [Value.ownBlock, e]))⟩
  · have holds : ∀ j y, (strCells s)[j]? = some y → w.cell? ((⟨g, 0, none⟩ : Addr).add j) = some y := by
      intro j y hj
      have hjs : j < s.size := by rw [← hsl]; exact (List.getElem?_eq_some_iff.1 hj).1
      have hadd : (⟨g, 0, none⟩ : Addr).add j = ⟨g, 0 + j, none⟩ := by unfold Addr.add; split <;> simp_all
      rw [hadd, Nat.zero_add]
      have hc : cur[j]? = some y := by
        rw [← Array.getElem?_toList]
        rw [← htk, List.getElem?_take] at hj
        rw [if_pos hjs] at hj
        exact hj
      simp only [World.cell?, hg]
      exact hc
    have hr := run_append_grow_string (P := P) w t u ty e i (.int .u8 0) ht hu hi hz ⟨g, 0, none⟩ s.size cap (strCells s) (by rw [hsize]; omega) holds x (by omega) (by omega) (by rw [hby]; exact growslice_fits (by omega) (by omega))
    have hge := grownCap_ge w (s.size + x.size) cap e
    refine ⟨_, _, hr, ⟨w.heap.size, _, _, (0, 0), by rw [hsz], hb, heap_alloc_new w.drew _, Or.inl rfl, by rw [hsz]; exact hge, grownCap_le_maxLen w _ _ e (by omega), ?_, ?_⟩, ?_⟩
    · have hz1 : (Value.int IntKind.u8 0).cells.size = 1 := rfl
      simp only [Array.size_append, List.size_toArray, size_zeroCells, hz1, hsl, hxl]
      omega
    · simp only [Array.toList_append, List.append_assoc]
      rw [strCells_append, hsz, ← List.append_assoc]
      have hl : (strCells s ++ strCells x).length = s.size + x.size := by rw [List.length_append, hsl, hxl]
      rw [← hl]
      exact List.take_left
    · exact ⟨rfl, rfl, rfl, by simp, fun k hk _ => heap_alloc_old w.drew _ hk⟩
theorem wpList_bytes_append {P : Program} (w : World) {ops : Array Oper} {rest : List Oper} {o : Oper} {a : Act} {Q : Exit → Act → World → Prop} (hgd : o.guard = none) (sl x : Operand) (t u : TypeId)
    (ho : o.op = .call { callee := .builtin .append, args := #[sl, x], argTypes := #[t, u] }) (base : Nat) (e : TypeId) (hi : (P.info? e).map (fun i => (i.zero, i.size, i.bytes)) = some (some (.int .u8 0), 1, 1)) (ht : P.underlying t = some (.slice e)) (hu : P.underlying u = some .string)
    (v : Value) (s y : ByteArray) (hs : a.eval sl = v) (hx : a.eval x = .string y) (h : bytRow w base e v s) (hsm : s.size + y.size ≤ 1000000000) (hb : base ≤ w.heap.size)
    (hK : ∀ v' w', bytRow w' base e v' (s ++ y) → w.grownBy w' v.ownBlock → wpList P ops Q rest (a.put o.dst v') w') : wpList P ops Q (o :: rest) a w := by
  cases hq : P.info? e with
  | none => rw [hq] at hi; cases hi
  | some i =>
    rw [hq] at hi
    simp only [Option.map_some, Option.some.injEq, Prod.mk.injEq] at hi
    obtain ⟨v', w', hr, h1, h2⟩ := bytRow_append (P := P) t u o.type i ht hu hq hi.1 hi.2.1 hi.2.2 h y hsm hb
    refine wpList_plain hgd fun K hK' => ?_
    unfold Oper.wp execOp
    simp only [ho, resolve, invoke, builtin, Sem.run_bind, Sem.run_pure, Result.andThen_ok, List.map_toArray, List.map_cons, List.map_nil, hs, hx, hr]
    exact hK' _ _ (hK v' w' h1 h2)
theorem wpList_bytes_made {P : Program} (w : World) {ops : Array Oper} {rest : List Oper} {o : Oper} {a : Act} {Q : Exit → Act → World → Prop} (hgd : o.guard = none) (x : Operand) (src dst e : TypeId)
    (ho : o.op = .convert src dst x) (hs : P.underlying src = some .string) (hd : P.underlying dst = some (.slice e)) (he : P.underlying e = some (.int .u8)) (s : ByteArray) (hx : a.eval x = .string s)
    (hK : wpList P ops Q rest (a.put o.dst (.slice (some ⟨w.heap.size, 0, none⟩) s.size (grownCap w s.size 0 e))) (bytesWorld w e s)) : wpList P ops Q (o :: rest) a w := by
  refine wpList_plain hgd fun K hK' => ?_
  have hr := Go.Lib.run_convert_string_bytes (P := P) w src dst e s hs hd he
  unfold Oper.wp
  have hr2 : (execOp a.eval o).run P w = .ok (.value (.slice (some ⟨w.heap.size, 0, none⟩) s.size (grownCap w s.size 0 e))) (bytesWorld w e s) := by
    unfold execOp
    simp only [ho, hx, Sem.run_bind, Sem.run_map]
    rw [hr]
    rfl
  rw [hr2]
  exact hK' _ _ hK
theorem strOfNums_bytes (s : ByteArray) : strOfNums (s.data.toList.map fun b => ((b.toNat : Nat) : Int)) = s := by
  unfold strOfNums
  rw [List.map_map]
  have e1 : (s.data.toList.map ((fun n : Int => UInt8.ofNat n.toNat) ∘ fun b : UInt8 => ((b.toNat : Nat) : Int))) = s.data.toList := by
    have e2 : ((fun n : Int => UInt8.ofNat n.toNat) ∘ fun b : UInt8 => ((b.toNat : Nat) : Int)) = id := by
      funext b
      simp
    rw [e2, List.map_id]
  rw [e1]
theorem bytRow_string {P : Program} {w : World} {base : Nat} {e src dst : TypeId} {v : Value} {s : ByteArray} (hs : P.underlying src = some (.slice e)) (he : P.underlying e = some (.int .u8)) (hd : P.underlying dst = some .string) (h : bytRow w base e v s) :
    (convert src dst v).run P w = .ok (.string s) w := by
  obtain ⟨g, cap, cur, fz, rfl, hbg, hg, hf, hsc, hcm, hcs, htk⟩ := h
  have hl : (s.data.toList.map fun b => ((b.toNat : Nat) : Int)).length = s.size := by rw [List.length_map]; rfl
  have h1 := run_convert_bytes_arg (P := P) w src e hs he g 0 s.size cap _ hl (fun i hi => ?_) dst hd
  · rw [h1, strOfNums_bytes]
  · have hc : cur[i]? = some (.int .u8 ((s.data.toList.map fun b => ((b.toNat : Nat) : Int)).getD i 0)) := by
      have h2 : (cur.toList.take s.size)[i]? = (strCells s)[i]? := by rw [htk]
      rw [List.getElem?_take, if_pos hi] at h2
      rw [← Array.getElem?_toList, h2]
      unfold strCells
      have hil : i < s.data.toList.length := hi
      simp [List.getElem?_map, List.getElem?_eq_getElem hil, List.getD_eq_getElem?_getD]
    simp only [World.cell?, hg, Nat.zero_add]
    exact hc
end Go.Proofs.Ytoebfjfhdodakaa.L
end
section
set_option linter.unusedVariables false
set_option linter.unusedSimpArgs false
namespace Go.Proofs.Ytoebfjfhdodakaa.L
open Go Go.Lib Go.RowKit Go.Proofs.Ytoebfjfhdodakaa Go.Proofs.YtoebfjfhdodakaaW.PrintWords Go.Proofs.YtoebfjfhdodakaaW.PrintLast Go.Proofs.YtoebfjfhdodakaaW.PrintMore
abbrev IIt := S122
def expAdd (rest : ByteArray → Option ByteArray) (s u : ByteArray) : Option ByteArray := if s.size + u.size ≤ 1000000 then rest (s ++ u) else none
/-- The bytes of the items, behind those that are there. -/
def expGo (num : Int → Int → Option ByteArray) (s16 s8 : ByteArray → Option ByteArray) : List IIt → ByteArray → Option ByteArray
  | [], s => some s
  | y :: l, s => (num 1 y.f0).bind fun t => expAdd (fun s1 => if y.f0 = 1 then (num 8 y.f1).bind fun u => expAdd (expGo num s16 s8 l) s1 u else if y.f0 = 2 then (s16 y.f2).bind fun u => expAdd (expGo num s16 s8 l) s1 u else if y.f0 = 3 then (s8 y.f2).bind fun u => expAdd (expGo num s16 s8 l) s1 u else expGo num s16 s8 l s1) s t
theorem infoByte : (Try.prog.info? 5).map (fun i => (i.zero, i.size, i.bytes)) = some (some (.int .u8 0), 1, 1) := by kernel_rfl
theorem strOf_row {w : World} {base : Nat} {v : Value} {s : ByteArray} (h : bytRow w base 5 v s) : (convert 46 9 v).run Try.prog w = .ok (.string s) w :=
  bytRow_string Try.underlying46 Try.underlying5 Try.underlying9 h
set_option maxHeartbeats 4000000 in
set_option maxRecDepth 100000 in
theorem expBytes_any (A : Option Addr) (c : Nat) (l : List IIt) (w : World) (num : Int → Int → Option ByteArray) (s16 s8 : ByteArray → Option ByteArray) (hr : Kd.C k122 w A l.length l) (hl : l.length ≤ 1000000)
    (hnum : ∀ n v r, num n v = some r → ∀ w', Calls Try.prog 75 #[.int .i64 n, .int .i64 v] w' fun e w'' => e = .returned (.string r) ∧ Below w'.heap.size w' w'')
    (hs16 : ∀ v r, s16 v = some r → ∀ w', Calls Try.prog 80 #[.string v] w' fun e w'' => e = .returned (.string r) ∧ Below w'.heap.size w' w'')
    (hs8 : ∀ v r, s8 v = some r → ∀ w', Calls Try.prog 79 #[.string v] w' fun e w'' => e = .returned (.string r) ∧ Below w'.heap.size w' w'')
    (h0 r : ByteArray) (hh : num 2 (l.length : Int) = some h0) (hz : h0.size ≤ 1000000) (h : expGo num s16 s8 l h0 = some r) :
    Calls Try.prog 81 #[.slice A l.length c] w fun e w' => e = .returned (.string r) ∧ Below w.heap.size w w' := by
  have hu := Try.underlying122
  have HR0 := Aside0.mk hr
  have HNUM := Aside0.mk hnum
  have HS16 := Aside0.mk hs16
  have HS8 := Aside0.mk hs8
  have HL := Aside0.mk hl
  have HG := Aside0.mk h
  have HH := Aside0.mk (hnum 2 _ _ hh)
  have HZ := Aside0.mk hz
  have HB := Aside0.mk (Below.refl w.heap.size w)
  clear hr hnum hs16 hs8 hl h hh hz
  go_enter Try.func81, Try.ntmps81
  go_wp2_with (first | ((with_reducible refine (HH.out _).mono ?_); rintro e w1 ⟨rfl, hb⟩; have n0_ := Aside0.mk (bst HB.out hb); clear HB hb; have HB := n0_; clear n0_) | (refine wpList_bytes_made _ rfl _ 9 46 5 rfl Try.underlying9 Try.underlying46 Try.underlying5 h0 rfl ?_; have HR := Aside0.mk (bytRow_made w1 w.heap.size 5 h0 (bsz HB.out) (by have := HZ.out; have e_ : maxLen = 9223372036854775807 := rfl; omega)); have n0_ := Aside0.mk (bytesWorld_below w w1 5 h0 HB.out (bsz HB.out)); clear HB; have HB := n0_; clear n0_))
  go_loopg [3, 12] l.length (fun kq v3 v12 w' => ∃ (i : Nat) (s : ByteArray), v3 = v3 ∧ v12 = .int .i64 (i : Int) ∧ Aside0 (kq + i = l.length) ∧ Aside0 (expGo num s16 s8 (l.drop i) s = some r) ∧ Aside0 (bytRow w' w.heap.size 5 v3 s) ∧ Aside0 (s.size ≤ 1000000) ∧ Aside0 (Below w.heap.size w w'))
  case atStart => exact ⟨0, h0, rfl, rfl, ⟨by omega⟩, ⟨by rw [List.drop_zero]; exact HG.out⟩, HR, HZ, HB⟩
  case round =>
    clear HB HG HZ HH
    obtain ⟨i, s, _, rfl, HI, HG, HR, HSV, HB⟩ := hrel
    cases gk with
    | zero =>
      have d1 : decide ((i : Int) < (l.length : Int)) = false := decide_eq_false (by have := HI.out; omega)
      have d2 : decide (i < l.length) = false := decide_eq_false (by have := HI.out; omega)
      have h3 := HG.out
      rw [List.drop_eq_nil_of_le (by have := HI.out; omega), expGo] at h3
      obtain rfl := Option.some.inj h3
      have hcv := strOf_row HR.out
      go_wp2
      go_ret
      exact ⟨rfl, HB.out⟩
    | succ k1 =>
      have hil : i < l.length := by have := HI.out; omega
      have d1 : decide ((i : Int) < (l.length : Int)) = true := decide_eq_true (by omega)
      have d2 : decide (i < l.length) = true := decide_eq_true hil
      have d3 : decide (0 ≤ (i : Int)) = true := decide_eq_true (by omega)
      have p128 : 0 ≤ (i : Int) := by omega
      have q128 : (i : Int) < (l.length : Int) := by omega
      obtain ⟨ad128, e128, hx128_0, hx128_1, hx128_2⟩ := at_T122 HR0.out i p128 q128
      obtain ⟨y, hy⟩ : ∃ y, rd_T122 l i = y := ⟨_, rfl⟩
      rw [hy] at hx128_0 hx128_1 hx128_2
      simp only [Int.toNat_natCast] at hx128_0 hx128_1 hx128_2
      have hyl : l.drop i = y :: l.drop (i + 1) := by
        rw [List.drop_eq_getElem_cons hil, ← hy]
        unfold rd_T122
        rw [Int.toNat_natCast, List.getD_eq_getElem?_getD, List.getElem?_eq_getElem hil]; rfl
      have h1 := HG.out
      rw [hyl, expGo] at h1
      obtain ⟨t, ht, h2⟩ := Option.bind_eq_some_iff.mp h1
      have HT := Aside0.mk (HNUM.out 1 _ t ht)
      rw [expAdd] at h2
      by_cases hsz : s.size + t.size ≤ 1000000
      case neg => rw [if_neg hsz] at h2; cases h2
      case pos =>
      rw [if_pos hsz] at h2
      have HSZ := Aside0.mk hsz
      clear HG hyl hy h1 ht hsz
      cases e128
      replace hx128_0 := (HB.out.cell (World.block_lt_of_cell? w _ hx128_0)).trans hx128_0
      replace hx128_1 := (HB.out.cell (World.block_lt_of_cell? w _ hx128_1)).trans hx128_1
      replace hx128_2 := (HB.out.cell (World.block_lt_of_cell? w _ hx128_2)).trans hx128_2
      replace p128 := eq_true p128
      replace q128 := eq_true q128
      by_cases c1 : y.f0 = 1
      case pos =>
        have h3 := h2
        rw [if_pos c1] at h3
        clear h2
        have q1a : decide (y.f0 = 1) = true := decide_eq_true c1
        have q1b : (y.f0 == 1) = true := beq_iff_eq.mpr c1
        clear c1
        obtain ⟨u, hu1, h4⟩ := Option.bind_eq_some_iff.mp h3
        have HU := Aside0.mk (HNUM.out 8 _ u hu1)
        rw [expAdd] at h4
        by_cases hsu : (s ++ t).size + u.size ≤ 1000000
        case neg => rw [if_neg hsu] at h4; cases h4
        case pos =>
        rw [if_pos hsu] at h4
        have HSU := Aside0.mk hsu
        have HG := Aside0.mk h4
        clear h4 h3 hu1 hsu
        go_wp2_with (first | ((with_reducible refine gds (N := 5) rfl ?_); refine bxe ?hg (N := 5) ?hd (cs := #[.int .i64 0, .int .i64 0, .string (⟨#[]⟩ : ByteArray)]) (t := 122) ?hr ?_; (case hd => rfl); (case hg => rfl); (case hr => first | (go_simp; done) | (go_simp; rfl)); intro gb hg w7 hbox hb; have n0_ := Aside0.mk (bst HB.out hb); have n1_ := Aside0.mk (hbox); have n2_ := Aside0.mk ((by rw [hg]; exact bsz HB.out) : w.heap.size ≤ gb); have n3_ := Aside0.mk (bytRow_below HR.out hb); have n4_ := Aside0.mk (show some gb ≠ u3.ownBlock from fun e_ => by have := (bytRow_own HR.out gb e_.symm).2; omega); clear HB HR; have HB := n0_; have BK := n1_; have GE := n2_; have HR := n3_; have NE := n4_; clear n0_ n1_ n2_ n3_ n4_; clear hb hbox hg; have hcz8_0 : w7.cell? ⟨gb, 0, none⟩ = some (.int .i64 0) := (bce BK.out 0).trans rfl; have hcz8_1 : w7.cell? ⟨gb, 1, none⟩ = some (.int .i64 0) := (bce BK.out 1).trans rfl; have hcz8_2 : w7.cell? ⟨gb, 2, none⟩ = some (.string (⟨#[]⟩ : ByteArray)) := (bce BK.out 2).trans rfl; have hfz8_0 := bfz BK.out 0; have hfz8_1 := bfz BK.out 1; have hfz8_2 := bfz BK.out 2) | ((with_reducible refine (HT.out _).mono ?_); rintro e w8 ⟨rfl, hb⟩; have n0_ := Aside0.mk (bst (bse (bse (bse HB.out GE.out) GE.out) GE.out) hb); have n1_ := Aside0.mk (bbe (g := gb) (bpu (cs := #[.int .i64 y.f0, .int .i64 y.f1, .string (⟨#[]⟩ : ByteArray)]) (bpu (cs := #[.int .i64 y.f0, .int .i64 0, .string (⟨#[]⟩ : ByteArray)]) (bpu (cs := #[.int .i64 0, .int .i64 0, .string (⟨#[]⟩ : ByteArray)]) BK.out 0 _ rfl) 1 _ rfl) 2 _ rfl) hb); have n2_ := Aside0.mk (bytRow_below (bytRow_set (bytRow_set (bytRow_set HR.out ⟨gb, 0, none⟩ (.int .i64 y.f0) NE.out) ⟨gb, 1, none⟩ (.int .i64 y.f1) NE.out) ⟨gb, 2, none⟩ (.string y.f2) NE.out) hb); clear HB BK HR hb; have HB := n0_; have BK := n1_; have HR := n2_; clear n0_ n1_ n2_) | (refine wpList_bytes_append _ rfl _ _ 46 9 rfl w.heap.size 5 infoByte Try.underlying46 Try.underlying9 u3 s t rfl rfl HR.out (by have := HSZ.out; omega) (bsz HB.out) ?_; intro v9 w9 hr9 hg9; have n0_ := Aside0.mk (Below.grown HB.out hg9 (bsz HB.out) (fun k hk => (bytRow_own HR.out k hk).1)); have n1_ := Aside0.mk (bgr BK.out hg9 NE.out); clear HB BK HR NE; have HB := n0_; have BK := n1_; have HR := Aside0.mk hr9; clear n0_ n1_ hg9 hr9; have hcy_0 : w9.cell? ⟨gb, 0, none⟩ = some (.int .i64 y.f0) := (bce BK.out 0).trans rfl; have hcy_1 : w9.cell? ⟨gb, 1, none⟩ = some (.int .i64 y.f1) := (bce BK.out 1).trans rfl; have hcy_2 : w9.cell? ⟨gb, 2, none⟩ = some (.string y.f2) := (bce BK.out 2).trans rfl) | ((with_reducible refine (HU.out _).mono ?_); rintro e w10 ⟨rfl, hb⟩; have n0_ := Aside0.mk (bst HB.out hb); have n2_ := Aside0.mk (bytRow_below HR.out hb); clear HB HR hb; have HB := n0_; have HR := n2_; clear n0_ n2_) | (refine wpList_bytes_append _ rfl _ _ 46 9 rfl w.heap.size 5 infoByte Try.underlying46 Try.underlying9 v9 (s ++ t) u rfl rfl HR.out (by have := HSZ.out; have := HSU.out; omega) (bsz HB.out) ?_; intro v11 w11 hr11 hg11; have n0_ := Aside0.mk (Below.grown HB.out hg11 (bsz HB.out) (fun k hk => (bytRow_own HR.out k hk).1)); clear HB HR; have HB := n0_; have HR := Aside0.mk hr11; clear n0_ hg11 hr11))
        go_roundg k1
        case measure => have := HI.out; omega
        case rel => exact ⟨i + 1, _, by trivial, by have e_ : wrap64 ((i : Int) + 1) = ((i + 1 : Nat) : Int) := (by have := HL.out; unfold wrap64; omega); rw [e_], ⟨by have := HI.out; omega⟩, HG, HR, ⟨by have := HSU.out; rw [ByteArray.size_append]; exact this⟩, HB⟩
      case neg =>
      have q1a : decide (y.f0 = 1) = false := decide_eq_false c1
      have q1b : (y.f0 == 1) = false := beq_eq_false_iff_ne.mpr c1
      rw [if_neg c1] at h2
      clear c1
      by_cases c2 : y.f0 = 2
      case pos =>
        have h3 := h2
        rw [if_pos c2] at h3
        clear h2
        have q2a : decide (y.f0 = 2) = true := decide_eq_true c2
        have q2b : (y.f0 == 2) = true := beq_iff_eq.mpr c2
        clear c2
        obtain ⟨u, hu1, h4⟩ := Option.bind_eq_some_iff.mp h3
        have HU := Aside0.mk (HS16.out _ u hu1)
        rw [expAdd] at h4
        by_cases hsu : (s ++ t).size + u.size ≤ 1000000
        case neg => rw [if_neg hsu] at h4; cases h4
        case pos =>
        rw [if_pos hsu] at h4
        have HSU := Aside0.mk hsu
        have HG := Aside0.mk h4
        clear h4 h3 hu1 hsu
        go_wp2_with (first | ((with_reducible refine gds (N := 5) rfl ?_); refine bxe ?hg (N := 5) ?hd (cs := #[.int .i64 0, .int .i64 0, .string (⟨#[]⟩ : ByteArray)]) (t := 122) ?hr ?_; (case hd => rfl); (case hg => rfl); (case hr => first | (go_simp; done) | (go_simp; rfl)); intro gb hg w7 hbox hb; have n0_ := Aside0.mk (bst HB.out hb); have n1_ := Aside0.mk (hbox); have n2_ := Aside0.mk ((by rw [hg]; exact bsz HB.out) : w.heap.size ≤ gb); have n3_ := Aside0.mk (bytRow_below HR.out hb); have n4_ := Aside0.mk (show some gb ≠ u3.ownBlock from fun e_ => by have := (bytRow_own HR.out gb e_.symm).2; omega); clear HB HR; have HB := n0_; have BK := n1_; have GE := n2_; have HR := n3_; have NE := n4_; clear n0_ n1_ n2_ n3_ n4_; clear hb hbox hg; have hcz8_0 : w7.cell? ⟨gb, 0, none⟩ = some (.int .i64 0) := (bce BK.out 0).trans rfl; have hcz8_1 : w7.cell? ⟨gb, 1, none⟩ = some (.int .i64 0) := (bce BK.out 1).trans rfl; have hcz8_2 : w7.cell? ⟨gb, 2, none⟩ = some (.string (⟨#[]⟩ : ByteArray)) := (bce BK.out 2).trans rfl; have hfz8_0 := bfz BK.out 0; have hfz8_1 := bfz BK.out 1; have hfz8_2 := bfz BK.out 2) | ((with_reducible refine (HT.out _).mono ?_); rintro e w8 ⟨rfl, hb⟩; have n0_ := Aside0.mk (bst (bse (bse (bse HB.out GE.out) GE.out) GE.out) hb); have n1_ := Aside0.mk (bbe (g := gb) (bpu (cs := #[.int .i64 y.f0, .int .i64 y.f1, .string (⟨#[]⟩ : ByteArray)]) (bpu (cs := #[.int .i64 y.f0, .int .i64 0, .string (⟨#[]⟩ : ByteArray)]) (bpu (cs := #[.int .i64 0, .int .i64 0, .string (⟨#[]⟩ : ByteArray)]) BK.out 0 _ rfl) 1 _ rfl) 2 _ rfl) hb); have n2_ := Aside0.mk (bytRow_below (bytRow_set (bytRow_set (bytRow_set HR.out ⟨gb, 0, none⟩ (.int .i64 y.f0) NE.out) ⟨gb, 1, none⟩ (.int .i64 y.f1) NE.out) ⟨gb, 2, none⟩ (.string y.f2) NE.out) hb); clear HB BK HR hb; have HB := n0_; have BK := n1_; have HR := n2_; clear n0_ n1_ n2_) | (refine wpList_bytes_append _ rfl _ _ 46 9 rfl w.heap.size 5 infoByte Try.underlying46 Try.underlying9 u3 s t rfl rfl HR.out (by have := HSZ.out; omega) (bsz HB.out) ?_; intro v9 w9 hr9 hg9; have n0_ := Aside0.mk (Below.grown HB.out hg9 (bsz HB.out) (fun k hk => (bytRow_own HR.out k hk).1)); have n1_ := Aside0.mk (bgr BK.out hg9 NE.out); clear HB BK HR NE; have HB := n0_; have BK := n1_; have HR := Aside0.mk hr9; clear n0_ n1_ hg9 hr9; have hcy_0 : w9.cell? ⟨gb, 0, none⟩ = some (.int .i64 y.f0) := (bce BK.out 0).trans rfl; have hcy_1 : w9.cell? ⟨gb, 1, none⟩ = some (.int .i64 y.f1) := (bce BK.out 1).trans rfl; have hcy_2 : w9.cell? ⟨gb, 2, none⟩ = some (.string y.f2) := (bce BK.out 2).trans rfl) | ((with_reducible refine (HU.out _).mono ?_); rintro e w10 ⟨rfl, hb⟩; have n0_ := Aside0.mk (bst HB.out hb); have n2_ := Aside0.mk (bytRow_below HR.out hb); clear HB HR hb; have HB := n0_; have HR := n2_; clear n0_ n2_) | (refine wpList_bytes_append _ rfl _ _ 46 9 rfl w.heap.size 5 infoByte Try.underlying46 Try.underlying9 v9 (s ++ t) u rfl rfl HR.out (by have := HSZ.out; have := HSU.out; omega) (bsz HB.out) ?_; intro v11 w11 hr11 hg11; have n0_ := Aside0.mk (Below.grown HB.out hg11 (bsz HB.out) (fun k hk => (bytRow_own HR.out k hk).1)); clear HB HR; have HB := n0_; have HR := Aside0.mk hr11; clear n0_ hg11 hr11))
        go_roundg k1
        case measure => have := HI.out; omega
        case rel => exact ⟨i + 1, _, by trivial, by have e_ : wrap64 ((i : Int) + 1) = ((i + 1 : Nat) : Int) := (by have := HL.out; unfold wrap64; omega); rw [e_], ⟨by have := HI.out; omega⟩, HG, HR, ⟨by have := HSU.out; rw [ByteArray.size_append]; exact this⟩, HB⟩
      case neg =>
      have q2a : decide (y.f0 = 2) = false := decide_eq_false c2
      have q2b : (y.f0 == 2) = false := beq_eq_false_iff_ne.mpr c2
      rw [if_neg c2] at h2
      clear c2
      by_cases c3 : y.f0 = 3
      case pos =>
        have h3 := h2
        rw [if_pos c3] at h3
        clear h2
        have q3a : decide (y.f0 = 3) = true := decide_eq_true c3
        have q3b : (y.f0 == 3) = true := beq_iff_eq.mpr c3
        clear c3
        obtain ⟨u, hu1, h4⟩ := Option.bind_eq_some_iff.mp h3
        have HU := Aside0.mk (HS8.out _ u hu1)
        rw [expAdd] at h4
        by_cases hsu : (s ++ t).size + u.size ≤ 1000000
        case neg => rw [if_neg hsu] at h4; cases h4
        case pos =>
        rw [if_pos hsu] at h4
        have HSU := Aside0.mk hsu
        have HG := Aside0.mk h4
        clear h4 h3 hu1 hsu
        go_wp2_with (first | ((with_reducible refine gds (N := 5) rfl ?_); refine bxe ?hg (N := 5) ?hd (cs := #[.int .i64 0, .int .i64 0, .string (⟨#[]⟩ : ByteArray)]) (t := 122) ?hr ?_; (case hd => rfl); (case hg => rfl); (case hr => first | (go_simp; done) | (go_simp; rfl)); intro gb hg w7 hbox hb; have n0_ := Aside0.mk (bst HB.out hb); have n1_ := Aside0.mk (hbox); have n2_ := Aside0.mk ((by rw [hg]; exact bsz HB.out) : w.heap.size ≤ gb); have n3_ := Aside0.mk (bytRow_below HR.out hb); have n4_ := Aside0.mk (show some gb ≠ u3.ownBlock from fun e_ => by have := (bytRow_own HR.out gb e_.symm).2; omega); clear HB HR; have HB := n0_; have BK := n1_; have GE := n2_; have HR := n3_; have NE := n4_; clear n0_ n1_ n2_ n3_ n4_; clear hb hbox hg; have hcz8_0 : w7.cell? ⟨gb, 0, none⟩ = some (.int .i64 0) := (bce BK.out 0).trans rfl; have hcz8_1 : w7.cell? ⟨gb, 1, none⟩ = some (.int .i64 0) := (bce BK.out 1).trans rfl; have hcz8_2 : w7.cell? ⟨gb, 2, none⟩ = some (.string (⟨#[]⟩ : ByteArray)) := (bce BK.out 2).trans rfl; have hfz8_0 := bfz BK.out 0; have hfz8_1 := bfz BK.out 1; have hfz8_2 := bfz BK.out 2) | ((with_reducible refine (HT.out _).mono ?_); rintro e w8 ⟨rfl, hb⟩; have n0_ := Aside0.mk (bst (bse (bse (bse HB.out GE.out) GE.out) GE.out) hb); have n1_ := Aside0.mk (bbe (g := gb) (bpu (cs := #[.int .i64 y.f0, .int .i64 y.f1, .string (⟨#[]⟩ : ByteArray)]) (bpu (cs := #[.int .i64 y.f0, .int .i64 0, .string (⟨#[]⟩ : ByteArray)]) (bpu (cs := #[.int .i64 0, .int .i64 0, .string (⟨#[]⟩ : ByteArray)]) BK.out 0 _ rfl) 1 _ rfl) 2 _ rfl) hb); have n2_ := Aside0.mk (bytRow_below (bytRow_set (bytRow_set (bytRow_set HR.out ⟨gb, 0, none⟩ (.int .i64 y.f0) NE.out) ⟨gb, 1, none⟩ (.int .i64 y.f1) NE.out) ⟨gb, 2, none⟩ (.string y.f2) NE.out) hb); clear HB BK HR hb; have HB := n0_; have BK := n1_; have HR := n2_; clear n0_ n1_ n2_) | (refine wpList_bytes_append _ rfl _ _ 46 9 rfl w.heap.size 5 infoByte Try.underlying46 Try.underlying9 u3 s t rfl rfl HR.out (by have := HSZ.out; omega) (bsz HB.out) ?_; intro v9 w9 hr9 hg9; have n0_ := Aside0.mk (Below.grown HB.out hg9 (bsz HB.out) (fun k hk => (bytRow_own HR.out k hk).1)); have n1_ := Aside0.mk (bgr BK.out hg9 NE.out); clear HB BK HR NE; have HB := n0_; have BK := n1_; have HR := Aside0.mk hr9; clear n0_ n1_ hg9 hr9; have hcy_0 : w9.cell? ⟨gb, 0, none⟩ = some (.int .i64 y.f0) := (bce BK.out 0).trans rfl; have hcy_1 : w9.cell? ⟨gb, 1, none⟩ = some (.int .i64 y.f1) := (bce BK.out 1).trans rfl; have hcy_2 : w9.cell? ⟨gb, 2, none⟩ = some (.string y.f2) := (bce BK.out 2).trans rfl) | ((with_reducible refine (HU.out _).mono ?_); rintro e w10 ⟨rfl, hb⟩; have n0_ := Aside0.mk (bst HB.out hb); have n2_ := Aside0.mk (bytRow_below HR.out hb); clear HB HR hb; have HB := n0_; have HR := n2_; clear n0_ n2_) | (refine wpList_bytes_append _ rfl _ _ 46 9 rfl w.heap.size 5 infoByte Try.underlying46 Try.underlying9 v9 (s ++ t) u rfl rfl HR.out (by have := HSZ.out; have := HSU.out; omega) (bsz HB.out) ?_; intro v11 w11 hr11 hg11; have n0_ := Aside0.mk (Below.grown HB.out hg11 (bsz HB.out) (fun k hk => (bytRow_own HR.out k hk).1)); clear HB HR; have HB := n0_; have HR := Aside0.mk hr11; clear n0_ hg11 hr11))
        go_roundg k1
        case measure => have := HI.out; omega
        case rel => exact ⟨i + 1, _, by trivial, by have e_ : wrap64 ((i : Int) + 1) = ((i + 1 : Nat) : Int) := (by have := HL.out; unfold wrap64; omega); rw [e_], ⟨by have := HI.out; omega⟩, HG, HR, ⟨by have := HSU.out; rw [ByteArray.size_append]; exact this⟩, HB⟩
      case neg =>
      have q3a : decide (y.f0 = 3) = false := decide_eq_false c3
      have q3b : (y.f0 == 3) = false := beq_eq_false_iff_ne.mpr c3
      rw [if_neg c3] at h2
      clear c3
      have HG := Aside0.mk h2
      clear h2
      go_wp2_with (first | ((with_reducible refine gds (N := 5) rfl ?_); refine bxe ?hg (N := 5) ?hd (cs := #[.int .i64 0, .int .i64 0, .string (⟨#[]⟩ : ByteArray)]) (t := 122) ?hr ?_; (case hd => rfl); (case hg => rfl); (case hr => first | (go_simp; done) | (go_simp; rfl)); intro gb hg w7 hbox hb; have n0_ := Aside0.mk (bst HB.out hb); have n1_ := Aside0.mk (hbox); have n2_ := Aside0.mk ((by rw [hg]; exact bsz HB.out) : w.heap.size ≤ gb); have n3_ := Aside0.mk (bytRow_below HR.out hb); have n4_ := Aside0.mk (show some gb ≠ u3.ownBlock from fun e_ => by have := (bytRow_own HR.out gb e_.symm).2; omega); clear HB HR; have HB := n0_; have BK := n1_; have GE := n2_; have HR := n3_; have NE := n4_; clear n0_ n1_ n2_ n3_ n4_; clear hb hbox hg; have hcz8_0 : w7.cell? ⟨gb, 0, none⟩ = some (.int .i64 0) := (bce BK.out 0).trans rfl; have hcz8_1 : w7.cell? ⟨gb, 1, none⟩ = some (.int .i64 0) := (bce BK.out 1).trans rfl; have hcz8_2 : w7.cell? ⟨gb, 2, none⟩ = some (.string (⟨#[]⟩ : ByteArray)) := (bce BK.out 2).trans rfl; have hfz8_0 := bfz BK.out 0; have hfz8_1 := bfz BK.out 1; have hfz8_2 := bfz BK.out 2) | ((with_reducible refine (HT.out _).mono ?_); rintro e w8 ⟨rfl, hb⟩; have n0_ := Aside0.mk (bst (bse (bse (bse HB.out GE.out) GE.out) GE.out) hb); have n1_ := Aside0.mk (bbe (g := gb) (bpu (cs := #[.int .i64 y.f0, .int .i64 y.f1, .string (⟨#[]⟩ : ByteArray)]) (bpu (cs := #[.int .i64 y.f0, .int .i64 0, .string (⟨#[]⟩ : ByteArray)]) (bpu (cs := #[.int .i64 0, .int .i64 0, .string (⟨#[]⟩ : ByteArray)]) BK.out 0 _ rfl) 1 _ rfl) 2 _ rfl) hb); have n2_ := Aside0.mk (bytRow_below (bytRow_set (bytRow_set (bytRow_set HR.out ⟨gb, 0, none⟩ (.int .i64 y.f0) NE.out) ⟨gb, 1, none⟩ (.int .i64 y.f1) NE.out) ⟨gb, 2, none⟩ (.string y.f2) NE.out) hb); clear HB BK HR hb; have HB := n0_; have BK := n1_; have HR := n2_; clear n0_ n1_ n2_) | (refine wpList_bytes_append _ rfl _ _ 46 9 rfl w.heap.size 5 infoByte Try.underlying46 Try.underlying9 u3 s t rfl rfl HR.out (by have := HSZ.out; omega) (bsz HB.out) ?_; intro v9 w9 hr9 hg9; have n0_ := Aside0.mk (Below.grown HB.out hg9 (bsz HB.out) (fun k hk => (bytRow_own HR.out k hk).1)); have n1_ := Aside0.mk (bgr BK.out hg9 NE.out); clear HB BK HR NE; have HB := n0_; have BK := n1_; have HR := Aside0.mk hr9; clear n0_ n1_ hg9 hr9; have hcy_0 : w9.cell? ⟨gb, 0, none⟩ = some (.int .i64 y.f0) := (bce BK.out 0).trans rfl; have hcy_1 : w9.cell? ⟨gb, 1, none⟩ = some (.int .i64 y.f1) := (bce BK.out 1).trans rfl; have hcy_2 : w9.cell? ⟨gb, 2, none⟩ = some (.string y.f2) := (bce BK.out 2).trans rfl))
      go_roundg k1
      case measure => have := HI.out; omega
      case rel => exact ⟨i + 1, _, by trivial, by have e_ : wrap64 ((i : Int) + 1) = ((i + 1 : Nat) : Int) := (by have := HL.out; unfold wrap64; omega); rw [e_], ⟨by have := HI.out; omega⟩, HG, HR, ⟨by have := HSZ.out; rw [ByteArray.size_append]; exact this⟩, HB⟩
end Go.Proofs.Ytoebfjfhdodakaa.L
end
