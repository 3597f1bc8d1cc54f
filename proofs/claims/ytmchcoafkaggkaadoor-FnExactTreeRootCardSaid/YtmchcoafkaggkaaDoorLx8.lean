/- Functions of the translation as plain Lean functions, each with the proof that the Go code comes to just what it says (the contracts), or the row of a law out of these: made by gprint.py (ours); no condition but those that each theorem states. -/
import Derived.Test.YtmchcoafkaggkaaDoorLx0
import Derived.Test.YtmchcoafkaggkaaDoorLx7
import Derived.Test.YtmchcoafkaggkaaDoorShaW
namespace Go.Proofs.YtmchcoafkaggkaaDoor.L
open Go.RowKit Go.Proofs.YtmchcoafkaggkaaDoorW.PrintWords Go.Proofs.YtmchcoafkaggkaaDoorW.PrintLast Go.Proofs.YtmchcoafkaggkaaDoorW.PrintMore
attribute [local go_sem] max2_int min2_int max_two min_two max_three min_three max_four min_four   -- for this text's walks alone
set_option linter.unusedVariables false
set_option linter.unusedSimpArgs false

/-! ### given: impl_compress: function 112 -/
-- cut here
theorem rot_f (x n m : Int) (h1 : wrap64 (-n) = -n) (h2 : Go.bits .and .u64 (IntKind.u64.wrap (-n)) 31 = m) (h3 : IntKind.u64.wrap (32 - m) = n) (h4 : m = 32 - n) (h5 : 0 ≤ m) (h6 : 0 ≤ n) : impl_compress_1.f x n = some (rotI x n) := by
  rw [impl_compress_1.f, bits_RotateLeft32.f, h1, h2, h3, if_pos h5, if_pos h6, rotI, h4]
  rfl
theorem rot_all (x n : Int) (hn : n = 7 ∨ n = 18 ∨ n = 17 ∨ n = 19 ∨ n = 6 ∨ n = 11 ∨ n = 25 ∨ n = 2 ∨ n = 13 ∨ n = 22) : impl_compress_1.f x n = some (rotI x n) := by
  rcases hn with rfl | rfl | rfl | rfl | rfl | rfl | rfl | rfl | rfl | rfl
  · exact rot_f x 7 25 (by unfold wrap64; omega) (by decide) (by decide) (by decide) (by decide) (by decide)
  · exact rot_f x 18 14 (by unfold wrap64; omega) (by decide) (by decide) (by decide) (by decide) (by decide)
  · exact rot_f x 17 15 (by unfold wrap64; omega) (by decide) (by decide) (by decide) (by decide) (by decide)
  · exact rot_f x 19 13 (by unfold wrap64; omega) (by decide) (by decide) (by decide) (by decide) (by decide)
  · exact rot_f x 6 26 (by unfold wrap64; omega) (by decide) (by decide) (by decide) (by decide) (by decide)
  · exact rot_f x 11 21 (by unfold wrap64; omega) (by decide) (by decide) (by decide) (by decide) (by decide)
  · exact rot_f x 25 7 (by unfold wrap64; omega) (by decide) (by decide) (by decide) (by decide) (by decide)
  · exact rot_f x 2 30 (by unfold wrap64; omega) (by decide) (by decide) (by decide) (by decide) (by decide)
  · exact rot_f x 13 19 (by unfold wrap64; omega) (by decide) (by decide) (by decide) (by decide) (by decide)
  · exact rot_f x 22 10 (by unfold wrap64; omega) (by decide) (by decide) (by decide) (by decide) (by decide)
theorem rot_any (x n : Int) (w : World) (hn : n = 7 ∨ n = 18 ∨ n = 17 ∨ n = 19 ∨ n = 6 ∨ n = 11 ∨ n = 25 ∨ n = 2 ∨ n = 13 ∨ n = 22) : Calls Tryd.prog 125 #[.int .u32 x, .int .i64 n] w fun e w' => e = .returned (.int .u32 (rotI x n)) ∧ ∃ m, w' = w.drewN m := by
  refine (impl_compress_1.calls x n (rotI x n) w ?_).mono fun e w' ⟨he, m, hm⟩ => ⟨he, m, hm⟩
  exact rot_all x n hn
set_option maxHeartbeats 40000000 in
set_option maxRecDepth 100000 in
theorem compress_any (s0 : Nat → Int) (block : ByteArray) (w : World) (hG : GOK w) (hb : block.size = 64) :
    Calls Tryd.prog 112 #[.agg (srow s0), .string block] w fun e w' => e = .returned (.agg (srow (fin (rds s0 (wst block 48) 64) s0 8))) ∧ Below w.heap.size w w' := by
  have hz : ∀ w, (zeroValue 154).run Tryd.prog w = .ok (.agg (wrow fun _ => 0)) w := by
    have := (zero_of_info a64_info).1
    rw [wrow_zero] at this
    exact this
  have hi : (Tryd.prog.info? 154).map (·.size) = some 64 := (zero_of_info a64_info).2
  have HI := Aside0.mk hi
  have hz8 : ∀ w, (zeroValue 144).run Tryd.prog w = .ok (.agg (srow fun _ => 0)) w := by
    have := (zero_of_info a8_info).1
    rw [srow_zero] at this
    exact this
  have hi8 : (Tryd.prog.info? 144).map (·.size) = some 8 := (zero_of_info a8_info).2
  have HI8 := Aside0.mk hi8
  clear hi hi8
  have HG := Aside0.mk hG
  clear hG
  go_enter Tryd.func112, Tryd.ntmps112
  go_wp2_with (first | ((with_reducible refine gate_store (t := 154) (p := 5) rfl ?_); refine wpList_store_row rfl 154 (.tmp 5) (.tmp 19) rfl (w.heap.size + 1 + 1) (wrow fun _ => 0) ?hx ?hy 154 (wrow fun _ => 0) ?hg ?hi ?ho ?h1 ?_; (case hx => rfl); (case hy => rfl); (case hg => exact heap_three _ _ _ _); (case hi => rw [wrow_size]; exact HI.out); (case ho => rfl); (case h1 => exact wrow_one _); rw [setRow_three]))
  clear hz
  go_loopg [20] 16 (fun g s20 wx => ∃ i n : Nat, i + g = 16 ∧ s20 = .int .i64 i ∧ wx = (wof w s0 (ph1 block i 0)).drewN n)
  case atStart => exact ⟨0, 0, by omega, rfl, by rw [ph1_zero]; rfl⟩
  case round =>
    obtain ⟨i, n, hig, rfl, rfl⟩ := hrel
    cases gk with
    | zero =>
      obtain rfl : i = 16 := by omega
      go_wp2
      go_loopg [9] 48 (fun g s9 wx => ∃ t n : Nat, t + g = 48 ∧ s9 = .int .i64 ((t + 16 : Nat) : Int) ∧ wx = (wof w s0 (wst block t)).drewN n)
      case atStart => exact ⟨0, n, by omega, rfl, rfl⟩
      case round =>
        obtain ⟨t0, n, htg, rfl, rfl⟩ := hrel
        cases gk with
        | zero =>
          obtain rfl : t0 = 48 := by omega
          obtain ⟨F, hF⟩ : ∃ F, wst block 48 = F := ⟨_, rfl⟩
          rw [hF]
          have HFF := Aside0.mk hF
          clear hF
          have hsz := wof_size w s0 F
          have hls : ((wof w s0 F).drewN n).heap[w.heap.size]? = some (.cells (srow s0) 144) := wof_heap0 w s0 F n
          go_wp2_with (first | ((with_reducible refine gate_dst (N := 87) rfl ?_); refine wpList_load_row rfl 144 (.tmp 2) rfl (w.heap.size) ?hp 144 (srow s0) (0, 0) _ ?hg Tryd.underlying144 ?ha ?hi ?_; (case hp => rfl); (case hg => exact hls); (case ha => rfl); (case hi => rw [srow_size]; exact HI8.out)) | ((with_reducible refine gate_store (t := 144) (p := 12) rfl ?_); refine wpList_store_row rfl 144 (.tmp 12) (.tmp 87) rfl (w.heap.size + 1 + 1 + 1) (srow s0) ?hx ?hy 144 (srow fun _ => 0) ?hg ?hi ?ho ?h1 ?_; (case hx => rfl); (case hy => rfl); (case hg => exact wof2_heap w s0 F (fun _ => 0) n); (case hi => rw [srow_size]; exact HI8.out); (case ho => rw [srow_size, srow_size]); (case h1 => exact srow_one _)))
          clear hls
          have hz8l : ∀ w, (zeroValue 144).run Tryd.prog w = .ok (.agg #[.int .u32 0, .int .u32 0, .int .u32 0, .int .u32 0, .int .u32 0, .int .u32 0, .int .u32 0, .int .u32 0]) w := by
            rw [show (#[.int .u32 0, .int .u32 0, .int .u32 0, .int .u32 0, .int .u32 0, .int .u32 0, .int .u32 0, .int .u32 0] : Array Value) = srow (fun _ => 0) from srow_lit (fun _ => 0)]
            exact hz8
          clear hz8
          go_loopg [88] 64 (fun gk s88 wx => ∃ t n : Nat, t + gk = 64 ∧ s88 = .int .i64 (t : Int) ∧ wx = (wof2 w s0 F (rds s0 F t)).drewN n)
          case atStart => exact ⟨0, n, by omega, rfl, wof2_setRow w s0 F (fun _ => 0) s0 n⟩
          case round =>
            obtain ⟨t, n, htg, rfl, rfl⟩ := hrel
            obtain ⟨g, hg⟩ : ∃ g, rds s0 F t = g := ⟨_, rfl⟩
            rw [hg]
            have HGG := Aside0.mk hg
            clear hg
            cases gk with
            | zero =>
              obtain rfl : t = 64 := by omega
              go_wp2
              go_loopg [176] 8 (fun gk s176 wx => ∃ i n : Nat, i + gk = 8 ∧ s176 = .int .i64 (i : Int) ∧ wx = (wof2 w s0 F (fin g s0 i)).drewN n)
              case atStart => exact ⟨0, n, by omega, rfl, by rw [fin_zero]⟩
              case round =>
                obtain ⟨i, n, hig, rfl, rfl⟩ := hrel
                cases gk with
                | zero =>
                  obtain rfl : i = 8 := by omega
                  have hh := wof2_heap w s0 F (fin g s0 8) n
                  have h4 := wof2_heap4 w s0 F (fin g s0 8) n
                  have hbel := wof2_below w s0 F (fin g s0 8) n
                  obtain ⟨W, hW⟩ : ∃ W, (wof2 w s0 F (fin g s0 8)).drewN n = W := ⟨_, rfl⟩
                  rw [hW] at hh h4 hbel ⊢
                  clear hW
                  have HH := Aside0.mk hh
                  have H4 := Aside0.mk h4
                  have HB := Aside0.mk hbel
                  clear hh h4 hbel
                  go_wp2_with (first | ((with_reducible refine gate_dst (N := 188) rfl ?_); refine wpList_load_row rfl 144 (.tmp 12) rfl (w.heap.size + 1 + 1 + 1) ?hp 144 (srow (fin g s0 8)) (0, 0) _ ?hg Tryd.underlying144 ?ha ?hi ?_; (case hp => rfl); (case hg => exact HH.out); (case ha => rfl); (case hi => rw [srow_size]; exact HI8.out)) | ((with_reducible refine gate_store (t := 144) (p := 4) rfl ?_); refine wpList_store_row rfl 144 (.tmp 4) (.tmp 188) rfl (w.heap.size + 1) (srow (fin g s0 8)) ?hx ?hy 144 (srow fun _ => 0) ?hg ?hi ?ho ?h1 ?_; (case hx => rfl); (case hy => rfl); (case hg => exact H4.out); (case hi => rw [srow_size]; exact HI8.out); (case ho => rw [srow_size, srow_size]); (case h1 => exact srow_one _)))
                  refine bodyPost_ret (v := .agg (srow (fin g s0 8))) (results_cell_row rfl _ _ (w.heap.size + 1) 144 (srow (fin g s0 8)) (0, 0) _ rfl (heap_setRow_same H4.out) Tryd.underlying144 rfl (by rw [srow_size]; exact HI8.out)) rfl ⟨?_, below_setRow HB.out (by omega) _⟩
                  obtain rfl := HGG.out
                  obtain rfl := HFF.out
                  rfl
                | succ gk =>
                  have hi8 : i < 8 := by omega
                  have hiz : (i : Int) < 8 := by omega
                  have hc := wof2_cell w s0 F (fin g s0 i) n i hi8
                  have hc0 := wof2_cell0 w s0 F (fin g s0 i) n i hi8
                  have hfz := wof2_frozen w s0 F (fin g s0 i) n i
                  rw [fin_at] at hc
                  obtain ⟨gi, hgi⟩ : ∃ x, g i = x := ⟨_, rfl⟩
                  obtain ⟨si, hsi⟩ : ∃ x, s0 i = x := ⟨_, rfl⟩
                  rw [hgi] at hc
                  rw [hsi] at hc0
                  obtain ⟨W, hW⟩ : ∃ W, (wof2 w s0 F (fin g s0 i)).drewN n = W := ⟨_, rfl⟩
                  rw [hW] at hc hc0 hfz ⊢
                  have HW := Aside0.mk hW
                  have HGI := Aside0.mk (And.intro hgi hsi)
                  clear hW hgi hsi
                  go_wp2
                  refine wp_region_still_tail 8 (by kernel_rfl) (by kernel_rfl) ?_
                  rw [drew_one']
                  simp only [List.take_succ_cons, List.take_zero, List.drop_succ_cons, List.drop_zero]
                  repeat still_step
                  try refine wpStill_nil ?_
                  go_wp2
                  go_roundg gk
                  case measure => omega
                  case rel =>
                    refine ⟨i + 1, n + 1, by omega, by first | rfl | simp, ?_⟩
                    obtain ⟨rfl, rfl⟩ := HGI.out
                    rw [← HW.out, World.drewN_drewN, wof2_set, ← fin_succ]
            | succ gk =>
              have htz : (t : Int) < 64 := by omega
              have htn : t < 64 := by omega
              have hcw := wof2_cellw w s0 F g n t htn
              have hck := (HG.out.below (wof2_below w s0 F g n)) t htn
              have hc0 := wof2_cell w s0 F g n 0 (by omega)
              have hc1 := wof2_cell w s0 F g n 1 (by omega)
              have hc2 := wof2_cell w s0 F g n 2 (by omega)
              have hc3 := wof2_cell w s0 F g n 3 (by omega)
              have hc4 := wof2_cell w s0 F g n 4 (by omega)
              have hc5 := wof2_cell w s0 F g n 5 (by omega)
              have hc6 := wof2_cell w s0 F g n 6 (by omega)
              have hc7 := wof2_cell w s0 F g n 7 (by omega)
              have hh := wof2_heap w s0 F g n
              obtain ⟨W, hW⟩ : ∃ W, (wof2 w s0 F g).drewN n = W := ⟨_, rfl⟩
              rw [hW] at hcw hck hc0 hc1 hc2 hc3 hc4 hc5 hc6 hc7 hh ⊢
              have HW := Aside0.mk hW
              have HH := Aside0.mk hh
              clear hW hh
              obtain ⟨kt, hkt⟩ : ∃ x, kw.getD t 0 = x := ⟨_, rfl⟩
              obtain ⟨ft, hft⟩ : ∃ x, F t = x := ⟨_, rfl⟩
              obtain ⟨g0, hg0⟩ : ∃ x, g 0 = x := ⟨_, rfl⟩
              obtain ⟨g1, hg1⟩ : ∃ x, g 1 = x := ⟨_, rfl⟩
              obtain ⟨g2, hg2⟩ : ∃ x, g 2 = x := ⟨_, rfl⟩
              obtain ⟨g3, hg3⟩ : ∃ x, g 3 = x := ⟨_, rfl⟩
              obtain ⟨g4, hg4⟩ : ∃ x, g 4 = x := ⟨_, rfl⟩
              obtain ⟨g5, hg5⟩ : ∃ x, g 5 = x := ⟨_, rfl⟩
              obtain ⟨g6, hg6⟩ : ∃ x, g 6 = x := ⟨_, rfl⟩
              obtain ⟨g7, hg7⟩ : ∃ x, g 7 = x := ⟨_, rfl⟩
              rw [hkt] at hck
              rw [hft] at hcw
              rw [hg0] at hc0
              rw [hg1] at hc1
              rw [hg2] at hc2
              rw [hg3] at hc3
              rw [hg4] at hc4
              rw [hg5] at hc5
              rw [hg6] at hc6
              rw [hg7] at hc7
              have HX := Aside0.mk (And.intro hkt (And.intro hft (And.intro hg0 (And.intro hg1 (And.intro hg2 (And.intro hg3 (And.intro hg4 (And.intro hg5 (And.intro hg6 hg7)))))))))
              clear hkt hft hg0 hg1 hg2 hg3 hg4 hg5 hg6 hg7
              go_wp2
              go_quiet (fail)
              go_wp2
              go_quiet ((go_at_call 125; exact quietA (rot_any _ _ _ (by omega))))
              go_wp2
              go_quiet ((go_at_call 125; exact quietA (rot_any _ _ _ (by omega))))
              go_wp2_with (first | ((with_reducible refine gate_store (t := 144) (p := 12) rfl ?_); refine wpList_store_oct rfl 144 (.tmp 12) (.tmp 174) rfl (w.heap.size + 1 + 1 + 1) (by rfl) (by rfl) 144 g (by exact HH.out) HI8.out ?_))
              go_roundg gk
              case measure => omega
              case rel =>
                refine ⟨t + 1, n + _, by omega, by first | rfl | simp, rds_step w s0 F g n t HW.out HGG.out (fun j hj => ?_)⟩
                obtain ⟨rfl, rfl, rfl, rfl, rfl, rfl, rfl, rfl, rfl, rfl⟩ := HX.out
                have h8 : j = 0 ∨ j = 1 ∨ j = 2 ∨ j = 3 ∨ j = 4 ∨ j = 5 ∨ j = 6 ∨ j = 7 := by omega
                clear hj
                rcases h8 with rfl | rfl | rfl | rfl | rfl | rfl | rfl | rfl
                · simp only [oct, rnd, rnd1, rnd2]
                  exact emod_two _ _ _
                · rfl
                · rfl
                · rfl
                · simp only [oct, rnd, rnd1, rnd2]
                  exact emod_one _ _ _
                · rfl
                · rfl
                · rfl
        | succ g =>
          obtain ⟨t, ht⟩ : ∃ t, t = t0 + 16 := ⟨_, rfl⟩
          rw [← ht]
          have hm : t0 + 1 + g = 48 := by omega
          have htz : (t : Int) < 64 := by omega
          have htn : t < 64 := by omega
          have htn16 : 16 ≤ t := by omega
          have ht0 : 0 ≤ (t : Int) := by omega
          have a15 : 0 ≤ (t : Int) - 15 := by omega
          have b15 : (t : Int) - 15 < 64 := by omega
          have w15 : IntKind.i64.wrap ((t : Int) - 15) = (t : Int) - 15 := by rw [IntKind.wrap_i64]; omega
          have a2 : 0 ≤ (t : Int) - 2 := by omega
          have b2 : (t : Int) - 2 < 64 := by omega
          have w2 : IntKind.i64.wrap ((t : Int) - 2) = (t : Int) - 2 := by rw [IntKind.wrap_i64]; omega
          have a16 : 0 ≤ (t : Int) - 16 := by omega
          have b16 : (t : Int) - 16 < 64 := by omega
          have w16 : IntKind.i64.wrap ((t : Int) - 16) = (t : Int) - 16 := by rw [IntKind.wrap_i64]; omega
          have a7 : 0 ≤ (t : Int) - 7 := by omega
          have b7 : (t : Int) - 7 < 64 := by omega
          have w7 : IntKind.i64.wrap ((t : Int) - 7) = (t : Int) - 7 := by rw [IntKind.wrap_i64]; omega
          have HT := Aside0.mk ht
          clear ht htg
          obtain ⟨f, hf⟩ : ∃ f, wst block t0 = f := ⟨_, rfl⟩
          rw [hf]
          have HF := Aside0.mk hf
          clear hf
          obtain ⟨x, hx⟩ : ∃ x, f (t - 15) = x := ⟨_, rfl⟩
          obtain ⟨y, hy⟩ : ∃ x, f (t - 2) = x := ⟨_, rfl⟩
          obtain ⟨p, hp⟩ : ∃ x, f (t - 16) = x := ⟨_, rfl⟩
          obtain ⟨q, hq⟩ : ∃ x, f (t - 7) = x := ⟨_, rfl⟩
          have hc15 : ((wof w s0 f).drewN n).cell? ⟨w.heap.size + 1 + 1, t - 15, none⟩ = some (.int .u32 x) := by rw [← hx]; exact wof_cell w s0 f n (t - 15) (by omega)
          have hc2 : ((wof w s0 f).drewN n).cell? ⟨w.heap.size + 1 + 1, t - 2, none⟩ = some (.int .u32 y) := by rw [← hy]; exact wof_cell w s0 f n (t - 2) (by omega)
          have hc16 : ((wof w s0 f).drewN n).cell? ⟨w.heap.size + 1 + 1, t - 16, none⟩ = some (.int .u32 p) := by rw [← hp]; exact wof_cell w s0 f n (t - 16) (by omega)
          have hc7 : ((wof w s0 f).drewN n).cell? ⟨w.heap.size + 1 + 1, t - 7, none⟩ = some (.int .u32 q) := by rw [← hq]; exact wof_cell w s0 f n (t - 7) (by omega)
          have hct := wof_cell w s0 f n t htn
          have hF := wof_frozen w s0 f n t
          have HX := Aside0.mk (And.intro hx (And.intro hy (And.intro hp hq)))
          clear hx hy hp hq
          obtain ⟨W, hW⟩ : ∃ W, (wof w s0 f).drewN n = W := ⟨_, rfl⟩
          rw [hW] at hc15 hc2 hc16 hc7 hct hF ⊢
          have HW := Aside0.mk hW
          clear hW
          go_wp2
          go_quiet (fail)
          have e16 : t - 16 = ((t : Int) - 16).toNat := by omega
          have e7 : t - 7 = ((t : Int) - 7).toNat := by omega
          rw [e16] at hc16
          rw [e7] at hc7
          clear e16 e7
          have n16 : ¬ t = ((t : Int) - 16).toNat := by omega
          have c16 : (16 : Int) ≤ (t : Int) := by omega
          have c7 : (7 : Int) ≤ (t : Int) := by omega
          have d16 : (t : Int) < 80 := by omega
          have d7 : (t : Int) < 71 := by omega
          have n7 : ¬ t = ((t : Int) - 7).toNat := by omega
          go_wp2
          go_region_held3 (fun w' => w'.cell? ⟨w.heap.size + 1 + 1, ((t : Int) - 16).toNat, none⟩ = some (.int .u32 p) ∧ w'.cell? ⟨w.heap.size + 1 + 1, ((t : Int) - 7).toNat, none⟩ = some (.int .u32 q)) (first | go_keep | exact ⟨cell_other hc16 n16 _ _, cell_other hc7 n7 _ _⟩) (first | (go_at_call 125; refine (rot_any _ _ _ (by omega)).mono ?_; rintro e w' ⟨rfl, m, rfl⟩))
          clear hc15 hc2 hc16 hc7 hct hF w15 w2 w16 w7 a15 a2 a16 a7 b15 b2 b16 b7 n16 n7 c16 c7 d16 d7
          go_wp2
          go_roundg g
          case measure => omega
          case rel =>
            obtain ⟨rfl, rfl, rfl, rfl⟩ := HX.out
            obtain rfl := HT.out
            obtain rfl := HF.out
            exact ⟨t0 + 1, _, by omega, by first | rfl | (simp; omega), by rw [← HW.out, World.drewN_drewN, wof_set]; rfl⟩
    | succ g =>
      have hi : i < 16 := by omega
      have hiz : (i : Int) < 16 := by omega
      go_wp2
      go_loopg [23] 4 (fun g2 s23 wx => ∃ k n : Nat, k + g2 = 4 ∧ s23 = .int .i64 k ∧ wx = (wof w s0 (ph1 block i k)).drewN n)
      case atStart => exact ⟨0, n, by omega, rfl, rfl⟩
      case round =>
        obtain ⟨k, n, hkg, rfl, rfl⟩ := hrel
        cases gk with
        | zero =>
          obtain rfl : k = 4 := by omega
          go_wp2
          go_roundg g
          case measure => omega
          case rel => exact ⟨i + 1, n, by omega, by first | rfl | simp, by rw [ph1_next]⟩
        | succ g2 =>
          have hk : k < 4 := by omega
          have hkz : (k : Int) < 4 := by omega
          obtain ⟨q, hq⟩ : ∃ q, q = 4 * i + k := ⟨_, rfl⟩
          have hqb : q < block.size := by omega
          have hqz : (q : Int) < (block.size : Int) := by omega
          have hx : ((block[q]'hqb).toNat : Int) = bt block ((q : Nat) : Int) := bt_at block (q : Int) hqb
          have hw1 : IntKind.i64.wrap (4 * (i : Int)) = 4 * (i : Int) := by rw [IntKind.wrap_i64]; omega
          have hw2 : IntKind.i64.wrap (4 * (i : Int) + (k : Int)) = 4 * (i : Int) + (k : Int) := by rw [IntKind.wrap_i64]; omega
          have hi0 : 0 ≤ 4 * (i : Int) + (k : Int) := by omega
          have hi1 : 4 * (i : Int) + (k : Int) < 64 := by omega
          have hx2 : ((block[(4 * (i : Int) + (k : Int)).toNat]'(by omega)).toNat : Int) = bt block ((q : Nat) : Int) := by rw [← hx]; congr 3; omega
          have hbr := bt_range block ((q : Nat) : Int)
          have hc := fun n => wof_cell w s0 (ph1 block i k) n i (by omega)
          have hf := fun n => wof_frozen w s0 (ph1 block i k) n i
          have h64 : (i : Int) < 64 := by omega
          have h0 : 0 ≤ (i : Int) := by omega
          have hd := fun n v => wof_set w s0 (ph1 block i k) n i v
          go_wp2
          refine wp_region_still_tail 14 (by kernel_rfl) (by kernel_rfl) ?_
          rw [drew_one]
          simp only [List.take_succ_cons, List.take_zero, List.drop_succ_cons, List.drop_zero]
          repeat still_step
          try refine wpStill_nil ?_
          go_wp2
          go_roundg g2
          case measure => omega
          case rel => exact ⟨k + 1, n + 1, by omega, by first | rfl | simp, by rw [ph1_step]⟩


/-! ### impl_u32: function 113 -/
def impl_u32.f (k : Nat) (a0 : Int) : Option (ByteArray) := (impl_number.f k a0 4).bind fun t226 => (some t226)
theorem impl_u32.mono : ∀ a0 k, LeO (impl_u32.f k a0) (impl_u32.f (k + 1) a0) := by
  intro a0 k
  unfold impl_u32.f
  repeat' first
      | (with_reducible exact impl_number.mono _ _ _)
      | (with_reducible exact LeO.refl _)
      | (with_reducible exact LeO.none _)
      | (with_reducible refine LeO.ite ?_ ?_)
      | (with_reducible refine LeO.bind ?_ (fun _ => ?_))
      | exact impl_number.mono _ _ _
      | exact LeO.none _
      | refine LeO.ite ?_ ?_
      | refine LeO.bind ?_ (fun _ => ?_)
set_option maxHeartbeats 8000000 in
set_option maxRecDepth 100000 in
theorem impl_u32.calls (k : Nat) (a0 : Int) (r : ByteArray) (w : World) (h : impl_u32.f k a0 = some r) :
    Calls Tryd.prog 113 #[.int .i64 a0] w fun e w' => e = .returned (.string r) ∧ Below w.heap.size w w' := by
  have HB := Aside0.mk (Below.refl w.heap.size w)
  have H : ((impl_number.f k a0 4).bind fun t226 => (some t226)) = some r := h
  clear h
  replace H := Option.bind_eq_some_iff.mp H
  obtain ⟨t226, A20, H⟩ := H
  replace H : (some t226) = some r := H
  have A2 := Aside0.mk A20
  clear A20
  obtain rfl := Option.some.inj H
  go_enter Tryd.func113, Tryd.ntmps113
  go_wp2_with (first | ((with_reducible refine gate_callee (f := 124) rfl ?_); refine goesL_ (some 4) rfl rfl Tryd.func124 (by kernel_rfl) rfl #[.int .i64 a0, .int .i64 4] rfl (by (try simp only [List.map_toArray, List.map_cons, List.map_nil]); first | done | rfl | (simp only [List.length_drop, List.length_take]; rfl)) ?_; (with_reducible refine (impl_number.calls k a0 4 t226 _ A2.out).mono ?_); rintro e w3 ⟨rfl, hb⟩; refine ⟨_, rfl, ?_⟩; have n0_ := Aside0.mk (below_step (by repeat (first | (with_reducible first | exact HB.out | apply below_alloc | apply pw_below_drewN | apply below_drew1) | exact HB.out)) hb); clear HB; have HB := n0_; clear n0_; (try clear hb); (try clear hb2); (try clear hk); (try clear hi)))
  go_ret
  exact ⟨by first | rfl | (simp [errW_none, errW_some] <;> rfl) | (simp [*, errW_none, errW_some] <;> rfl), by repeat (first | (with_reducible first | exact HB.out | apply below_alloc | apply pw_below_drewN | apply below_drew1) | exact HB.out)⟩

end Go.Proofs.YtmchcoafkaggkaaDoor.L
