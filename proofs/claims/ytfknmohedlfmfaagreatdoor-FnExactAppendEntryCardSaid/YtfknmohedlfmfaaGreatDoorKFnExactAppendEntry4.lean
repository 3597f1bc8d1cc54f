/- The texts that the proof of the law FnExactAppendEntry rests on, part 4: printed functions with their contracts, words, plain laws; the last part ends in the statement itself. No condition but those that each theorem states. -/
import Derived.Test.YtfknmohedlfmfaaGreatDoorKFnExactAppendEntry3
set_option linter.unusedVariables false
set_option linter.unusedSimpArgs false
section
namespace Go.Proofs.YtfknmohedlfmfaaGreatDoor.L
open Go.RowKit Go.Proofs.YtfknmohedlfmfaaGreatDoorW.PrintWords Go.Proofs.YtfknmohedlfmfaaGreatDoorW.PrintLast Go.Proofs.YtfknmohedlfmfaaGreatDoorW.PrintMore
attribute [local go_sem] max2_int min2_int max_two min_two max_three min_three max_four min_four
set_option linter.unusedVariables false
set_option linter.unusedSimpArgs false
def spec_AppendEntry.f (k : Nat) (l0_0 : List (S61)) (a0_1 : Int) (a0_2 : Int) (a0_3 : Int) (a0_4 : Int) (a0_5 : Bool) (a1_0 : Int) (a1_1 : Int) (a2 : ByteArray) (a3 : Int) : Option ((List (S61)) × Int × Int × Int × Int × Bool × Int × Int × Int) :=
  (spec_Frame.f k a2).bind fun f => if f.size = 0 ∨ ¬ (1 ≤ a1_0 ∧ a1_0 ≤ 9999) ∨ ¬ (0 ≤ a1_1 ∧ a1_1 ≤ 1000000000) ∨ ¬ (1 ≤ a3 ∧ a3 ≤ 1000000000) then (if l0_0.length ≤ 2000000 then some (l0_0, a0_1, a0_2, a0_3, a0_4, a0_5, a1_0, a1_1, 22) else none) else if 1 ≤ f.size ∧ f.size ≤ 100000 ∧ l0_0.length ≤ 2000000 then apBody (fun l cap cnt cr fa dn kd nm d sz => spec_FsStep.f k l cap cnt cr fa dn kd nm d sz) (fun n => spec_l6Segment.f k n) f l0_0 a0_1 a0_2 a0_3 a0_4 a0_5 a1_0 a1_1 a3 else none
theorem spec_AppendEntry.mono : ∀ a0 a1 a2 a3 a4 a5 a6 a7 a8 a9 k, LeO (spec_AppendEntry.f k a0 a1 a2 a3 a4 a5 a6 a7 a8 a9) (spec_AppendEntry.f (k + 1) a0 a1 a2 a3 a4 a5 a6 a7 a8 a9) := by
  intro a0 a1 a2 a3 a4 a5 a6 a7 a8 a9 k
  unfold spec_AppendEntry.f
  exact LeO.bind (spec_Frame.mono _ _) fun _ => LeO.ite (LeO.refl _) (LeO.ite (apBody_mono (fun _ _ _ _ _ _ _ _ _ _ => spec_FsStep.mono _ _ _ _ _ _ _ _ _ _ _) (fun _ => spec_l6Segment.mono _ _)) (LeO.refl _))
theorem spec_AppendEntry.calls (k : Nat) (A0_0 : Option Addr) (c0_0 : Nat) (l0_0 : List (S61)) (a0_1 : Int) (a0_2 : Int) (a0_3 : Int) (a0_4 : Int) (a0_5 : Bool) (a1_0 : Int) (a1_1 : Int) (a2 : ByteArray) (a3 : Int) (r1 : List (S61)) (r2 : Int) (r3 : Int) (r4 : Int) (r5 : Int) (r6 : Bool) (r7 : Int) (r8 : Int) (r9 : Int) (w : World) (hr0_0 : Kd.C k61 w A0_0 l0_0.length l0_0) (hc0_0 : l0_0.length ≤ c0_0) (h : spec_AppendEntry.f k l0_0 a0_1 a0_2 a0_3 a0_4 a0_5 a1_0 a1_1 a2 a3 = some (r1, r2, r3, r4, r5, r6, r7, r8, r9)) :
    Calls Tryz.prog 5 #[.agg #[.slice A0_0 l0_0.length c0_0, .int .i64 a0_1, .int .i64 a0_2, .int .i64 a0_3, .int .i64 a0_4, .bool a0_5], .agg #[.int .i64 a1_0, .int .i64 a1_1], .string a2, .int .i64 a3] w fun e w' => ∃ v0_ : Value, e = .returned (.tuple #[.agg #[v0_, .int .i64 r2, .int .i64 r3, .int .i64 r4, .int .i64 r5, .bool r6], .agg #[.int .i64 r7, .int .i64 r8], .int .i64 r9]) ∧ Kd.R k61 61 w' w.heap.size (fun _ => True) v0_ r1 ∧ Below w.heap.size w w' := by
  unfold spec_AppendEntry.f at h
  replace h := Option.bind_eq_some_iff.mp h
  obtain ⟨f, hf, h⟩ := h
  have hframe := fun w' => spec_Frame.calls k a2 f w' hf
  have hbt : ∀ a lo hi w', Calls Tryz.prog 15 #[.int .i64 a, .int .i64 lo, .int .i64 hi] w' fun e w'' => e = .returned (.bool (decide (lo ≤ a ∧ a ≤ hi))) ∧ Below w'.heap.size w' w'' := by
    intro a lo hi w'
    have e : spec_l1Between.f a lo hi = some (decide (lo ≤ a ∧ a ≤ hi)) := by
      unfold spec_l1Between.f
      by_cases c : lo ≤ a
      · simp [c]
      · simp [c]
    refine (spec_l1Between.calls a lo hi _ w' e).mono ?_
    rintro e w'' ⟨rfl, m, rfl⟩
    exact ⟨rfl, pbd (Below.refl _ _) m⟩
  have hcopy : ∀ (A : Option Addr) (c : Nat) (l : List (S61)) (cap cnt cr fa : Int) (dn : Bool) (w' : World), Kd.C k61 w' A l.length l → l.length ≤ c → l.length ≤ 2000000 → Calls Tryz.prog 16 #[.agg #[.slice A l.length c, .int .i64 cap, .int .i64 cnt, .int .i64 cr, .int .i64 fa, .bool dn]] w' fun e w'' => ∃ v0_ : Value, e = .returned (.agg #[v0_, .int .i64 cap, .int .i64 cnt, .int .i64 cr, .int .i64 fa, .bool dn]) ∧ Kd.R k61 61 w'' w'.heap.size (fun _ => True) v0_ l ∧ Below w'.heap.size w' w'' := by
    intro A c l cap cnt cr fa dn w' h1 h2 h3
    refine spec_l6Copy.calls A c l cap cnt cr fa dn _ _ _ _ _ _ w' h1 h2 ?_
    unfold spec_l6Copy.f
    simp only [Option.bind_some, List.length_nil, Nat.zero_add, List.nil_append]
    rw [if_pos (by omega)]
  by_cases hbad : f.size = 0 ∨ ¬ (1 ≤ a1_0 ∧ a1_0 ≤ 9999) ∨ ¬ (0 ≤ a1_1 ∧ a1_1 ≤ 1000000000) ∨ ¬ (1 ≤ a3 ∧ a3 ≤ 1000000000)
  · rw [if_pos hbad] at h
    by_cases hl : l0_0.length ≤ 2000000
    · rw [if_pos hl] at h
      simp only [Option.some.injEq, Prod.mk.injEq] at h
      obtain ⟨rfl, rfl, rfl, rfl, rfl, rfl, rfl, rfl, rfl⟩ := h
      exact specAp_bad A0_0 c0_0 l0_0 a0_1 a0_2 a0_3 a0_4 a0_5 a1_0 a1_1 a2 a3 w hr0_0 hc0_0 f hl hframe hbt hcopy hbad
    · rw [if_neg hl] at h
      cases h
  · rw [if_neg hbad] at h
    by_cases hs : 1 ≤ f.size ∧ f.size ≤ 100000 ∧ l0_0.length ≤ 2000000
    · rw [if_pos hs] at h
      have b1 : 1 ≤ a1_0 ∧ a1_0 ≤ 9999 := Classical.byContradiction fun e => hbad (.inr (.inl e))
      have b2 : 0 ≤ a1_1 ∧ a1_1 ≤ 1000000000 := Classical.byContradiction fun e => hbad (.inr (.inr (.inl e)))
      have b3 : 1 ≤ a3 ∧ a3 ≤ 1000000000 := Classical.byContradiction fun e => hbad (.inr (.inr (.inr e)))
      exact specAp_good A0_0 c0_0 l0_0 a0_1 a0_2 a0_3 a0_4 a0_5 a1_0 a1_1 a2 a3 w hr0_0 hc0_0 f b1 b2 b3 ⟨hs.1, hs.2.1⟩ hs.2.2 hframe hbt hcopy _ (fun n nm w' _ e => spec_l6Segment.calls k n nm w' e) _ (fun A c l cap cnt cr fa dn kd nm d sz l' cap' cnt' cr' fa' dn' q w' e h1 h2 => spec_FsStep.calls k A c l cap cnt cr fa dn kd nm d sz l' cap' cnt' cr' fa' dn' q w' h1 h2 e) _ _ _ _ _ _ _ _ _ h
    · rw [if_neg hs] at h
      cases h
def laws_toFile.f (a0_0 : ByteArray) (a0_1 : ByteArray) (a0_2 : Int) : Option (ByteArray × ByteArray × Int) := some (a0_0, a0_1, a0_2)
set_option maxHeartbeats 8000000 in
set_option maxRecDepth 100000 in
theorem laws_toFile.calls (a0_0 : ByteArray) (a0_1 : ByteArray) (a0_2 : Int) (r1 : ByteArray) (r2 : ByteArray) (r3 : Int) (w : World) (h : laws_toFile.f a0_0 a0_1 a0_2 = some (r1, r2, r3)) :
    Calls Tryz.prog 34 #[.agg #[.string a0_0, .string a0_1, .int .i64 a0_2]] w fun e w' => e = .returned (.agg #[.string r1, .string r2, .int .i64 r3]) ∧ Below w.heap.size w w' := by
  have hu55 := Tryz.underlying55; have hu61 := Tryz.underlying61; have HB := qK (Below.refl w.heap.size w); have H : (some (a0_0, a0_1, a0_2)) = some (r1, r2, r3) := h; clear h; simp only [Option.some.injEq, Prod.mk.injEq] at H; obtain ⟨rfl, rfl, rfl⟩ := H; go_enter Tryz.func34, Tryz.ntmps34; go_wp2_with (first | ((with_reducible refine gds (N := 1) rfl ?_); refine qbx 1 #[.string a0_0, .string a0_1, .int .i64 a0_2] 55 ?_; intro gb165 hg w2 hbox hb; have BK165 := qK (hbox); have GW165 := qK ((qW : w.heap.size ≤ gb165)); have GE165 := GW165; replace HB := qHB HB hb; clear hb hbox hg) | ((with_reducible refine gds (N := 2) rfl ?_); refine qbx 2 #[.string (⟨#[]⟩ : ByteArray), .string (⟨#[]⟩ : ByteArray), .int .i64 0] 61 ?_; intro gb166 hg w3 hbox hb; have BK166 := qK (hbox); have GW166 := qK ((qW : w.heap.size ≤ gb166)); have GE166 := GW166; replace HB := qHB HB hb; have NB165_166 := qK (qlt BK165 hg); have NB166_165 := qK (qgt BK165 hg); replace BK165 := qbb BK165 hb; clear hb hbox hg) | ((with_reducible refine gds (N := 3) rfl ?_); refine qbx 3 #[.string (⟨#[]⟩ : ByteArray), .string (⟨#[]⟩ : ByteArray), .int .i64 0] 61 ?_; intro gb167 hg w4 hbox hb; have BK167 := qK (hbox); have GW167 := qK ((qW : w.heap.size ≤ gb167)); have GE167 := GW167; replace HB := qHB HB hb; have NB165_167 := qK (qlt BK165 hg); have NB167_165 := qK (qgt BK165 hg); replace BK165 := qbb BK165 hb; have NB166_167 := qK (qlt BK166 hg); have NB167_166 := qK (qgt BK166 hg); replace BK166 := qbb BK166 hb; clear hb hbox hg; have hnb5 := NB165_166.out; have hnc5 := NB166_165.out; have hnb6 := NB165_167.out; have hnc6 := NB167_165.out; have hz7 := qz3 BK165.out; have hnb8 := NB167_166.out; have hnc8 := NB166_167.out; have hz9 := qz3 BK167.out; have hz10 := qz3 BK166.out)); refine bodyPost_ret (results_cell_row rfl _ _ gb166 61 #[.string a0_0, .string a0_1, .int .i64 a0_2] (0, 0) _ rfl (by (with_reducible repeat (first | refine bdN ?_ _ | refine bkD ?_ | refine bkA ?_ _)); refine bpu (cs := #[.string a0_0, .string a0_1, .int .i64 0]) ?_ 2 _ rfl; refine bpu (cs := #[.string a0_0, .string (⟨#[]⟩ : ByteArray), .int .i64 0]) ?_ 1 _ rfl; refine bpu (cs := #[.string (⟨#[]⟩ : ByteArray), .string (⟨#[]⟩ : ByteArray), .int .i64 0]) ?_ 0 _ rfl; refine bfa ?_ NB166_167.out _; refine bfa ?_ NB166_167.out _; refine bfa ?_ NB166_167.out _; exact BK166.out) Tryz.underlying61 rfl (by kernel_rfl)) rfl ?_; exact ⟨qR, qB⟩
def laws_toFileS.l0 : Nat → List (S55) → List (S61) → Int → Option ((List (S61)))
  | 0, _, _, _ => none
  | k + 1, x0, x3, x4 => if x4 < (x0.length : Int) then (if 0 ≤ x4 then ((laws_toFile.f ((rd_T55 x0 x4).f0) ((rd_T55 x0 x4).f1) ((rd_T55 x0 x4).f2)).bind fun bt172 => (if x4 < (x3.length : Int) then (laws_toFileS.l0 k x0 (x3.set (x4 : Int).toNat (⟨bt172.1, bt172.2.1, bt172.2.2⟩ : S61)) (wrap64 (x4 + 1))) else (none))) else (none)) else (some x3)
def laws_toFileS.f (k : Nat) (l0 : List (S55)) : Option ((List (S61))) := if 0 ≤ (l0.length : Int) then (if ((l0.length : Int) : Int).toNat ≤ 7036874417766 then (laws_toFileS.l0 k l0 (List.replicate ((l0.length : Int) : Int).toNat z61) 0) else (none)) else (none)
theorem laws_toFileS.mono_l : ∀ k, (∀ y0 y1 y2, LeO (laws_toFileS.l0 k y0 y1 y2) (laws_toFileS.l0 (k + 1) y0 y1 y2))
  | 0 => fun _ _ _ r h => by simp [laws_toFileS.l0] at h
  | k + 1 => by
    have ih0 := laws_toFileS.mono_l k
    · intro y0 y1 y2
      unfold laws_toFileS.l0
      repeat' first
      | (with_reducible exact ih0 _ _ _)
      | (with_reducible exact LeO.refl _)
      | (with_reducible exact LeO.none _)
      | (with_reducible refine LeO.ite ?_ ?_)
      | (with_reducible refine LeO.bind ?_ (fun _ => ?_))
      | exact ih0 _ _ _
      | exact LeO.none _
      | refine LeO.ite ?_ ?_
      | refine LeO.bind ?_ (fun _ => ?_)
theorem laws_toFileS.mono : ∀ a0 k, LeO (laws_toFileS.f k a0) (laws_toFileS.f (k + 1) a0) := by
  intro a0 k
  have ih0 := laws_toFileS.mono_l k
  unfold laws_toFileS.f
  repeat' first
      | (with_reducible exact ih0 _ _ _)
      | (with_reducible exact LeO.refl _)
      | (with_reducible exact LeO.none _)
      | (with_reducible refine LeO.ite ?_ ?_)
      | (with_reducible refine LeO.bind ?_ (fun _ => ?_))
      | exact ih0 _ _ _
      | exact LeO.none _
      | refine LeO.ite ?_ ?_
      | refine LeO.bind ?_ (fun _ => ?_)
set_option maxHeartbeats 8000000 in
set_option maxRecDepth 100000 in
theorem laws_toFileS.calls (k : Nat) (A0 : Option Addr) (c0 : Nat) (l0 : List (S55)) (r : List (S61)) (w : World) (hr0 : Kd.C k55 w A0 l0.length l0) (hc0 : l0.length ≤ c0) (h : laws_toFileS.f k l0 = some r) :
    Calls Tryz.prog 19 #[.slice A0 l0.length c0] w fun e w' => ∃ v0_ : Value, e = .returned (v0_) ∧ Kd.R k61 61 w' w.heap.size (fun _ => True) v0_ r ∧ Below w.heap.size w w' := by
  have hu55 := Tryz.underlying55; have hu61 := Tryz.underlying61; have HR0 := qK hr0; have HC0 := qK hc0; clear hr0 hc0; have HB := qK (Below.refl w.heap.size w); have H : (if 0 ≤ (l0.length : Int) then (if ((l0.length : Int) : Int).toNat ≤ 7036874417766 then (laws_toFileS.l0 k l0 (List.replicate ((l0.length : Int) : Int).toNat z61) 0) else (none)) else (none)) = some r := h; clear h; by_cases c2 : 0 ≤ (l0.length : Int)
  · rw [if_pos c2] at H; have c2b0 := eq_true c2; have c2b1 : decide (0 ≤ (l0.length : Int)) = true := decide_eq_true c2; clear c2; by_cases c3 : ((l0.length : Int) : Int).toNat ≤ 7036874417766
    · rw [if_pos c3] at H; have c3b0 := eq_true c3; have c3b1 : decide (((l0.length : Int) : Int).toNat ≤ 7036874417766) = true := decide_eq_true c3; clear c3; obtain ⟨y168, hy168⟩ : ∃ y_ : List (S61), y_ = (List.replicate ((l0.length : Int) : Int).toNat z61) := ⟨_, rfl⟩; (replace H : (laws_toFileS.l0 k l0 y168 0) = some r := by first | (rw [hy168]; with_reducible exact H) | (have H2_ := (Option.bind_some _ _).symm.trans H; rw [hy168]; with_reducible exact H2_) | (have H2_ := (Option.bind_some _ _).symm.trans H; with_reducible exact H2_) | with_reducible exact H | (rw [hy168]; exact H) | exact H); have Ny168 := qK hy168; clear hy168; have H' := qK H; clear H; go_enter Tryz.func19, Tryz.ntmps19; go_wp2_with (first | ((with_reducible refine gds (N := 7) rfl ?_); refine Kd.R_make k61 _ 61 rfl (N := 7) rfl 28 _ _ rfl (l0.length : Int) rfl rfl Tryz.underlying28 (.agg #[(.string ⟨#[]⟩), (.string ⟨#[]⟩), (.int .i64 0)]) 40 info61 rfl (by decide) (by omega) z61 (ok := fun _ => True) (okp := fun _ => True) (k61_mkM _ _ _ z61 ) (fun _ hk => hk) trivial (of_decide_eq_true qa) (Nat.le_trans (Nat.mul_le_mul_right _ (of_decide_eq_true qa : (l0.length : Int).toNat ≤ 7036874417766)) (by omega)) (Below.refl _ _) (Nat.le_refl _) ?_; intro v169 w4 ho5 hb hg_ hnew_; clear hg_ hnew_; (first | rw [← Ny168.out] at ho5 | (simp only [Int.reduceToNat] at ho5; rw [← Ny168.out] at ho5)); have HO170 := qK (Kd.Rlo ho5 (bsz qB)); replace HB := qHB HB hb; clear hb ho5)); go_loopg [4] k (fun kq v4 w' => ∃ (x3_1 : List (S61)) (x4_1 : Int), v4 = .int .i64 x4_1 ∧ Aside0 (laws_toFileS.l0 kq l0 x3_1 x4_1 = some r) ∧ Aside0 (kq ≤ k) ∧ Aside0 (Kd.R k61 61 w' w.heap.size (fun _ => True) v169 x3_1) ∧ Aside0 (Below w.heap.size w w'))
      case atStart => exact ⟨(y168), (0), qS, H', ⟨Nat.le_refl _⟩, ⟨by (with_reducible repeat (first | apply Kd.Ral | apply Kd.RdN | apply Kd.Rdr)); exact HO170.out⟩, ⟨qB⟩⟩
      case round =>
        clear H'; (try clear c1); (try clear c2); (try clear c2b0); (try clear c2b1); (try clear p2); (try clear c3); (try clear c3b0); (try clear c3b1); obtain ⟨x3_1, x4_1, rfl, HA, HK1, HO_3, HB⟩ := hrel
        cases gk with
        | zero => exact absurd HA.out (by simp [laws_toFileS.l0])
        | succ k1 =>
          have H := HA.out; clear HA; simp only [laws_toFileS.l0] at H; by_cases c6 : x4_1 < (l0.length : Int)
          · rw [if_pos c6] at H; have c6b0 : decide (x4_1 < (l0.length : Int)) = true := decide_eq_true c6; clear c6; by_cases c7 : 0 ≤ x4_1
            · rw [if_pos c7] at H; have c7b0 : decide (0 ≤ x4_1) = true := decide_eq_true c7; clear c7; replace H := Option.bind_eq_some_iff.mp H; obtain ⟨⟨t172, t173, t174⟩, A80, H⟩ := H; have A8 := qK A80; clear A80; by_cases c9 : x4_1 < (x3_1.length : Int)
              · rw [if_pos c9] at H; have c9b0 : decide (x4_1 < (x3_1.length : Int)) = true := decide_eq_true c9; clear c9; obtain ⟨y175, hy175⟩ : ∃ y_ : List (S61), y_ = (x3_1.set (x4_1 : Int).toNat (⟨t172, t173, t174⟩ : S61)) := ⟨_, rfl⟩; (replace H : (laws_toFileS.l0 k1 l0 y175 (wrap64 (x4_1 + 1))) = some r := by first | (rw [hy175]; with_reducible exact H) | (have H2_ := (Option.bind_some _ _).symm.trans H; rw [hy175]; with_reducible exact H2_) | (have H2_ := (Option.bind_some _ _).symm.trans H; with_reducible exact H2_) | with_reducible exact H | (rw [hy175]; exact H) | exact H); have Ny175 := qK hy175; clear hy175; have H' := qK H; clear H; have p171 : 0 ≤ (x4_1 : Int) := of_decide_eq_true qa; have q171 : x4_1 < (l0.length : Int) := of_decide_eq_true qa; obtain ⟨ad171, e171, hx171_0, hx171_1, hx171_2⟩ := at_T55 HR0.out x4_1 p171 q171; cases e171; replace hx171_0 := (HB.out.cell (World.block_lt_of_cell? w _ hx171_0)).trans hx171_0; replace hx171_1 := (HB.out.cell (World.block_lt_of_cell? w _ hx171_1)).trans hx171_1; replace hx171_2 := (HB.out.cell (World.block_lt_of_cell? w _ hx171_2)).trans hx171_2; replace p171 := eq_true p171; replace q171 := eq_true q171; go_wp2_with (first | ((with_reducible refine gcl (f := 34) rfl ?_); refine goesL_ (some 20) rfl rfl Tryz.func34 (by kernel_rfl) rfl #[.agg #[.string ((rd_T55 l0 x4_1).f0), .string ((rd_T55 l0 x4_1).f1), .int .i64 ((rd_T55 l0 x4_1).f2)]] rfl qA ?_; (with_reducible refine (laws_toFile.calls ((rd_T55 l0 x4_1).f0) ((rd_T55 l0 x4_1).f1) ((rd_T55 l0 x4_1).f2) t172 t173 t174 _ A8.out).mono ?_); rintro e w11 ⟨rfl, hb⟩; refine ⟨_, rfl, ?_⟩; replace HO_3 := qK (Kd.Rbe (qRb HO_3) hb); replace HB := qHB HB hb; (try clear hb); (try clear hb2); (try clear hk); (try clear hi); have p10 : 0 ≤ (x4_1 : Int) := of_decide_eq_true qa; have q10 : (x4_1 : Int) < ((x3_1.length : Int) : Int) := of_decide_eq_true qa; obtain ⟨go10, co10, eo10, gb10, gl10, cl10, HG10⟩ := Kd.R_form HO_3.out (by omega); (first | cases eo10 | (injection eo10 with ea_ en_ ec_; (first | subst ea_ | (injection ea_ with ea_; subst ea_)); subst ec_; clear en_)); have GB10 := qK gb10; have GG10 := qK HG10; clear gb10 gl10 HG10; obtain ⟨ce10, hcl10, hM10, hcc10, hfr10⟩ := Kd.R_elem HO_3.out z61 (x4_1 : Int) p10 q10; obtain rfl := k61_openM hM10; have hx10_0 : w11.cell? ⟨go10, (x4_1 : Int).toNat * 3, none⟩ = some (.string ((rd_T61 x3_1 x4_1).f0)) := hcc10 0 _ rfl; have hx10_1 : w11.cell? ⟨go10, (x4_1 : Int).toNat * 3 + 1, none⟩ = some (.string ((rd_T61 x3_1 x4_1).f1)) := hcc10 1 _ rfl; have hx10_2 : w11.cell? ⟨go10, (x4_1 : Int).toNat * 3 + 2, none⟩ = some (.int .i64 ((rd_T61 x3_1 x4_1).f2)) := hcc10 2 _ rfl; have hf10_0 : w11.frozen? ⟨go10, (x4_1 : Int).toNat * 3, none⟩ = false := hfr10 0; have hf10_1 : w11.frozen? ⟨go10, (x4_1 : Int).toNat * 3 + 1, none⟩ = false := hfr10 1; have hf10_2 : w11.frozen? ⟨go10, (x4_1 : Int).toNat * 3 + 2, none⟩ = false := hfr10 2; clear hcl10 hcc10 hfr10; (try clear hM10); replace p10 := eq_true p10; replace q10 := eq_true q10; have HX12 := qK (show Kd.R k61 61 w11 w.heap.size (fun _ => True) (.slice (some ⟨go10, 0, none⟩) x3_1.length co10) x3_1 from (qRb HO_3)); obtain ⟨ce12, hcl12, hM12, hcc12, hfr12⟩ := Kd.R_elem HX12.out z61 (x4_1 : Int) (of_decide_eq_true qa) (by have h_ : (x4_1 : Int) < ((x3_1.length : Int) : Int) := of_decide_eq_true qa; first | exact h_ | (have e_ := (Kd.R_reads' HO_3.out).1; omega) | simpa using h_); obtain rfl := k61_openM hM12; have HP12 := Kd.R_seg HX12.out (x4_1 : Int) (of_decide_eq_true qa) (by have h_ : (x4_1 : Int) < ((x3_1.length : Int) : Int) := of_decide_eq_true qa; first | exact h_ | (have e_ := (Kd.R_reads' HO_3.out).1; omega) | simpa using h_) (seg := [.string t172, .string t173, .int .i64 t174]) (j := 0) hcl12 hcc12 (show 3 ≤ 3 from by decide) (x' := (⟨t172, t173, t174⟩ : S61)) (k61_mkM _ _ _ (⟨t172, t173, t174⟩ : S61) ) (fun _ hk => hk); have hx12_0 := hcc12 0 _ rfl; (try simp only [show (k61).sz = 3 from rfl, Nat.mul_one, Nat.add_zero] at hx12_0); have hf12_0 := hfr12 0; (try simp only [show (k61).sz = 3 from rfl, Nat.mul_one, Nat.add_zero] at hf12_0); have hx12_1 := hcc12 1 _ rfl; (try simp only [show (k61).sz = 3 from rfl, Nat.mul_one, Nat.add_zero] at hx12_1); have hf12_1 := hfr12 1; (try simp only [show (k61).sz = 3 from rfl, Nat.mul_one, Nat.add_zero] at hf12_1); have hx12_2 := hcc12 2 _ rfl; (try simp only [show (k61).sz = 3 from rfl, Nat.mul_one, Nat.add_zero] at hx12_2); have hf12_2 := hfr12 2; (try simp only [show (k61).sz = 3 from rfl, Nat.mul_one, Nat.add_zero] at hf12_2); clear hcl12 hcc12 hfr12; (try clear hM12)) | ((with_reducible refine gst (t := 61) (p := 21) rfl ?_); refine ste (t := 61) (p := 21) (v := ?vo_w13) (w1 := (((w11.setCell ⟨go10, (x4_1 : Int).toNat * 3, none⟩ (.string t172)).setCell ⟨go10, (x4_1 : Int).toNat * 3 + 1, none⟩ (.string t173)).setCell ⟨go10, (x4_1 : Int).toNat * 3 + 2, none⟩ (.int .i64 t174))) ?hg ?ho ?hn ?hr ?_; (case ho => rfl); (case hg => rfl); (case hn => rfl); (case hr => first | (go_simp; done) | (go_simp; rfl)); intro w13 hw; have hg : w11.grownBy w13 (some go10) := (by rw [hw]; exact HP12.2); have hp_ : Kd.R k61 61 w13 w.heap.size (fun _ => True) (.slice (some ⟨go10, 0, none⟩) x3_1.length co10) y175 := (by rw [hw, Ny175.out]; exact HP12.1); clear HP12; replace HO_3 := qK (hp_); replace HB := qK ((by rw [hw]; exact bse (bse (bse (HB.out) GB10.out) GB10.out) GB10.out : Below w.heap.size w w13)); clear hg hw hp_)); go_roundg k1
                case measure => have := HK1.out; omega
                case rel => exact ⟨(y175), (wrap64 (x4_1 + 1)), qS, H', ⟨by have := HK1.out; omega⟩, ⟨by (with_reducible repeat (first | apply Kd.Ral | apply Kd.RdN | apply Kd.Rdr)); exact HO_3.out⟩, ⟨qB⟩⟩
              · rw [if_neg c9] at H; exact absurd H (by simp)
            · rw [if_neg c7] at H; exact absurd H (by simp)
          · rw [if_neg c6] at H; have c6b0 : decide (x4_1 < (l0.length : Int)) = false := decide_eq_false c6; clear c6; obtain rfl := Option.some.inj H; go_wp2; go_ret; exact ⟨_, qR, by (with_reducible repeat (first | apply Kd.Ral | apply Kd.RdN | apply Kd.Rdr)); exact HO_3.out, qB⟩
    · rw [if_neg c3] at H; exact absurd H (by simp)
  · rw [if_neg c2] at H; exact absurd H (by simp)
def laws_toFs.f (k : Nat) (l0_0 : List (S55)) (a0_1 : Int) (a0_2 : Int) (a0_3 : Int) (a0_4 : Int) (a0_5 : Bool) : Option ((List (S61)) × Int × Int × Int × Int × Bool) := (laws_toFileS.f k l0_0).bind fun t179 => (some (t179, a0_1, a0_2, a0_3, a0_4, a0_5))
theorem laws_toFs.mono : ∀ a0 a1 a2 a3 a4 a5 k, LeO (laws_toFs.f k a0 a1 a2 a3 a4 a5) (laws_toFs.f (k + 1) a0 a1 a2 a3 a4 a5) := by
  intro a0 a1 a2 a3 a4 a5 k
  unfold laws_toFs.f
  repeat' first
      | (with_reducible exact laws_toFileS.mono _ _)
      | (with_reducible exact LeO.refl _)
      | (with_reducible exact LeO.none _)
      | (with_reducible refine LeO.ite ?_ ?_)
      | (with_reducible refine LeO.bind ?_ (fun _ => ?_))
      | exact laws_toFileS.mono _ _
      | exact LeO.none _
      | refine LeO.ite ?_ ?_
      | refine LeO.bind ?_ (fun _ => ?_)
set_option maxHeartbeats 8000000 in
set_option maxRecDepth 100000 in
theorem laws_toFs.calls (k : Nat) (A0_0 : Option Addr) (c0_0 : Nat) (l0_0 : List (S55)) (a0_1 : Int) (a0_2 : Int) (a0_3 : Int) (a0_4 : Int) (a0_5 : Bool) (r1 : List (S61)) (r2 : Int) (r3 : Int) (r4 : Int) (r5 : Int) (r6 : Bool) (w : World) (hr0_0 : Kd.C k55 w A0_0 l0_0.length l0_0) (hc0_0 : l0_0.length ≤ c0_0) (h : laws_toFs.f k l0_0 a0_1 a0_2 a0_3 a0_4 a0_5 = some (r1, r2, r3, r4, r5, r6)) :
    Calls Tryz.prog 6 #[.agg #[.slice A0_0 l0_0.length c0_0, .int .i64 a0_1, .int .i64 a0_2, .int .i64 a0_3, .int .i64 a0_4, .bool a0_5]] w fun e w' => ∃ v0_ : Value, e = .returned (.agg #[v0_, .int .i64 r2, .int .i64 r3, .int .i64 r4, .int .i64 r5, .bool r6]) ∧ Kd.R k61 61 w' w.heap.size (fun _ => True) v0_ r1 ∧ Below w.heap.size w w' := by
  have hu24 := Tryz.underlying24; have hu30 := Tryz.underlying30; have HR0_0 := qK hr0_0; have HC0_0 := qK hc0_0; clear hr0_0 hc0_0; have HB := qK (Below.refl w.heap.size w); have H : ((laws_toFileS.f k l0_0).bind fun t179 => (some (t179, a0_1, a0_2, a0_3, a0_4, a0_5))) = some (r1, r2, r3, r4, r5, r6) := h; clear h; replace H := Option.bind_eq_some_iff.mp H; obtain ⟨t179, A20, H⟩ := H; have A2 := qK A20; clear A20; simp only [Option.some.injEq, Prod.mk.injEq] at H; obtain ⟨rfl, rfl, rfl, rfl, rfl, rfl⟩ := H; go_enter Tryz.func6, Tryz.ntmps6; go_wp2_with (first | ((with_reducible refine gds (N := 1) rfl ?_); refine qbx 1 #[.slice A0_0 l0_0.length c0_0, .int .i64 a0_1, .int .i64 a0_2, .int .i64 a0_3, .int .i64 a0_4, .bool a0_5] 24 ?_; intro gb176 hg w3 hbox hb; have BK176 := qK (hbox); have GW176 := qK ((qW : w.heap.size ≤ gb176)); have GE176 := GW176; replace HB := qHB HB hb; clear hb hbox hg) | ((with_reducible refine gds (N := 2) rfl ?_); refine qbx 2 #[.slice none 0 0, .int .i64 0, .int .i64 0, .int .i64 0, .int .i64 0, .bool false] 30 ?_; intro gb177 hg w4 hbox hb; have BK177 := qK (hbox); have GW177 := qK ((qW : w.heap.size ≤ gb177)); have GE177 := GW177; replace HB := qHB HB hb; have NB176_177 := qK (qlt BK176 hg); have NB177_176 := qK (qgt BK176 hg); replace BK176 := qbb BK176 hb; clear hb hbox hg) | ((with_reducible refine gds (N := 3) rfl ?_); refine qbx 3 #[.slice none 0 0, .int .i64 0, .int .i64 0, .int .i64 0, .int .i64 0, .bool false] 30 ?_; intro gb178 hg w5 hbox hb; have BK178 := qK (hbox); have GW178 := qK ((qW : w.heap.size ≤ gb178)); have GE178 := GW178; replace HB := qHB HB hb; have NB176_178 := qK (qlt BK176 hg); have NB178_176 := qK (qgt BK176 hg); replace BK176 := qbb BK176 hb; have NB177_178 := qK (qlt BK177 hg); have NB178_177 := qK (qgt BK177 hg); replace BK177 := qbb BK177 hb; clear hb hbox hg; have hnb6 := NB176_177.out; have hnc6 := NB177_176.out; have hnb7 := NB176_178.out; have hnc7 := NB178_176.out; have hz8 := qz6 BK176.out) | ((with_reducible refine gcl (f := 19) rfl ?_); refine goesL_ (some 6) rfl rfl Tryz.func19 (by kernel_rfl) rfl #[.slice A0_0 l0_0.length c0_0] rfl qA ?_; (with_reducible refine (laws_toFileS.calls k _ _ l0_0 t179 _ ?side1 ?side2 A2.out).mono ?_); (case side1 => exact qC HR0_0); (case side2 => exact HC0_0.out); rintro e w9 ⟨v180, rfl, ho0, hb⟩; refine ⟨_, rfl, ?_⟩; have HO181 := qK (Kd.Rlo ho0 (bsz qB)); replace BK176 := qbb BK176 hb; replace BK177 := qbb BK177 hb; replace BK178 := qbb BK178 hb; replace HB := qHB HB hb; (try clear hb); (try clear hb2); (try clear hk); (try clear hi); (try clear ho0); obtain ⟨Ao10, co10, eo10⟩ := Kd.R_slice HO181.out; subst eo10; have hnb11 := NB178_177.out; have hnc11 := NB177_178.out; have hz12 := qz6 BK178.out; have hz13 := qz6 BK176.out; have hz14 := qz6 BK177.out)); refine bodyPost_ret (results_cell_row rfl _ _ gb177 30 #[.slice Ao10 t179.length co10, .int .i64 a0_1, .int .i64 a0_2, .int .i64 a0_3, .int .i64 a0_4, .bool a0_5] (0, 0) _ rfl (by (with_reducible repeat (first | refine bdN ?_ _ | refine bkD ?_ | refine bkA ?_ _)); refine bpu (cs := #[.slice Ao10 t179.length co10, .int .i64 a0_1, .int .i64 a0_2, .int .i64 a0_3, .int .i64 a0_4, .bool false]) ?_ 5 _ rfl; refine bpu (cs := #[.slice Ao10 t179.length co10, .int .i64 a0_1, .int .i64 a0_2, .int .i64 a0_3, .int .i64 0, .bool false]) ?_ 4 _ rfl; refine bpu (cs := #[.slice Ao10 t179.length co10, .int .i64 a0_1, .int .i64 a0_2, .int .i64 0, .int .i64 0, .bool false]) ?_ 3 _ rfl; refine bpu (cs := #[.slice Ao10 t179.length co10, .int .i64 a0_1, .int .i64 0, .int .i64 0, .int .i64 0, .bool false]) ?_ 2 _ rfl; refine bpu (cs := #[.slice Ao10 t179.length co10, .int .i64 0, .int .i64 0, .int .i64 0, .int .i64 0, .bool false]) ?_ 1 _ rfl; refine bpu (cs := #[.slice none 0 0, .int .i64 0, .int .i64 0, .int .i64 0, .int .i64 0, .bool false]) ?_ 0 _ rfl; refine bfa ?_ NB177_178.out _; refine bfa ?_ NB177_178.out _; refine bfa ?_ NB177_178.out _; refine bfa ?_ NB177_178.out _; refine bfa ?_ NB177_178.out _; refine bfa ?_ NB177_178.out _; exact BK177.out) Tryz.underlying30 rfl (by kernel_rfl)) rfl ?_; exact ⟨_, qR, by (with_reducible repeat (first | apply Kd.Ral | apply Kd.RdN | apply Kd.Rdr)); exact Kd.Rmo (Kd.Rfa (p := ⟨gb177, 5, none⟩) (Kd.Rfa (p := ⟨gb177, 4, none⟩) (Kd.Rfa (p := ⟨gb177, 3, none⟩) (Kd.Rfa (p := ⟨gb177, 2, none⟩) (Kd.Rfa (p := ⟨gb177, 1, none⟩) (Kd.Rfa (p := ⟨gb177, 0, none⟩) (Kd.Rfa (p := ⟨gb178, 5, none⟩) (Kd.Rfa (p := ⟨gb178, 4, none⟩) (Kd.Rfa (p := ⟨gb178, 3, none⟩) (Kd.Rfa (p := ⟨gb178, 2, none⟩) (Kd.Rfa (p := ⟨gb178, 1, none⟩) (Kd.Rfa (p := ⟨gb178, 0, none⟩) (Kd.Rty (Kd.Rty HO181.out BK178.out (by decide)) BK177.out (by decide)) (fun _ hk => hk.1.2) (.slice Ao10 t179.length co10)) (fun _ hk => hk.1.2) (.int .i64 a0_1)) (fun _ hk => hk.1.2) (.int .i64 a0_2)) (fun _ hk => hk.1.2) (.int .i64 a0_3)) (fun _ hk => hk.1.2) (.int .i64 a0_4)) (fun _ hk => hk.1.2) (.bool a0_5)) (fun _ hk => hk.2) (.slice Ao10 t179.length co10)) (fun _ hk => hk.2) (.int .i64 a0_1)) (fun _ hk => hk.2) (.int .i64 a0_2)) (fun _ hk => hk.2) (.int .i64 a0_3)) (fun _ hk => hk.2) (.int .i64 a0_4)) (fun _ hk => hk.2) (.bool a0_5)) (fun _ hk => trivial), qB⟩
def laws_toLog.f (a0_0 : Int) (a0_1 : Int) : Option (Int × Int) := some (a0_0, a0_1)
set_option maxHeartbeats 8000000 in
set_option maxRecDepth 100000 in
theorem laws_toLog.calls (a0_0 : Int) (a0_1 : Int) (r1 : Int) (r2 : Int) (w : World) (h : laws_toLog.f a0_0 a0_1 = some (r1, r2)) :
    Calls Tryz.prog 7 #[.agg #[.int .i64 a0_0, .int .i64 a0_1]] w fun e w' => e = .returned (.agg #[.int .i64 r1, .int .i64 r2]) ∧ Below w.heap.size w w' := by
  have hu26 := Tryz.underlying26; have hu31 := Tryz.underlying31; have HB := qK (Below.refl w.heap.size w); have H : (some (a0_0, a0_1)) = some (r1, r2) := h; clear h; simp only [Option.some.injEq, Prod.mk.injEq] at H; obtain ⟨rfl, rfl⟩ := H; go_enter Tryz.func7, Tryz.ntmps7; go_wp2_with (first | ((with_reducible refine gds (N := 1) rfl ?_); refine qbx 1 #[.int .i64 a0_0, .int .i64 a0_1] 26 ?_; intro gb182 hg w2 hbox hb; have BK182 := qK (hbox); have GW182 := qK ((qW : w.heap.size ≤ gb182)); have GE182 := GW182; replace HB := qHB HB hb; clear hb hbox hg) | ((with_reducible refine gds (N := 2) rfl ?_); refine qbx 2 #[.int .i64 0, .int .i64 0] 31 ?_; intro gb183 hg w3 hbox hb; have BK183 := qK (hbox); have GW183 := qK ((qW : w.heap.size ≤ gb183)); have GE183 := GW183; replace HB := qHB HB hb; have NB182_183 := qK (qlt BK182 hg); have NB183_182 := qK (qgt BK182 hg); replace BK182 := qbb BK182 hb; clear hb hbox hg) | ((with_reducible refine gds (N := 3) rfl ?_); refine qbx 3 #[.int .i64 0, .int .i64 0] 31 ?_; intro gb184 hg w4 hbox hb; have BK184 := qK (hbox); have GW184 := qK ((qW : w.heap.size ≤ gb184)); have GE184 := GW184; replace HB := qHB HB hb; have NB182_184 := qK (qlt BK182 hg); have NB184_182 := qK (qgt BK182 hg); replace BK182 := qbb BK182 hb; have NB183_184 := qK (qlt BK183 hg); have NB184_183 := qK (qgt BK183 hg); replace BK183 := qbb BK183 hb; clear hb hbox hg; have hnb5 := NB182_183.out; have hnc5 := NB183_182.out; have hnb6 := NB182_184.out; have hnc6 := NB184_182.out; have hz7 := qz2 BK182.out; have hnb8 := NB184_183.out; have hnc8 := NB183_184.out; have hz9 := qz2 BK184.out; have hz10 := qz2 BK183.out)); refine bodyPost_ret (results_cell_row rfl _ _ gb183 31 #[.int .i64 a0_0, .int .i64 a0_1] (0, 0) _ rfl (by (with_reducible repeat (first | refine bdN ?_ _ | refine bkD ?_ | refine bkA ?_ _)); refine bpu (cs := #[.int .i64 a0_0, .int .i64 0]) ?_ 1 _ rfl; refine bpu (cs := #[.int .i64 0, .int .i64 0]) ?_ 0 _ rfl; refine bfa ?_ NB183_184.out _; refine bfa ?_ NB183_184.out _; exact BK183.out) Tryz.underlying31 rfl (by kernel_rfl)) rfl ?_; exact ⟨qR, qB⟩
def impl_number.l0 : Nat → Int → Int → List Int → Int → Int → Option (ByteArray)
  | 0, _, _, _, _, _ => none
  | k + 1, x0, x1, x5, x10, x11 => if x11 < x10 then (if 0 ≤ (wrap64 (8 * (wrap64 ((wrap64 (x1 - 1)) - x11)))) then (if 0 ≤ x11 then (if x11 < (x5.length : Int) then (impl_number.l0 k x0 x1 (x5.set (x11 : Int).toNat ((shr .i64 x0 (wrap64 (8 * (wrap64 ((wrap64 (x1 - 1)) - x11))))) % 256)) x10 (wrap64 (x11 + 1))) else (none)) else (none)) else (none)) else (some (strOfNums x5))
def impl_number.f (k : Nat) (a0 : Int) (a1 : Int) : Option (ByteArray) := if 0 ≤ a1 then (if (a1 : Int).toNat ≤ 281474976710656 then ((some (List.replicate (a1 : Int).toNat 0 : List Int)).bind fun y194 => (impl_number.l0 k a0 a1 y194 (y194.length : Int) 0)) else (none)) else (none)
theorem impl_number.mono_l : ∀ k, (∀ y0 y1 y2 y3 y4, LeO (impl_number.l0 k y0 y1 y2 y3 y4) (impl_number.l0 (k + 1) y0 y1 y2 y3 y4))
  | 0 => fun _ _ _ _ _ r h => by simp [impl_number.l0] at h
  | k + 1 => by
    have ih0 := impl_number.mono_l k
    · intro y0 y1 y2 y3 y4
      unfold impl_number.l0
      repeat' first
      | (with_reducible exact ih0 _ _ _ _ _)
      | (with_reducible exact LeO.refl _)
      | (with_reducible exact LeO.none _)
      | (with_reducible refine LeO.ite ?_ ?_)
      | (with_reducible refine LeO.bind ?_ (fun _ => ?_))
      | exact ih0 _ _ _ _ _
      | exact LeO.none _
      | refine LeO.ite ?_ ?_
      | refine LeO.bind ?_ (fun _ => ?_)
theorem impl_number.mono : ∀ a0 a1 k, LeO (impl_number.f k a0 a1) (impl_number.f (k + 1) a0 a1) := by
  intro a0 a1 k
  have ih0 := impl_number.mono_l k
  unfold impl_number.f
  repeat' first
      | (with_reducible exact ih0 _ _ _ _ _)
      | (with_reducible exact LeO.refl _)
      | (with_reducible exact LeO.none _)
      | (with_reducible refine LeO.ite ?_ ?_)
      | (with_reducible refine LeO.bind ?_ (fun _ => ?_))
      | exact ih0 _ _ _ _ _
      | exact LeO.none _
      | refine LeO.ite ?_ ?_
      | refine LeO.bind ?_ (fun _ => ?_)
set_option maxHeartbeats 8000000 in
set_option maxRecDepth 100000 in
theorem impl_number.calls (k : Nat) (a0 : Int) (a1 : Int) (r : ByteArray) (w : World) (h : impl_number.f k a0 a1 = some r) :
    Calls Tryz.prog 50 #[.int .i64 a0, .int .i64 a1] w fun e w' => e = .returned (.string r) ∧ Below w.heap.size w w' := by
  have HB := qK (Below.refl w.heap.size w); have H : (if 0 ≤ a1 then (if (a1 : Int).toNat ≤ 281474976710656 then ((some (List.replicate (a1 : Int).toNat 0 : List Int)).bind fun y194 => (impl_number.l0 k a0 a1 y194 (y194.length : Int) 0)) else (none)) else (none)) = some r := h; clear h; by_cases c3 : 0 ≤ a1
  · rw [if_pos c3] at H; have c3b0 := eq_true c3; have c3b1 : decide (0 ≤ a1) = true := decide_eq_true c3; clear c3; by_cases c4 : (a1 : Int).toNat ≤ 281474976710656
    · rw [if_pos c4] at H; have c4b0 := eq_true c4; have c4b1 : decide ((a1 : Int).toNat ≤ 281474976710656) = true := decide_eq_true c4; clear c4; obtain ⟨y194, hy194⟩ : ∃ y_ : List Int, y_ = (List.replicate (a1 : Int).toNat 0) := ⟨_, rfl⟩; (replace H : (impl_number.l0 k a0 a1 y194 (y194.length : Int) 0) = some r := by first | (rw [hy194]; with_reducible exact H) | (have H2_ := (Option.bind_some _ _).symm.trans H; rw [hy194]; with_reducible exact H2_) | (have H2_ := (Option.bind_some _ _).symm.trans H; with_reducible exact H2_) | with_reducible exact H | (rw [hy194]; exact H) | exact H); have Ny194 := qK hy194; clear hy194; have H' := qK H; clear H; go_enter Tryz.func50, Tryz.ntmps50; go_wp2_with (first | ((with_reducible refine gds (N := 8) rfl ?_); refine Kd.R_make (Kd.int .u8) _ 5 rfl (N := 8) rfl 60 _ _ rfl a1 rfl rfl Tryz.underlying60 (.int .u8 0) 1 info5 rfl (by decide) (by omega) 0 (ok := fun _ => True) (okp := fun _ => True) rfl (fun _ hk => hk) trivial (of_decide_eq_true qa) (Nat.le_trans (Nat.mul_le_mul_right _ (of_decide_eq_true qa : a1.toNat ≤ 281474976710656)) (by omega)) (Below.refl _ _) (Nat.le_refl _) ?_; intro v195 w5 ho6 hb hg_ hnew_; clear hg_ hnew_; (first | rw [← Ny194.out] at ho6 | (simp only [Int.reduceToNat] at ho6; rw [← Ny194.out] at ho6)); have HO196 := qK (Kd.Rlo ho6 (bsz qB)); replace HB := qHB HB hb; clear hb ho6; obtain ⟨Ao7, co7, eo7⟩ := Kd.R_slice HO196.out; subst eo7)); go_loopg [11] k (fun kq v11 w' => ∃ (x5_1 : List Int) (x11_1 : Int), v11 = .int .i64 x11_1 ∧ Aside0 (impl_number.l0 kq a0 a1 x5_1 (y194.length : Int) x11_1 = some r) ∧ Aside0 (kq ≤ k) ∧ Aside0 (Kd.R (Kd.int .u8) 5 w' w.heap.size (fun _ => True) (.slice Ao7 y194.length co7) x5_1) ∧ Aside0 (Below w.heap.size w w'))
      case atStart => exact ⟨(y194), (0), qS, H', ⟨Nat.le_refl _⟩, ⟨by (with_reducible repeat (first | apply Kd.Ral | apply Kd.RdN | apply Kd.Rdr)); exact HO196.out⟩, ⟨qB⟩⟩
      case round =>
        clear H'; (try clear p2); (try clear c3); (try clear c3b0); (try clear c3b1); (try clear c4); (try clear c4b0); (try clear c4b1); (try clear c5); obtain ⟨x5_1, x11_1, rfl, HA, HK1, HO_5, HB⟩ := hrel; have hl5_1 := (Kd.R_reads' HO_5.out).1; rw [hl5_1] at HO_5; (try simp only [hl5_1])
        cases gk with
        | zero => exact absurd HA.out (by simp [impl_number.l0])
        | succ k1 =>
          have H := HA.out; clear HA; simp only [impl_number.l0] at H; by_cases c8 : x11_1 < (y194.length : Int)
          · rw [if_pos c8] at H; have c8b0 : decide (x11_1 < (y194.length : Int)) = true := decide_eq_true c8; clear c8; obtain ⟨ji9, hji9⟩ : ∃ j_ : Int, (wrap64 (8 * (wrap64 ((wrap64 (a1 - 1)) - x11_1)))) = j_ := ⟨_, rfl⟩; (replace H : (if 0 ≤ (ji9) then (if 0 ≤ x11_1 then (if x11_1 < (x5_1.length : Int) then (impl_number.l0 k1 a0 a1 (x5_1.set (x11_1 : Int).toNat ((shr .i64 a0 (ji9)) % 256)) (y194.length : Int) (wrap64 (x11_1 + 1))) else (none)) else (none)) else (none)) = some r := by first | (rw [hji9] at H; exact H) | (simp only [hji9] at H ⊢; exact H)); have hji9w : (IntKind.i64.wrap (8 * (wrap64 ((wrap64 (a1 - 1)) - x11_1)))) = ji9 := (i64_w _).trans hji9; by_cases c10 : 0 ≤ (ji9)
            · rw [if_pos c10] at H; have c10b0 := eq_true c10; have c10b1 : decide (0 ≤ (ji9)) = true := decide_eq_true c10; clear c10; obtain ⟨ji11, hji11⟩ : ∃ j_ : Int, (shr .i64 a0 (ji9)) = j_ := ⟨_, rfl⟩; (replace H : (if 0 ≤ x11_1 then (if x11_1 < (x5_1.length : Int) then (impl_number.l0 k1 a0 a1 (x5_1.set (x11_1 : Int).toNat ((ji11) % 256)) (y194.length : Int) (wrap64 (x11_1 + 1))) else (none)) else (none)) = some r := by first | (rw [hji11] at H; exact H) | (simp only [hji11] at H ⊢; exact H)); have hji11_ : (a0 / 2 ^ min (ji9).toNat 64) = ji11 := hji11; have hji11z : (ji9) ≤ 64 → (a0 / 2 ^ (ji9).toNat) = ji11 := shr_small hji11; by_cases c12 : 0 ≤ x11_1
              · rw [if_pos c12] at H; have c12b0 : decide (0 ≤ x11_1) = true := decide_eq_true c12; clear c12; by_cases c13 : x11_1 < (x5_1.length : Int)
                · rw [if_pos c13] at H; have c13b0 : decide (x11_1 < (x5_1.length : Int)) = true := decide_eq_true c13; clear c13; obtain ⟨y197, hy197⟩ : ∃ y_ : List Int, y_ = (x5_1.set (x11_1 : Int).toNat ((ji11) % 256)) := ⟨_, rfl⟩; (replace H : (impl_number.l0 k1 a0 a1 y197 (y194.length : Int) (wrap64 (x11_1 + 1))) = some r := by first | (rw [hy197]; with_reducible exact H) | (have H2_ := (Option.bind_some _ _).symm.trans H; rw [hy197]; with_reducible exact H2_) | (have H2_ := (Option.bind_some _ _).symm.trans H; with_reducible exact H2_) | with_reducible exact H | (rw [hy197]; exact H) | exact H); have Ny197 := qK hy197; clear hy197; have H' := qK H; clear H; have p14 : 0 ≤ (x11_1 : Int) := of_decide_eq_true qa; have q14 : (x11_1 : Int) < ((x5_1.length : Int) : Int) := of_decide_eq_true qa; obtain ⟨go14, co14, eo14, gb14, gl14, cl14, HG14⟩ := Kd.R_form HO_5.out (by omega); (first | cases eo14 | (injection eo14 with ea_ en_ ec_; (first | subst ea_ | (injection ea_ with ea_; subst ea_)); subst ec_; clear en_)); have GB14 := qK gb14; have GG14 := qK HG14; clear gb14 gl14 HG14; obtain ⟨hx14_0, hf14_0⟩ := Kd.R_celln 0 HO_5.out (x11_1 : Int) p14 q14; replace p14 := eq_true p14; replace q14 := eq_true q14; have HP15 := Kd.R_putg HO_5.out (x11_1 : Int) ((ji11) % 256); go_wp2_with (first | ((with_reducible refine gst (t := 5) (p := 24) rfl ?_); refine ste (t := 5) (p := 24) (v := ?vo_w16) (w1 := (wr.setCell ⟨go14, (x11_1 : Int).toNat, none⟩ (.int .u8 ((ji11) % 256)))) ?hg ?ho ?hn ?hr ?_; (case ho => rfl); (case hg => rfl); (case hn => rfl); (case hr => first | (go_simp; done) | (go_simp; rfl)); intro w16 hw; have hg : wr.grownBy w16 (some go14) := (by rw [hw]; exact HP15.2); have hp_ : Kd.R (Kd.int .u8) 5 w16 w.heap.size (fun _ => True) (.slice (some ⟨go14, 0, none⟩) x5_1.length co7) y197 := (by rw [hw, Ny197.out]; exact HP15.1); clear HP15; replace HO_5 := qK (hp_); replace HB := qK ((by rw [hw]; exact bse (HB.out) GB14.out : Below w.heap.size w w16)); clear hg hw hp_)); (try simp only [← hl5_1]); go_roundg k1
                  case measure => have := HK1.out; omega
                  case rel => exact ⟨(y197), (wrap64 (x11_1 + 1)), qS, H', ⟨by have := HK1.out; omega⟩, ⟨by (try simp only [hl5_1]); (with_reducible repeat (first | apply Kd.Ral | apply Kd.RdN | apply Kd.Rdr)); exact HO_5.out⟩, ⟨qB⟩⟩
                · rw [if_neg c13] at H; exact absurd H (by simp)
              · rw [if_neg c12] at H; exact absurd H (by simp)
            · rw [if_neg c10] at H; exact absurd H (by simp)
          · rw [if_neg c8] at H; have c8b0 : decide (x11_1 < (y194.length : Int)) = false := decide_eq_false c8; clear c8; obtain rfl := Option.some.inj H; (have c8b1 : decide (x11_1 < (x5_1.length : Int)) = false := by rw [← hl5_1]; exact c8b0); have hcv17 := own_string (P := Tryz.prog) Tryz.underlying60 Tryz.underlying5 Tryz.underlying9 (Kd.own_of_R HO_5.out); go_wp2; go_ret; exact ⟨qR, qB⟩
    · rw [if_neg c4] at H; exact absurd H (by simp)
  · rw [if_neg c3] at H; exact absurd H (by simp)
def impl_u32.f (k : Nat) (a0 : Int) : Option (ByteArray) := (impl_number.f k a0 4).bind fun t198 => (some t198)
theorem impl_u32.mono : ∀ a0 k, LeO (impl_u32.f k a0) (impl_u32.f (k + 1) a0) := by
  intro a0 k
  unfold impl_u32.f
  repeat' first
      | (with_reducible exact impl_number.mono _ _ _)
      | (with_reducible exact LeO.refl _)
      | (with_reducible exact LeO.none _)
      | (with_reducible refine LeO.ite ?_ ?_)
      | (with_reducible refine LeO.bind ?_ (fun _ => ?_))
      | exact impl_number.mono _ _ _
      | exact LeO.none _
      | refine LeO.ite ?_ ?_
      | refine LeO.bind ?_ (fun _ => ?_)
set_option maxHeartbeats 8000000 in
set_option maxRecDepth 100000 in
theorem impl_u32.calls (k : Nat) (a0 : Int) (r : ByteArray) (w : World) (h : impl_u32.f k a0 = some r) :
    Calls Tryz.prog 37 #[.int .i64 a0] w fun e w' => e = .returned (.string r) ∧ Below w.heap.size w w' := by
  have HB := qK (Below.refl w.heap.size w); have H : ((impl_number.f k a0 4).bind fun t198 => (some t198)) = some r := h; clear h; replace H := Option.bind_eq_some_iff.mp H; obtain ⟨t198, A20, H⟩ := H; have A2 := qK A20; clear A20; obtain rfl := Option.some.inj H; go_enter Tryz.func37, Tryz.ntmps37; go_wp2_with (first | ((with_reducible refine gcl (f := 50) rfl ?_); refine goesL_ (some 4) rfl rfl Tryz.func50 (by kernel_rfl) rfl #[.int .i64 a0, .int .i64 4] rfl qA ?_; (with_reducible refine (impl_number.calls k a0 4 t198 _ A2.out).mono ?_); rintro e w3 ⟨rfl, hb⟩; refine ⟨_, rfl, ?_⟩; replace HB := qHB HB hb; (try clear hb); (try clear hb2); (try clear hk); (try clear hi))); go_ret; exact ⟨qR, qB⟩
theorem crcTable_info : (Tryz.prog.info? 78).map (fun i => (i.zero, i.size)) = some (some (.agg (Array.replicate 256 (.int .u32 0))), 256) := by kernel_rfl
set_option maxHeartbeats 400000 in
set_option maxRecDepth 100000 in
theorem crcTable_any (w : World) :
    Calls Tryz.prog 51 #[] w fun e w' => e = .returned (.agg (crcCells 256)) ∧ (w.alloc (.cells (crcCells 256) 78)).alloc (.cells (crcCells 256) 78) = w' := by
  have hz : ∀ w, (zeroValue 78).run Tryz.prog w = .ok (.agg (crcCells 0)) w := by
    have := (zero_of_info crcTable_info).1
    rw [crcCells_zero] at this
    exact this
  have hi : (Tryz.prog.info? 78).map (·.size) = some 256 := (zero_of_info crcTable_info).2
  have HI := Aside0.mk hi
  clear hi
  go_enter Tryz.func51, Tryz.ntmps51
  go_wp2_with (refine wpList_store_row rfl 78 (.tmp 1) (.tmp 4) rfl (w.heap.size + 1) (crcCells 0) rfl rfl 78 (crcCells 0) (heap_two_new _ _ _) (by rw [crcCells_size]; exact HI.out) rfl (crcCells_one _) ?_; rw [setRow_two_new])
  clear hz
  go_loopg [5, 2, 3] 256 (fun g s5 _ _ wx => ∃ i : Nat, i + g = 256 ∧ s5 = .int .i64 i ∧ wx = (w.alloc (.cells (crcCells 0) 78)).alloc (.cells (crcCells i) 78))
  case atStart => exact ⟨0, by omega, rfl, rfl⟩
  case round =>
    obtain ⟨i, hig, rfl, rfl⟩ := hrel
    cases gk with
    | zero =>
      obtain rfl : i = 256 := by omega
      go_wp2_with (first
        | (refine wpList_load_row rfl 78 (.tmp 1) rfl (w.heap.size + 1) rfl 78 (crcCells 256) (0, 0) _ (heap_two_new _ _ _) Tryz.underlying78 rfl (by rw [crcCells_size]; exact HI.out) ?_)
        | (refine wpList_store_row rfl 78 (.tmp 0) (.tmp 25) rfl w.heap.size (crcCells 256) rfl rfl 78 (crcCells 0) (heap_alloc2_old _ _ _) (by rw [crcCells_size]; exact HI.out) (by rw [crcCells_size, crcCells_size]) (crcCells_one _) ?_))
      rw [setRow_two_old]
      exact bodyPost_ret (v := .agg (crcCells 256)) (results_cell_row rfl _ _ w.heap.size 78 (crcCells 256) (0, 0) _ rfl (heap_alloc2_old _ _ _) Tryz.underlying78 rfl (by rw [crcCells_size]; exact HI.out)) rfl ⟨rfl, rfl⟩
    | succ g =>
      have hi : i < 256 := by omega
      have hiz : (i : Int) < 256 := by omega
      go_wp2
      go_loopg [10, 3] 8 (fun g2 s10 s3 wx => ∃ k : Nat, k + g2 = 8 ∧ s10 = .int .i64 k ∧ s3 = .int .u32 (crcSteps k i) ∧ wx = (w.alloc (.cells (crcCells 0) 78)).alloc (.cells (crcCells i) 78))
      case atStart => exact ⟨0, by omega, rfl, rfl, rfl⟩
      case round =>
        obtain ⟨k, hkg, rfl, rfl, rfl⟩ := hrel
        cases gk with
        | zero =>
          obtain rfl : k = 8 := by omega
          have hcell : (crcCells i)[i]? = some (.int .u32 0) := by rw [crcCells_at i i hi]; simp [crcCell]
          go_wp2
          go_roundg g
          case measure => omega
          case rel => exact ⟨i + 1, by omega, by first | rfl | simp, by rw [← crcCells_set]; rfl⟩
        | succ g2 =>
          have hk8 : (k : Int) < 8 := by omega
          have hs : crcSteps (k + 1) i = crcStep (crcSteps k i) := rfl
          have hr : 0 ≤ crcSteps k i ∧ crcSteps k i ≤ 4294967295 := crcSteps_range k i (by omega)
          obtain ⟨c, hc⟩ : ∃ c, crcSteps k i = c := ⟨_, rfl⟩
          rw [hc] at hs hr ⊢
          obtain ⟨hr0, hr1⟩ := hr
          have HS := Aside0.mk hs
          clear hs hc
          cases hb : (Go.bits .and .u32 c 1 == 1)
          · go_wp2
            go_roundg g2
            case measure => omega
            case rel => exact ⟨k + 1, by omega, by first | rfl | simp, by rw [HS.out, crcStep_of c false hb]; rfl, rfl⟩
          · go_wp2
            go_roundg g2
            case measure => omega
            case rel => exact ⟨k + 1, by omega, by first | rfl | simp, by rw [HS.out, crcStep_of c true hb]; rfl, rfl⟩
set_option maxHeartbeats 400000 in
set_option maxRecDepth 100000 in
theorem crc32_any (s : ByteArray) (w : World) (hs : s.size ≤ 9223372036854775807) :
    Calls Tryz.prog 38 #[.string s] w fun e w' => e = .returned (.int .i64 (4294967295 - crcReg s s.size)) ∧ ((w.alloc (.cells (crcCells 256) 78)).alloc (.cells (crcCells 256) 78)).alloc (.cells (crcCells 256) 78) = w' := by
  have hz : ∀ w, (zeroValue 78).run Tryz.prog w = .ok (.agg (crcCells 0)) w := by
    have := (zero_of_info crcTable_info).1
    rw [crcCells_zero] at this
    exact this
  have hi : (Tryz.prog.info? 78).map (·.size) = some 256 := (zero_of_info crcTable_info).2
  have HI := Aside0.mk hi
  clear hi
  go_enter Tryz.func38, Tryz.ntmps38
  go_wp2_with (first
    | (go_at_call 51; refine (crcTable_any _).mono ?_; rintro e w' ⟨rfl, rfl⟩)
    | (refine wpList_store_row rfl 78 (.tmp 3) (.tmp 6) rfl (w.heap.size + 1 + 1) (crcCells 256) rfl rfl 78 (crcCells 0) (heap_three _ _ _ _) (by rw [crcCells_size]; exact HI.out) (by rw [crcCells_size, crcCells_size]) (crcCells_one _) ?_; rw [setRow_three]))
  clear hz
  go_loopg [9, 4, 5] s.size (fun g s9 s4 _ wx => ∃ i : Nat, i + g = s.size ∧ s9 = .int .i64 i ∧ s4 = .int .u32 (crcReg s i) ∧ wx = ((w.alloc (.cells (crcCells 256) 78)).alloc (.cells (crcCells 256) 78)).alloc (.cells (crcCells 256) 78))
  case atStart => exact ⟨0, by omega, rfl, rfl, rfl⟩
  case round =>
    obtain ⟨i, hig, rfl, rfl, rfl⟩ := hrel
    cases gk with
    | zero =>
      obtain rfl : i = s.size := by omega
      have hr := crcReg_range s s.size
      go_wp2
      go_ret
      exact ⟨by rw [crcReg_nat, ← crcOut_nat _ (crcN_lt _ _)]; rfl, rfl⟩
    | succ g =>
      have hi : i < s.size := by omega
      have hiz : (i : Int) < s.size := by omega
      have hr := crcReg_range s i
      have hn : crcReg s (i + 1) = crcNext (crcReg s i) (bt s i) := rfl
      obtain ⟨c, hc⟩ : ∃ c, crcReg s i = c := ⟨_, rfl⟩
      rw [hc] at hn hr ⊢
      obtain ⟨hr0, hr1⟩ := hr
      have HN := Aside0.mk hn
      clear hn hc
      have hb : ((s[i]'hi).toNat : Int) = bt s i := by simp [bt, hi]
      have hbr := bt_range s i
      have hx := crcIdx c (bt s i) hr0 hbr.1 hbr.2
      have hcell : ∀ x : Int, 0 ≤ x ∧ x ≤ 255 → (crcCells 256)[x.toNat]? = some (.int .u32 (crcEnt x.toNat)) := fun x hx => by
        rw [crcCells_at 256 _ (by omega)]; simp [crcCell]; omega
      replace hcell := hcell _ hx
      go_wp2
      go_roundg g
      case measure => omega
      case rel => exact ⟨i + 1, by omega, by first | rfl | simp, by rw [HN.out]; rfl, rfl⟩
def impl_Crc32.f (a0 : ByteArray) : Option Int := if a0.size ≤ 9223372036854775807 then some (4294967295 - crcReg a0 a0.size) else none
theorem impl_Crc32.calls (a0 : ByteArray) (r : Int) (w : World) (h : impl_Crc32.f a0 = some r) :
    Calls Tryz.prog 38 #[.string a0] w fun e w' => e = .returned (.int .i64 r) ∧ Below w.heap.size w w' := by
  unfold impl_Crc32.f at h
  by_cases hs : a0.size ≤ 9223372036854775807
  · rw [if_pos hs] at h
    obtain rfl := Option.some.inj h
    exact (crc32_any a0 w hs).mono fun e w' ⟨he, hw⟩ => ⟨he, hw ▸ ((((Below.refl _ _).alloc (Nat.le_refl _) _).alloc (by simp) _).alloc (by simp; omega) _)⟩
  · rw [if_neg hs] at h
    exact absurd h (by simp)
def impl_Frame.j0 : Nat → ByteArray → Bool → Option (ByteArray)
  | 0, _, _ => none
  | k + 1, x0, x10 => if x10 = true then (some (⟨#[]⟩ : ByteArray)) else ((impl_u32.f k (x0.size : Int)).bind fun t199 => ((impl_Crc32.f x0).bind fun t200 => ((impl_u32.f k t200).bind fun t201 => (if t199.size + t201.size ≤ 9223372036854775807 then (if (t199 ++ t201).size + x0.size ≤ 9223372036854775807 then (some ((t199 ++ t201) ++ x0)) else (none)) else (none)))))
def impl_Frame.f (k : Nat) (a0 : ByteArray) : Option (ByteArray) := if (a0.size : Int) < 1 then (impl_Frame.j0 k a0 true) else (impl_Frame.j0 k a0 (decide ((a0.size : Int) > 60000)))
theorem impl_Frame.mono_l : ∀ k, (∀ y0 y1, LeO (impl_Frame.j0 k y0 y1) (impl_Frame.j0 (k + 1) y0 y1))
  | 0 => fun _ _ r h => by simp [impl_Frame.j0] at h
  | k + 1 => by
    have ih0 := impl_Frame.mono_l k
    · intro y0 y1
      unfold impl_Frame.j0
      repeat' first
      | (with_reducible exact ih0 _ _)
      | (with_reducible exact impl_u32.mono _ _)
      | (with_reducible exact LeO.refl _)
      | (with_reducible exact LeO.none _)
      | (with_reducible refine LeO.ite ?_ ?_)
      | (with_reducible refine LeO.bind ?_ (fun _ => ?_))
      | exact ih0 _ _
      | exact impl_u32.mono _ _
      | exact LeO.none _
      | refine LeO.ite ?_ ?_
      | refine LeO.bind ?_ (fun _ => ?_)
theorem impl_Frame.mono : ∀ a0 k, LeO (impl_Frame.f k a0) (impl_Frame.f (k + 1) a0) := by
  intro a0 k
  have ih0 := impl_Frame.mono_l k
  unfold impl_Frame.f
  repeat' first
      | (with_reducible exact ih0 _ _)
      | (with_reducible exact impl_u32.mono _ _)
      | (with_reducible exact LeO.refl _)
      | (with_reducible exact LeO.none _)
      | (with_reducible refine LeO.ite ?_ ?_)
      | (with_reducible refine LeO.bind ?_ (fun _ => ?_))
      | exact ih0 _ _
      | exact impl_u32.mono _ _
      | exact LeO.none _
      | refine LeO.ite ?_ ?_
      | refine LeO.bind ?_ (fun _ => ?_)
set_option maxHeartbeats 8000000 in
set_option maxRecDepth 100000 in
theorem impl_Frame.calls (k : Nat) (a0 : ByteArray) (r : ByteArray) (w : World) (h : impl_Frame.f k a0 = some r) :
    Calls Tryz.prog 21 #[.string a0] w fun e w' => e = .returned (.string r) ∧ Below w.heap.size w w' := by
  have HB := qK (Below.refl w.heap.size w); have H : (if (a0.size : Int) < 1 then (impl_Frame.j0 k a0 true) else (impl_Frame.j0 k a0 (decide ((a0.size : Int) > 60000)))) = some r := h; clear h; have HC2 := qK H; clear H; go_enter Tryz.func21, Tryz.ntmps21; go_upto_region 1 with (fail); go_cut [10] (fun v10 wc => ∃ (kq : Nat) (x10_1 : Bool), v10 = .bool x10_1 ∧ Aside0 (impl_Frame.j0 kq a0 x10_1 = some r) ∧ Aside0 (kq ≤ k) ∧ Aside0 (Below w.heap.size w wc))
  case first =>
    have H := HC2.out; clear HC2; by_cases c3 : (a0.size : Int) < 1
    · rw [if_pos c3] at H; have c3b0 : decide ((a0.size : Int) < 1) = true := decide_eq_true c3; have c3b1 : decide (a0.size < 1) = true := decide_eq_true (by omega); clear c3; (first | rw [c3b0] | (simp only [i64_w, i32_w]; rw [c3b0]) | skip); have H' := qK H; clear H; go_wp2; go_meet
      case rel => exact ⟨_, (true), qS, H', ⟨by first | omega | exact Nat.le_refl _⟩, ⟨qB⟩⟩
    · rw [if_neg c3] at H; have c3b0 : decide ((a0.size : Int) < 1) = false := decide_eq_false c3; have c3b1 : decide (a0.size < 1) = false := decide_eq_false (by omega); clear c3; (first | rw [c3b0] | (simp only [i64_w, i32_w]; rw [c3b0]) | skip); have H' := qK H; clear H; go_wp2; go_meet
      case rel => exact ⟨_, (decide ((a0.size : Int) > 60000)), qS, H', ⟨by first | omega | exact Nat.le_refl _⟩, ⟨qB⟩⟩
  case rest =>
    clear HC2; (try clear c2); (try clear p2); (try clear c3); (try clear c3b0); (try clear c3b1); obtain ⟨kq, x10_1, rfl, HA, HJ1, HB⟩ := hcut
    cases kq with
    | zero => exact absurd HA.out (by simp [impl_Frame.j0])
    | succ kj1 =>
      have H := HA.out; clear HA; simp only [impl_Frame.j0] at H; by_cases c4 : x10_1 = true
      · subst c4; rw [if_pos rfl] at H; obtain rfl := Option.some.inj H; go_wp2; go_ret; exact ⟨qR, qB⟩
      · replace c4 := Bool.eq_false_iff.mpr c4; subst c4; rw [if_neg qff] at H; replace H := Option.bind_eq_some_iff.mp H; obtain ⟨t199, A50, H⟩ := H; have A5 := qK A50; clear A50; replace H := Option.bind_eq_some_iff.mp H; obtain ⟨t200, A60, H⟩ := H; have A6 := qK A60; clear A60; replace H := Option.bind_eq_some_iff.mp H; obtain ⟨t201, A70, H⟩ := H; have A7 := qK A70; clear A70; by_cases c8 : t199.size + t201.size ≤ 9223372036854775807
        · rw [if_pos c8] at H; have c8b0 := eq_true c8; have c8b1 : decide (t199.size + t201.size ≤ 9223372036854775807) = true := decide_eq_true c8; (try have c8b2 : (9223372036854775807 < t199.size + t201.size) = False := eq_false (Nat.not_lt.2 c8)); by_cases c9 : (t199 ++ t201).size + a0.size ≤ 9223372036854775807
          · rw [if_pos c9] at H; have c9b0 := eq_true c9; have c9b1 : decide ((t199 ++ t201).size + a0.size ≤ 9223372036854775807) = true := decide_eq_true c9; (try have c9b2 : (9223372036854775807 < (t199 ++ t201).size + a0.size) = False := eq_false (Nat.not_lt.2 c9)); obtain rfl := Option.some.inj H; go_wp2_with (first | ((with_reducible refine gcl (f := 37) rfl ?_); refine goesL_ (some 13) rfl rfl Tryz.func37 (by kernel_rfl) rfl #[.int .i64 (a0.size : Int)] rfl qA ?_; (with_reducible refine (impl_u32.calls kj1 (a0.size : Int) t199 _ A5.out).mono ?_); rintro e w10 ⟨rfl, hb⟩; refine ⟨_, rfl, ?_⟩; replace HB := qHB HB hb; (try clear hb); (try clear hb2); (try clear hk); (try clear hi)) | ((with_reducible refine gcl (f := 38) rfl ?_); refine goesL_ (some 15) rfl rfl Tryz.func38 (by kernel_rfl) rfl #[.string a0] rfl qA ?_; (with_reducible refine (impl_Crc32.calls a0 t200 _ A6.out).mono ?_); rintro e w11 ⟨rfl, hb⟩; refine ⟨_, rfl, ?_⟩; replace HB := qHB HB hb; (try clear hb); (try clear hb2); (try clear hk); (try clear hi)) | ((with_reducible refine gcl (f := 37) rfl ?_); refine goesL_ (some 16) rfl rfl Tryz.func37 (by kernel_rfl) rfl #[.int .i64 t200] rfl qA ?_; (with_reducible refine (impl_u32.calls kj1 t200 t201 _ A7.out).mono ?_); rintro e w12 ⟨rfl, hb⟩; refine ⟨_, rfl, ?_⟩; replace HB := qHB HB hb; (try clear hb); (try clear hb2); (try clear hk); (try clear hi))); go_ret; exact ⟨qR, qB⟩
          · rw [if_neg c9] at H; exact absurd H (by simp)
        · rw [if_neg c8] at H; exact absurd H (by simp)
set_option maxHeartbeats 400000 in
theorem all_any (F : Nat) (p : Int → Bool) (hF : ∀ (b : Int) (w : World), 0 ≤ b → b ≤ 255 → Calls Tryz.prog F #[.int .u8 b] w fun e w' => e = .returned (.bool (p b)) ∧ Drawn0 w w')
    (hE : ∀ args w, (callFunc F args).run Tryz.prog w = .ok (.enter F args) w) (s : ByteArray) (w : World) (hs : s.size ≤ 9223372036854775807) :
    Calls Tryz.prog 52 #[.string s, .func (.func F) #[] #[]] w fun e w' => e = .returned (.bool (allFrom p s s.size 0)) ∧ Drawn0 w w' := by
  have HF := Aside0.mk hF
  clear hF
  go_enter Tryz.func52, Tryz.ntmps52
  go_wp2
  go_loopg [8, 5] s.size (fun g s8 _ wx => ∃ i : Nat, i + g = s.size ∧ s8 = .int .i64 i ∧ Aside0 (allFrom p s s.size 0 = allFrom p s g i) ∧ Drawn0 w wx)
  case atStart => exact ⟨0, by omega, rfl, ⟨rfl⟩, Drawn0.refl _⟩
  case round =>
    obtain ⟨i, hig, rfl, HR, ⟨m, rfl⟩⟩ := hrel
    cases gk with
    | zero =>
      obtain rfl : i = s.size := by omega
      go_wp2
      go_ret
      exact ⟨by rw [HR.out]; rfl, ⟨⟨m, rfl⟩⟩⟩
    | succ g =>
      have hi : i < s.size := by omega
      have hiz : (i : Int) < s.size := by omega
      have hb : ((s[i]'hi).toNat : Int) = bt s i := by simp [bt, hi]
      obtain ⟨b, hbe⟩ : ∃ b, bt s i = b := ⟨_, rfl⟩
      have hbr := bt_range s i
      rw [hbe] at hb hbr
      have HS : Aside0 (allFrom p s s.size 0 = (p b && allFrom p s g (i + 1))) := ⟨by rw [HR.out, ← hbe]; rfl⟩
      clear hbe HR
      cases hp : p b
      · go_wp2_with ((with_reducible refine (HF.out b _ hbr.1 hbr.2).mono ?_); rintro e w' ⟨rfl, ⟨n, rfl⟩⟩; rw [hp])
        go_ret
        exact ⟨by rw [HS.out, hp]; rfl, ⟨⟨_, rfl⟩⟩⟩
      · go_wp2_with ((with_reducible refine (HF.out b _ hbr.1 hbr.2).mono ?_); rintro e w' ⟨rfl, ⟨n, rfl⟩⟩; rw [hp])
        go_roundg g
        case measure => omega
        case rel => exact ⟨i + 1, by omega, by first | rfl | simp, ⟨by rw [HS.out, hp]; rfl⟩, ⟨⟨_, rfl⟩⟩⟩
def impl_isLetter.f (a0 : Int) : Option (Bool) := if a0 ≥ 97 then (some (decide (a0 ≤ 122))) else (some false)
set_option maxHeartbeats 8000000 in
set_option maxRecDepth 100000 in
theorem impl_isLetter.calls (a0 : Int) (r : Bool) (w : World) (h : impl_isLetter.f a0 = some r) :
    Calls Tryz.prog 54 #[.int .u8 a0] w fun e w' => e = .returned (.bool r) ∧ Drawn0 w w' := by
  have H : (if a0 ≥ 97 then (some (decide (a0 ≤ 122))) else (some false)) = some r := h; clear h; by_cases c2 : a0 ≥ 97
  · rw [if_pos c2] at H; have c2b0 : decide (97 ≤ a0) = true := decide_eq_true c2; clear c2; obtain rfl := Option.some.inj H; go_enter Tryz.func54, Tryz.ntmps54; go_wp2; go_ret; exact ⟨by first | rfl | (simp; done) | (simp [*]; done), by repeat (first | exact Drawn0.refl _ | apply Drawn0.step)⟩
  · rw [if_neg c2] at H; have c2b0 : decide (97 ≤ a0) = false := decide_eq_false c2; clear c2; obtain rfl := Option.some.inj H; go_enter Tryz.func54, Tryz.ntmps54; go_wp2; go_ret; exact ⟨by first | rfl | (simp; done) | (simp [*]; done), by repeat (first | exact Drawn0.refl _ | apply Drawn0.step)⟩
def impl_isDigit.f (a0 : Int) : Option (Bool) := if a0 ≥ 48 then (some (decide (a0 ≤ 57))) else (some false)
set_option maxHeartbeats 8000000 in
set_option maxRecDepth 100000 in
theorem impl_isDigit.calls (a0 : Int) (r : Bool) (w : World) (h : impl_isDigit.f a0 = some r) :
    Calls Tryz.prog 55 #[.int .u8 a0] w fun e w' => e = .returned (.bool r) ∧ Drawn0 w w' := by
  have H : (if a0 ≥ 48 then (some (decide (a0 ≤ 57))) else (some false)) = some r := h; clear h; by_cases c2 : a0 ≥ 48
  · rw [if_pos c2] at H; have c2b0 : decide (48 ≤ a0) = true := decide_eq_true c2; clear c2; obtain rfl := Option.some.inj H; go_enter Tryz.func55, Tryz.ntmps55; go_wp2; go_ret; exact ⟨by first | rfl | (simp; done) | (simp [*]; done), by repeat (first | exact Drawn0.refl _ | apply Drawn0.step)⟩
  · rw [if_neg c2] at H; have c2b0 : decide (48 ≤ a0) = false := decide_eq_false c2; clear c2; obtain rfl := Option.some.inj H; go_enter Tryz.func55, Tryz.ntmps55; go_wp2; go_ret; exact ⟨by first | rfl | (simp; done) | (simp [*]; done), by repeat (first | exact Drawn0.refl _ | apply Drawn0.step)⟩
def impl_isFileName_1.f (a0 : Int) : Option (Bool) := (impl_isLetter.f a0).bind fun t202 => (if t202 = true then (some true) else ((impl_isDigit.f a0).bind fun t203 => (if t203 = true then (some true) else (some (a0 == 45)))))
set_option maxHeartbeats 8000000 in
set_option maxRecDepth 100000 in
theorem impl_isFileName_1.calls (a0 : Int) (r : Bool) (w : World) (h : impl_isFileName_1.f a0 = some r) :
    Calls Tryz.prog 53 #[.int .u8 a0] w fun e w' => e = .returned (.bool r) ∧ Drawn0 w w' := by
  have H : ((impl_isLetter.f a0).bind fun t202 => (if t202 = true then (some true) else ((impl_isDigit.f a0).bind fun t203 => (if t203 = true then (some true) else (some (a0 == 45)))))) = some r := h; clear h; replace H := Option.bind_eq_some_iff.mp H; obtain ⟨t202, A20, H⟩ := H; have A2 := qK A20; clear A20; by_cases c3 : t202 = true
  · subst c3; rw [if_pos rfl] at H; obtain rfl := Option.some.inj H; go_enter Tryz.func53, Tryz.ntmps53; go_wp2_with (first | ((with_reducible refine gcl (f := 54) rfl ?_); refine goesL_ (some 4) rfl rfl Tryz.func54 (by kernel_rfl) rfl #[.int .u8 a0] rfl qA ?_; (with_reducible refine (impl_isLetter.calls a0 true _ A2.out).mono ?_); rintro e w' ⟨rfl, ⟨nd, rfl⟩⟩; refine ⟨_, rfl, ?_⟩)); go_ret; exact ⟨by first | rfl | (simp; done) | (simp [*]; done), by repeat (first | exact Drawn0.refl _ | apply Drawn0.step)⟩
  · replace c3 := Bool.eq_false_iff.mpr c3; subst c3; rw [if_neg qff] at H; replace H := Option.bind_eq_some_iff.mp H; obtain ⟨t203, A40, H⟩ := H; have A4 := qK A40; clear A40; by_cases c5 : t203 = true
    · subst c5; rw [if_pos rfl] at H; obtain rfl := Option.some.inj H; go_enter Tryz.func53, Tryz.ntmps53; go_wp2_with (first | ((with_reducible refine gcl (f := 54) rfl ?_); refine goesL_ (some 4) rfl rfl Tryz.func54 (by kernel_rfl) rfl #[.int .u8 a0] rfl qA ?_; (with_reducible refine (impl_isLetter.calls a0 false _ A2.out).mono ?_); rintro e w' ⟨rfl, ⟨nd, rfl⟩⟩; refine ⟨_, rfl, ?_⟩) | (go_at_call 55; (with_reducible refine (impl_isDigit.calls a0 true _ A4.out).mono ?_); rintro e w' ⟨rfl, ⟨nd, rfl⟩⟩)); go_ret; exact ⟨by first | rfl | (simp; done) | (simp [*]; done), by repeat (first | exact Drawn0.refl _ | apply Drawn0.step)⟩
    · replace c5 := Bool.eq_false_iff.mpr c5; subst c5; rw [if_neg qff] at H; obtain rfl := Option.some.inj H; go_enter Tryz.func53, Tryz.ntmps53; go_wp2_with (first | ((with_reducible refine gcl (f := 54) rfl ?_); refine goesL_ (some 4) rfl rfl Tryz.func54 (by kernel_rfl) rfl #[.int .u8 a0] rfl qA ?_; (with_reducible refine (impl_isLetter.calls a0 false _ A2.out).mono ?_); rintro e w' ⟨rfl, ⟨nd, rfl⟩⟩; refine ⟨_, rfl, ?_⟩) | (go_at_call 55; (with_reducible refine (impl_isDigit.calls a0 false _ A4.out).mono ?_); rintro e w' ⟨rfl, ⟨nd, rfl⟩⟩)); go_ret; exact ⟨by first | rfl | (simp; done) | (simp [*]; done), by repeat (first | exact Drawn0.refl _ | apply Drawn0.step)⟩
theorem fileByte_eq (c : Int) : impl_isFileName_1.f c = some (fileByte c) := by
  unfold impl_isFileName_1.f impl_isLetter.f impl_isDigit.f fileByte
  by_cases h1 : 97 ≤ c <;> by_cases h2 : c ≤ 122 <;> by_cases h3 : 48 ≤ c <;> by_cases h4 : c ≤ 57 <;> simp [h1, h2, h3, h4]
set_option maxHeartbeats 800000 in
theorem isFileName_any (s : ByteArray) (w : World) (hs : s.size ≤ 9223372036854775807) :
    Calls Tryz.prog 40 #[.string s] w fun e w' => e = .returned (.bool (decide (1 ≤ s.size) && decide (s.size ≤ 30) && allFrom fileByte s s.size 0)) ∧ Drawn0 w w' := by
  have hall : ∀ w, Calls Tryz.prog 52 #[.string s, .func (.func 53) #[] #[]] w fun e w' => e = .returned (.bool (allFrom fileByte s s.size 0)) ∧ Drawn0 w w' := fun w =>
    all_any _ fileByte (fun b w _ _ => impl_isFileName_1.calls b _ w (fileByte_eq b)) (fun args w => enters_ (fn := Tryz.f53) (by kernel_rfl) (by rfl) (by rfl) args w) s w hs
  have HA := Aside0.mk hall
  clear hall
  obtain ⟨r, hr⟩ : ∃ r, allFrom fileByte s s.size 0 = r := ⟨_, rfl⟩
  rw [hr] at HA ⊢
  by_cases h1 : 1 ≤ s.size
  · have h1b : decide ((1 : Int) ≤ (s.size : Int)) = true := decide_eq_true (by omega)
    by_cases h2 : s.size ≤ 30
    · have h2b : decide ((s.size : Int) ≤ 30) = true := decide_eq_true (by omega)
      go_enter Tryz.func40, Tryz.ntmps40
      go_wp2_with ((with_reducible refine (HA.out _).mono ?_); rintro e w' ⟨rfl, ⟨n, rfl⟩⟩)
      go_ret
      exact ⟨by simp [h1, h2], ⟨⟨_, rfl⟩⟩⟩
    · have h2b : decide ((s.size : Int) ≤ 30) = false := decide_eq_false (by omega)
      go_enter Tryz.func40, Tryz.ntmps40
      go_wp2
      go_ret
      exact ⟨by simp [h1, h2], Drawn0.refl _⟩
  · have h1b : decide ((1 : Int) ≤ (s.size : Int)) = false := decide_eq_false (by omega)
    go_enter Tryz.func40, Tryz.ntmps40
    go_wp2
    go_ret
    exact ⟨by simp [h1], Drawn0.refl _⟩
def impl_isFileName.f (a0 : ByteArray) : Option Bool := if a0.size ≤ 9223372036854775807 then some (decide (1 ≤ a0.size) && decide (a0.size ≤ 30) && allFrom fileByte a0 a0.size 0) else none
theorem impl_isFileName.calls (a0 : ByteArray) (r : Bool) (w : World) (h : impl_isFileName.f a0 = some r) :
    Calls Tryz.prog 40 #[.string a0] w fun e w' => e = .returned (.bool r) ∧ Drawn0 w w' := by
  unfold impl_isFileName.f at h
  by_cases hs : a0.size ≤ 9223372036854775807
  · rw [if_pos hs] at h
    obtain rfl := Option.some.inj h
    exact isFileName_any a0 w hs
  · rw [if_neg hs] at h
    exact absurd h (by simp)
end Go.Proofs.YtfknmohedlfmfaaGreatDoor.L
end
section
namespace Go.Proofs.YtfknmohedlfmfaaGreatDoor.L
open Go.RowKit Go.Proofs.YtfknmohedlfmfaaGreatDoorW.PrintWords Go.Proofs.YtfknmohedlfmfaaGreatDoorW.PrintLast Go.Proofs.YtfknmohedlfmfaaGreatDoorW.PrintMore
attribute [local go_sem] max2_int min2_int max_two min_two max_three min_three max_four min_four
set_option linter.unusedVariables false
set_option linter.unusedSimpArgs false
mutual
def impl_FsValid.j0 : Nat → Bool → List (S61) → Int → Int → Int → Int → Bool → Option (Bool)
  | 0, _, _, _, _, _, _, _ => none
  | k + 1, x21, x205000, x205001, x205002, x205003, x205004, x205005 => if x21 = true then (some false) else (impl_FsValid.l0 k 0 x205000 (x205000.length : Int) 0 x205000 x205001 x205002 x205003 x205004 x205005)
def impl_FsValid.l0 : Nat → Int → List (S61) → Int → Int → List (S61) → Int → Int → Int → Int → Bool → Option (Bool)
  | 0, _, _, _, _, _, _, _, _, _, _ => none
  | k + 1, x3, x23, x24, x25, x205000, x205001, x205002, x205003, x205004, x205005 => if x25 < x24 then (if 0 ≤ x25 then (if x25 < (x23.length : Int) then ((impl_isFileName.f ((rd_T61 x23 x25).f0)).bind fun t207 => (if t207 = true then (if ((rd_T61 x23 x25).f2) < 0 then (some false) else (if ((rd_T61 x23 x25).f2) > (((rd_T61 x23 x25).f1).size : Int) then (some false) else (if x25 > 0 then (if 0 ≤ (wrap64 (x25 - 1)) then (if (wrap64 (x25 - 1)) < (x205000.length : Int) then (if ((Op.bytesLess (((rd_T61 x205000 (wrap64 (x25 - 1))).f0).toList) (((rd_T61 x23 x25).f0).toList)) = true) then (impl_FsValid.l0 k (wrap64 (x3 + (((rd_T61 x23 x25).f1).size : Int))) x23 x24 (wrap64 (x25 + 1)) x205000 x205001 x205002 x205003 x205004 x205005) else (some false)) else (none)) else (none)) else (impl_FsValid.l0 k (wrap64 (x3 + (((rd_T61 x23 x25).f1).size : Int))) x23 x24 (wrap64 (x25 + 1)) x205000 x205001 x205002 x205003 x205004 x205005)))) else (some false))) else (none)) else (none)) else ((some (([x205002, x205003, x205004] : List Int) : List Int)).bind fun y209 => (impl_FsValid.l1 k x3 y209 (y209.length : Int) 0 x205000 x205001 x205002 x205003 x205004 x205005))
def impl_FsValid.l1 : Nat → Int → List Int → Int → Int → List (S61) → Int → Int → Int → Int → Bool → Option (Bool)
  | 0, _, _, _, _, _, _, _, _, _, _ => none
  | k + 1, x3, x75, x76, x77, x205000, x205001, x205002, x205003, x205004, x205005 => if x77 < x76 then (if 0 ≤ x77 then (if x77 < (x75.length : Int) then (if (rd x75 x77) < 0 then (some false) else (if (rd x75 x77) > 1000000000000000 then (some false) else (impl_FsValid.l1 k x3 x75 x76 (wrap64 (x77 + 1)) x205000 x205001 x205002 x205003 x205004 x205005))) else (none)) else (none)) else (some (decide (x3 ≤ x205001)))
end
def impl_FsValid.f (k : Nat) (l0_0 : List (S61)) (a0_1 : Int) (a0_2 : Int) (a0_3 : Int) (a0_4 : Int) (a0_5 : Bool) : Option (Bool) := if (l0_0.length : Int) > 300 then (impl_FsValid.j0 k true l0_0 a0_1 a0_2 a0_3 a0_4 a0_5) else (if a0_1 < 0 then (impl_FsValid.j0 k true l0_0 a0_1 a0_2 a0_3 a0_4 a0_5) else (impl_FsValid.j0 k (decide (a0_1 > 1000000000)) l0_0 a0_1 a0_2 a0_3 a0_4 a0_5))
theorem impl_FsValid.mono_l : ∀ k, (∀ y0 y1 y2 y3 y4 y5 y6, LeO (impl_FsValid.j0 k y0 y1 y2 y3 y4 y5 y6) (impl_FsValid.j0 (k + 1) y0 y1 y2 y3 y4 y5 y6)) ∧ (∀ y0 y1 y2 y3 y4 y5 y6 y7 y8 y9, LeO (impl_FsValid.l0 k y0 y1 y2 y3 y4 y5 y6 y7 y8 y9) (impl_FsValid.l0 (k + 1) y0 y1 y2 y3 y4 y5 y6 y7 y8 y9)) ∧ (∀ y0 y1 y2 y3 y4 y5 y6 y7 y8 y9, LeO (impl_FsValid.l1 k y0 y1 y2 y3 y4 y5 y6 y7 y8 y9) (impl_FsValid.l1 (k + 1) y0 y1 y2 y3 y4 y5 y6 y7 y8 y9))
  | 0 => ⟨fun _ _ _ _ _ _ _ r h => by simp [impl_FsValid.j0] at h, fun _ _ _ _ _ _ _ _ _ _ r h => by simp [impl_FsValid.l0] at h, fun _ _ _ _ _ _ _ _ _ _ r h => by simp [impl_FsValid.l1] at h⟩
  | k + 1 => by
    obtain ⟨ih0, ih1, ih2⟩ := impl_FsValid.mono_l k
    refine ⟨?_, ?_, ?_⟩
    · intro y0 y1 y2 y3 y4 y5 y6
      unfold impl_FsValid.j0
      repeat' first
      | (with_reducible exact ih0 _ _ _ _ _ _ _)
      | (with_reducible exact ih1 _ _ _ _ _ _ _ _ _ _)
      | (with_reducible exact ih2 _ _ _ _ _ _ _ _ _ _)
      | (with_reducible exact LeO.refl _)
      | (with_reducible exact LeO.none _)
      | (with_reducible refine LeO.ite ?_ ?_)
      | (with_reducible refine LeO.bind ?_ (fun _ => ?_))
      | exact ih0 _ _ _ _ _ _ _
      | exact ih1 _ _ _ _ _ _ _ _ _ _
      | exact ih2 _ _ _ _ _ _ _ _ _ _
      | exact LeO.none _
      | refine LeO.ite ?_ ?_
      | refine LeO.bind ?_ (fun _ => ?_)
    · intro y0 y1 y2 y3 y4 y5 y6 y7 y8 y9
      unfold impl_FsValid.l0
      repeat' first
      | (with_reducible exact ih0 _ _ _ _ _ _ _)
      | (with_reducible exact ih1 _ _ _ _ _ _ _ _ _ _)
      | (with_reducible exact ih2 _ _ _ _ _ _ _ _ _ _)
      | (with_reducible exact LeO.refl _)
      | (with_reducible exact LeO.none _)
      | (with_reducible refine LeO.ite ?_ ?_)
      | (with_reducible refine LeO.bind ?_ (fun _ => ?_))
      | exact ih0 _ _ _ _ _ _ _
      | exact ih1 _ _ _ _ _ _ _ _ _ _
      | exact ih2 _ _ _ _ _ _ _ _ _ _
      | exact LeO.none _
      | refine LeO.ite ?_ ?_
      | refine LeO.bind ?_ (fun _ => ?_)
    · intro y0 y1 y2 y3 y4 y5 y6 y7 y8 y9
      unfold impl_FsValid.l1
      repeat' first
      | (with_reducible exact ih0 _ _ _ _ _ _ _)
      | (with_reducible exact ih1 _ _ _ _ _ _ _ _ _ _)
      | (with_reducible exact ih2 _ _ _ _ _ _ _ _ _ _)
      | (with_reducible exact LeO.refl _)
      | (with_reducible exact LeO.none _)
      | (with_reducible refine LeO.ite ?_ ?_)
      | (with_reducible refine LeO.bind ?_ (fun _ => ?_))
      | exact ih0 _ _ _ _ _ _ _
      | exact ih1 _ _ _ _ _ _ _ _ _ _
      | exact ih2 _ _ _ _ _ _ _ _ _ _
      | exact LeO.none _
      | refine LeO.ite ?_ ?_
      | refine LeO.bind ?_ (fun _ => ?_)
theorem impl_FsValid.mono : ∀ a0 a1 a2 a3 a4 a5 k, LeO (impl_FsValid.f k a0 a1 a2 a3 a4 a5) (impl_FsValid.f (k + 1) a0 a1 a2 a3 a4 a5) := by
  intro a0 a1 a2 a3 a4 a5 k
  obtain ⟨ih0, ih1, ih2⟩ := impl_FsValid.mono_l k
  unfold impl_FsValid.f
  repeat' first
      | (with_reducible exact ih0 _ _ _ _ _ _ _)
      | (with_reducible exact ih1 _ _ _ _ _ _ _ _ _ _)
      | (with_reducible exact ih2 _ _ _ _ _ _ _ _ _ _)
      | (with_reducible exact LeO.refl _)
      | (with_reducible exact LeO.none _)
      | (with_reducible refine LeO.ite ?_ ?_)
      | (with_reducible refine LeO.bind ?_ (fun _ => ?_))
      | exact ih0 _ _ _ _ _ _ _
      | exact ih1 _ _ _ _ _ _ _ _ _ _
      | exact ih2 _ _ _ _ _ _ _ _ _ _
      | exact LeO.none _
      | refine LeO.ite ?_ ?_
      | refine LeO.bind ?_ (fun _ => ?_)
def impl_FsValid.T7 : Bool × List (List Nat × List Nat) := (true, [([], []), ([0], [0]), ([1], [1]), ([2], [2]), ([3, 2], [3]), ([4], [4]), ([5, 4], [4, 5]), ([6, 4], [4, 6]), ([4, 7], [4, 7]), ([8, 4], [8]), ([9], [9]), ([10, 9], [9, 10]), ([9], [9]), ([12, 9], [9, 12]), ([13, 9], [9, 13]), ([11, 14, 9], [9, 11, 14]), ([9, 15], [9, 15]), ([16, 9], [16]), ([17], [17]), ([18, 17], [17, 18]), ([19, 17, 17], [17, 19]), ([20], [20]), ([21, 20], [20, 21]), ([20], [20]), ([23, 20], [20, 23]), ([22, 24, 20], [20, 22, 24]), ([25, 20], [20, 25]), ([26, 20], [20, 26]), ([20], [20]), ([28, 20], [20, 28]), ([27, 29, 20], [20, 27, 29]), ([20, 30, 17], [17, 20, 30]), ([17, 31], [17, 31])])
def impl_FsValid.B7 : List Nat := [0, 1, 3, 7, 15, 31, 63, 127, 255, 511, 1023, 2047, 1023, 5119, 13311, 32767, 65535, 131071, 262143, 524287, 1048575, 2097151, 4194303, 2097151, 10485759, 33554431, 67108863, 134217727, 2097151, 270532607, 1073741823, 2147483647, 4294967295]
theorem impl_FsValid.tab7 : rtab .any (opsOf Tryz.f39 7) = impl_FsValid.T7 := by kernel_rfl
theorem impl_FsValid.bits7 : waitsOk impl_FsValid.T7.2 impl_FsValid.B7 = true := by kernel_rfl
set_option maxHeartbeats 8000000 in
set_option maxRecDepth 100000 in
theorem impl_FsValid.calls (k : Nat) (A0_0 : Option Addr) (c0_0 : Nat) (l0_0 : List (S61)) (a0_1 : Int) (a0_2 : Int) (a0_3 : Int) (a0_4 : Int) (a0_5 : Bool) (r : Bool) (w : World) (hr0_0 : Kd.C k61 w A0_0 l0_0.length l0_0) (hc0_0 : l0_0.length ≤ c0_0) (h : impl_FsValid.f k l0_0 a0_1 a0_2 a0_3 a0_4 a0_5 = some r) :
    Calls Tryz.prog 39 #[.agg #[.slice A0_0 l0_0.length c0_0, .int .i64 a0_1, .int .i64 a0_2, .int .i64 a0_3, .int .i64 a0_4, .bool a0_5]] w fun e w' => e = .returned (.bool r) ∧ Below w.heap.size w w' := by
  have hu30 := Tryz.underlying30; have hu61 := Tryz.underlying61; have HR0_0 := qK hr0_0; have HC0_0 := qK hc0_0; clear hr0_0 hc0_0; have HB := qK (Below.refl w.heap.size w); have H : (if (l0_0.length : Int) > 300 then (impl_FsValid.j0 k true l0_0 a0_1 a0_2 a0_3 a0_4 a0_5) else (if a0_1 < 0 then (impl_FsValid.j0 k true l0_0 a0_1 a0_2 a0_3 a0_4 a0_5) else (impl_FsValid.j0 k (decide (a0_1 > 1000000000)) l0_0 a0_1 a0_2 a0_3 a0_4 a0_5))) = some r := h; clear h; have HC2 := qK H; clear H; go_enter Tryz.func39, Tryz.ntmps39; go_upto_region 1 with (first | ((with_reducible refine gds (N := 1) rfl ?_); (try (refine gate_guard (by rfl) ?_; dsimp only)); refine qbx 1 #[.slice A0_0 l0_0.length c0_0, .int .i64 a0_1, .int .i64 a0_2, .int .i64 a0_3, .int .i64 a0_4, .bool a0_5] 30 ?_; intro gb204 hg w3 hbox hb; have BK204 := qK (hbox); have GW204 := qK ((qW : w.heap.size ≤ gb204)); have GE204 := GW204; replace HB := qHB HB hb; clear hb hbox hg)); (try simp only [Act.put, List.setIfInBounds_toArray, List.set_cons_zero, List.set_cons_succ]); go_cut [21] (fun v21 wc => ∃ (kq : Nat) (x21_1 : Bool), v21 = .bool x21_1 ∧ Aside0 (impl_FsValid.j0 kq x21_1 l0_0 a0_1 a0_2 a0_3 a0_4 a0_5 = some r) ∧ Aside0 (kq ≤ k) ∧ Aside0 (wc.heap[gb204]? = some (.cells #[(.slice A0_0 l0_0.length c0_0), .int .i64 a0_1, .int .i64 a0_2, .int .i64 a0_3, .int .i64 a0_4, .bool a0_5] 30 (0, 0))) ∧ Aside0 (Below w.heap.size w wc))
  case first =>
    have H := HC2.out; clear HC2; by_cases c4 : (l0_0.length : Int) > 300
    · rw [if_pos c4] at H; have c4b0 : decide (300 < (l0_0.length : Int)) = true := decide_eq_true c4; have c4b1 : decide (300 < l0_0.length) = true := decide_eq_true (by omega); clear c4; (first | rw [c4b0] | (simp only [i64_w, i32_w]; rw [c4b0]) | skip); have H' := qK H; clear H; obtain ⟨hcz5_0, hcz5_1, hcz5_2, hcz5_3, hcz5_4, hcz5_5⟩ := zC6 BK204.out; obtain ⟨hfz5_0, hfz5_1, hfz5_2, hfz5_3, hfz5_4, hfz5_5⟩ := zF6 BK204.out; go_wp2; go_meet
      case rel => exact ⟨_, (true), qS, H', ⟨by first | omega | exact Nat.le_refl _⟩, ⟨by (with_reducible repeat (first | refine bdN ?_ _ | refine bkD ?_ | refine bkA ?_ _)); exact BK204.out⟩, ⟨qB⟩⟩
    · rw [if_neg c4] at H; have c4b0 : decide (300 < (l0_0.length : Int)) = false := decide_eq_false c4; have c4b1 : decide (300 < l0_0.length) = false := decide_eq_false (by omega); clear c4; (first | rw [c4b0] | (simp only [i64_w, i32_w]; rw [c4b0]) | skip); by_cases c6 : a0_1 < 0
      · rw [if_pos c6] at H; have c6b0 : decide (a0_1 < 0) = true := decide_eq_true c6; clear c6; have H' := qK H; clear H; obtain ⟨hcz7_0, hcz7_1, hcz7_2, hcz7_3, hcz7_4, hcz7_5⟩ := zC6 BK204.out; obtain ⟨hfz7_0, hfz7_1, hfz7_2, hfz7_3, hfz7_4, hfz7_5⟩ := zF6 BK204.out; go_wp2; go_meet
        case rel => exact ⟨_, (true), qS, H', ⟨by first | omega | exact Nat.le_refl _⟩, ⟨by (with_reducible repeat (first | refine bdN ?_ _ | refine bkD ?_ | refine bkA ?_ _)); exact BK204.out⟩, ⟨qB⟩⟩
      · rw [if_neg c6] at H; have c6b0 : decide (a0_1 < 0) = false := decide_eq_false c6; clear c6; have H' := qK H; clear H; obtain ⟨hcz8_0, hcz8_1, hcz8_2, hcz8_3, hcz8_4, hcz8_5⟩ := zC6 BK204.out; obtain ⟨hfz8_0, hfz8_1, hfz8_2, hfz8_3, hfz8_4, hfz8_5⟩ := zF6 BK204.out; go_wp2; go_meet
        case rel => exact ⟨_, (decide (a0_1 > 1000000000)), qS, H', ⟨by first | omega | exact Nat.le_refl _⟩, ⟨by (with_reducible repeat (first | refine bdN ?_ _ | refine bkD ?_ | refine bkA ?_ _)); exact BK204.out⟩, ⟨qB⟩⟩
  case rest =>
    clear HC2; (try clear p2); (try clear c3); (try clear c4); (try clear c4b0); (try clear c4b1); (try clear c6); (try clear c6b0); (try clear hcz5_0); (try clear hcz5_1); (try clear hcz5_2); (try clear hcz5_3); (try clear hcz5_4); (try clear hcz5_5); (try clear hcz7_0); (try clear hcz7_1); (try clear hcz7_2); (try clear hcz7_3); (try clear hcz7_4); (try clear hcz7_5); (try clear hcz8_0); (try clear hcz8_1); (try clear hcz8_2); (try clear hcz8_3); (try clear hcz8_4); (try clear hcz8_5); (try clear hfz5_0); (try clear hfz5_1); (try clear hfz5_2); (try clear hfz5_3); (try clear hfz5_4); (try clear hfz5_5); (try clear hfz7_0); (try clear hfz7_1); (try clear hfz7_2); (try clear hfz7_3); (try clear hfz7_4); (try clear hfz7_5); (try clear hfz8_0); (try clear hfz8_1); (try clear hfz8_2); (try clear hfz8_3); (try clear hfz8_4); (try clear hfz8_5); obtain ⟨kq, x21_1, rfl, HA, HJ1, BK204, HB⟩ := hcut
    cases kq with
    | zero => exact absurd HA.out (by simp [impl_FsValid.j0])
    | succ kj1 =>
      have H := HA.out; clear HA; simp only [impl_FsValid.j0] at H; by_cases c9 : x21_1 = true
      · subst c9; rw [if_pos rfl] at H; obtain rfl := Option.some.inj H; go_wp2; go_ret; exact ⟨qR, qB⟩
      · replace c9 := Bool.eq_false_iff.mpr c9; subst c9; rw [if_neg qff] at H; have H' := qK H; clear H; obtain ⟨hcz10_0, hcz10_1, hcz10_2, hcz10_3, hcz10_4, hcz10_5⟩ := zC6 BK204.out; obtain ⟨hfz10_0, hfz10_1, hfz10_2, hfz10_3, hfz10_4, hfz10_5⟩ := zF6 BK204.out; go_wp2; go_loopg [3, 25] kj1 (fun kq v3 v25 w' => ∃ (x3_2 : Int) (x25_2 : Int), v3 = .int .i64 x3_2 ∧ v25 = .int .i64 x25_2 ∧ Aside0 (impl_FsValid.l0 kq x3_2 l0_0 (l0_0.length : Int) x25_2 l0_0 a0_1 a0_2 a0_3 a0_4 a0_5 = some r) ∧ Aside0 (kq ≤ kj1) ∧ Aside0 (w'.heap[gb204]? = some (.cells #[(.slice A0_0 l0_0.length c0_0), .int .i64 a0_1, .int .i64 a0_2, .int .i64 a0_3, .int .i64 a0_4, .bool a0_5] 30 (0, 0))) ∧ Aside0 (Below w.heap.size w w'))
        case atStart => exact ⟨(0), (0), qS, qS, H', ⟨Nat.le_refl _⟩, ⟨by (with_reducible repeat (first | refine bdN ?_ _ | refine bkD ?_ | refine bkA ?_ _)); exact BK204.out⟩, ⟨qB⟩⟩
        case round =>
          clear H'; (try clear p2); (try clear c3); (try clear c4); (try clear c4b0); (try clear c4b1); (try clear c6); (try clear c6b0); (try clear c9); (try clear hcz10_0); (try clear hcz10_1); (try clear hcz10_2); (try clear hcz10_3); (try clear hcz10_4); (try clear hcz10_5); (try clear hcz5_0); (try clear hcz5_1); (try clear hcz5_2); (try clear hcz5_3); (try clear hcz5_4); (try clear hcz5_5); (try clear hcz7_0); (try clear hcz7_1); (try clear hcz7_2); (try clear hcz7_3); (try clear hcz7_4); (try clear hcz7_5); (try clear hcz8_0); (try clear hcz8_1); (try clear hcz8_2); (try clear hcz8_3); (try clear hcz8_4); (try clear hcz8_5); (try clear hfz10_0); (try clear hfz10_1); (try clear hfz10_2); (try clear hfz10_3); (try clear hfz10_4); (try clear hfz10_5); (try clear hfz5_0); (try clear hfz5_1); (try clear hfz5_2); (try clear hfz5_3); (try clear hfz5_4); (try clear hfz5_5); (try clear hfz7_0); (try clear hfz7_1); (try clear hfz7_2); (try clear hfz7_3); (try clear hfz7_4); (try clear hfz7_5); (try clear hfz8_0); (try clear hfz8_1); (try clear hfz8_2); (try clear hfz8_3); (try clear hfz8_4); (try clear hfz8_5); obtain ⟨x3_2, x25_2, rfl, rfl, HA, HK2, BK204, HB⟩ := hrel
          cases gk with
          | zero => exact absurd HA.out (by simp [impl_FsValid.l0])
          | succ k2 =>
            have H := HA.out; clear HA; simp only [impl_FsValid.l0] at H; by_cases c11 : x25_2 < (l0_0.length : Int)
            · rw [if_pos c11] at H; have c11b0 : decide (x25_2 < (l0_0.length : Int)) = true := decide_eq_true c11; clear c11; by_cases c12 : 0 ≤ x25_2
              · rw [if_pos c12] at H; have c12b0 : decide (0 ≤ x25_2) = true := decide_eq_true c12; clear c12; by_cases c13 : x25_2 < (l0_0.length : Int)
                · rw [if_pos c13] at H; have c13b0 : decide (x25_2 < (l0_0.length : Int)) = true := decide_eq_true c13; clear c13; replace H := Option.bind_eq_some_iff.mp H; obtain ⟨t207, A140, H⟩ := H; have A14 := qK A140; clear A140; by_cases c15 : t207 = true
                  · subst c15; rw [if_pos rfl] at H; by_cases c16 : ((rd_T61 l0_0 x25_2).f2) < 0
                    · rw [if_pos c16] at H; have c16b0 : decide (((rd_T61 l0_0 x25_2).f2) < 0) = true := decide_eq_true c16; clear c16; obtain rfl := Option.some.inj H; have p205 : 0 ≤ (x25_2 : Int) := of_decide_eq_true qa; have q205 : x25_2 < (l0_0.length : Int) := of_decide_eq_true qa; obtain ⟨ad205, e205, hx205_0, hx205_1, hx205_2⟩ := at_T61 HR0_0.out x25_2 p205 q205; cases e205; replace hx205_0 := (HB.out.cell (World.block_lt_of_cell? w _ hx205_0)).trans hx205_0; replace hx205_1 := (HB.out.cell (World.block_lt_of_cell? w _ hx205_1)).trans hx205_1; replace hx205_2 := (HB.out.cell (World.block_lt_of_cell? w _ hx205_2)).trans hx205_2; replace p205 := eq_true p205; replace q205 := eq_true q205; (try go_wp2_with (first | ((with_reducible refine gds (N := 5) rfl ?_); (try (refine gate_guard (by rfl) ?_; dsimp only)); refine qbx 5 #[.string (⟨#[]⟩ : ByteArray), .string (⟨#[]⟩ : ByteArray), .int .i64 0] 61 ?_; intro gb206 hg w17 hbox hb; have BK206 := qK (hbox); have GW206 := qK ((qW : w.heap.size ≤ gb206)); have GE206 := GW206; replace HB := qHB HB hb; have NB204_206 := qK (qlt BK204 hg); have NB206_204 := qK (qgt BK204 hg); replace BK204 := qbb BK204 hb; clear hb hbox hg; have hnb18 := NB206_204.out; have hnc18 := NB204_206.out; have hz19 := qz3 BK206.out))); have n0_ : Aside0 ((((w17.setCell ⟨gb206, 0, none⟩ (.string ((rd_T61 l0_0 x25_2).f0))).setCell ⟨gb206, 1, none⟩ (.string ((rd_T61 l0_0 x25_2).f1))).setCell ⟨gb206, 2, none⟩ (.int .i64 ((rd_T61 l0_0 x25_2).f2))).heap[gb204]? = some (.cells #[.slice (some ad205) l0_0.length c0_0, .int .i64 a0_1, .int .i64 a0_2, .int .i64 a0_3, .int .i64 a0_4, .bool a0_5] 30 (0, 0))) := ⟨by (with_reducible repeat (first | refine bdN ?_ _ | refine bkD ?_ | refine bkA ?_ _)); refine bfa ?_ NB204_206.out _; refine bfa ?_ NB204_206.out _; refine bfa ?_ NB204_206.out _; exact BK204.out⟩; have n1_ : Aside0 ((((w17.setCell ⟨gb206, 0, none⟩ (.string ((rd_T61 l0_0 x25_2).f0))).setCell ⟨gb206, 1, none⟩ (.string ((rd_T61 l0_0 x25_2).f1))).setCell ⟨gb206, 2, none⟩ (.int .i64 ((rd_T61 l0_0 x25_2).f2))).heap[gb206]? = some (.cells #[.string ((rd_T61 l0_0 x25_2).f0), .string ((rd_T61 l0_0 x25_2).f1), .int .i64 ((rd_T61 l0_0 x25_2).f2)] 61 (0, 0))) := ⟨by (with_reducible repeat (first | refine bdN ?_ _ | refine bkD ?_ | refine bkA ?_ _)); refine bpu (cs := #[.string ((rd_T61 l0_0 x25_2).f0), .string ((rd_T61 l0_0 x25_2).f1), .int .i64 0]) ?_ 2 _ rfl; refine bpu (cs := #[.string ((rd_T61 l0_0 x25_2).f0), .string (⟨#[]⟩ : ByteArray), .int .i64 0]) ?_ 1 _ rfl; refine bpu (cs := #[.string (⟨#[]⟩ : ByteArray), .string (⟨#[]⟩ : ByteArray), .int .i64 0]) ?_ 0 _ rfl; exact BK206.out⟩; have n2_ : Aside0 (Below w.heap.size w (((w17.setCell ⟨gb206, 0, none⟩ (.string ((rd_T61 l0_0 x25_2).f0))).setCell ⟨gb206, 1, none⟩ (.string ((rd_T61 l0_0 x25_2).f1))).setCell ⟨gb206, 2, none⟩ (.int .i64 ((rd_T61 l0_0 x25_2).f2)))) := ⟨qB⟩; (try clear BK204); (try clear BK206); (try clear HB); generalize (((w17.setCell ⟨gb206, 0, none⟩ (.string ((rd_T61 l0_0 x25_2).f0))).setCell ⟨gb206, 1, none⟩ (.string ((rd_T61 l0_0 x25_2).f1))).setCell ⟨gb206, 2, none⟩ (.int .i64 ((rd_T61 l0_0 x25_2).f2))) = w20 at n0_ n1_ n2_ ⊢; have BK204 := n0_; have BK206 := n1_; have HB := n2_; clear n0_ n1_ n2_; replace BK204 := qK (bkD BK204.out); replace BK206 := qK (bkD BK206.out); replace HB := qK (bd1 HB.out); refine qs 33 (fun w' => w'.cell? ⟨gb206, 0, none⟩ = some (.string ((rd_T61 l0_0 x25_2).f0)) ∧ w'.cell? ⟨gb206, 1, none⟩ = some (.string ((rd_T61 l0_0 x25_2).f1)) ∧ w'.cell? ⟨gb206, 2, none⟩ = some (.int .i64 ((rd_T61 l0_0 x25_2).f2))) (ds := []) (qy3 BK206.out) (fun hHeld => ?_); refine with_tabW impl_FsValid.tab7 impl_FsValid.bits7 (fun HT_ HW_ => ?_); generalize w20.drew = w21 at BK204 BK206 HB hHeld ⊢; refine qp 0 30 ?_; refine qt 1 31 ?_; refine qo 2 32 (fun K hK => ?_); refine goes_ Tryz.func40 (by kernel_rfl) rfl #[.string ((rd_T61 l0_0 x25_2).f0)] (by rfl) rfl rfl qA ?_; (with_reducible refine (impl_isFileName.calls ((rd_T61 l0_0 x25_2).f0) true _ A14.out).mono ?_); rintro e w' ⟨rfl, ⟨nd, rfl⟩⟩; refine ⟨_, rfl, ?_⟩; refine hK.out _ _ (qy3 BK206.out) (fun hHeld => ?_); clear hK K; refine norm_ (a' := ?_) ?_ ?_; rotate_left
                      · show Act.put _ (some 32) _ = _; simp only [Act.put, List.setIfInBounds_toArray, List.set_cons_zero, List.set_cons_succ, i64_w, i32_w]; rfl
                      refine qp 3 33 ?_; refine qp 4 34 ?_; refine qp 5 35 ?_; refine qt 6 36 ?_; refine qp 7 37 ?_; refine qp 8 38 ?_; refine qp 9 39 ?_; refine qu 10 40 ?_; refine qu 11 41 ?_; refine qu 12 42 ?_; refine qu 13 43 ?_; refine qu 14 44 ?_; refine qu 15 45 ?_; refine qp 16 46 ?_; refine qp 17 47 ?_; refine qu 18 48 ?_; refine qu 19 49 ?_; refine qu 20 50 ?_; refine qu 21 51 ?_; refine qu 22 52 ?_; refine qu 23 53 ?_; refine qu 24 54 ?_; refine qu 25 55 ?_; refine qu 26 56 ?_; refine qu 27 57 ?_; refine qu 28 58 ?_; refine qu 29 59 ?_; refine qu 30 60 ?_; refine qu 31 61 ?_; refine qp 32 62 ?_; refine done_ (done_of HT_.out (by kernel_rfl)) ?_; (try go_wp2); go_ret; exact ⟨qR, qB⟩
                    · rw [if_neg c16] at H; have c16b0 : decide (((rd_T61 l0_0 x25_2).f2) < 0) = false := decide_eq_false c16; clear c16; by_cases c22 : ((rd_T61 l0_0 x25_2).f2) > (((rd_T61 l0_0 x25_2).f1).size : Int)
                      · rw [if_pos c22] at H; have c22b0 : decide ((((rd_T61 l0_0 x25_2).f1).size : Int) < ((rd_T61 l0_0 x25_2).f2)) = true := decide_eq_true c22; clear c22; obtain rfl := Option.some.inj H; have p205 : 0 ≤ (x25_2 : Int) := of_decide_eq_true qa; have q205 : x25_2 < (l0_0.length : Int) := of_decide_eq_true qa; obtain ⟨ad205, e205, hx205_0, hx205_1, hx205_2⟩ := at_T61 HR0_0.out x25_2 p205 q205; cases e205; replace hx205_0 := (HB.out.cell (World.block_lt_of_cell? w _ hx205_0)).trans hx205_0; replace hx205_1 := (HB.out.cell (World.block_lt_of_cell? w _ hx205_1)).trans hx205_1; replace hx205_2 := (HB.out.cell (World.block_lt_of_cell? w _ hx205_2)).trans hx205_2; replace p205 := eq_true p205; replace q205 := eq_true q205; (try go_wp2_with (first | ((with_reducible refine gds (N := 5) rfl ?_); (try (refine gate_guard (by rfl) ?_; dsimp only)); refine qbx 5 #[.string (⟨#[]⟩ : ByteArray), .string (⟨#[]⟩ : ByteArray), .int .i64 0] 61 ?_; intro gb206 hg w23 hbox hb; have BK206 := qK (hbox); have GW206 := qK ((qW : w.heap.size ≤ gb206)); have GE206 := GW206; replace HB := qHB HB hb; have NB204_206 := qK (qlt BK204 hg); have NB206_204 := qK (qgt BK204 hg); replace BK204 := qbb BK204 hb; clear hb hbox hg; have hnb24 := NB206_204.out; have hnc24 := NB204_206.out; have hz25 := qz3 BK206.out))); have n0_ : Aside0 ((((w23.setCell ⟨gb206, 0, none⟩ (.string ((rd_T61 l0_0 x25_2).f0))).setCell ⟨gb206, 1, none⟩ (.string ((rd_T61 l0_0 x25_2).f1))).setCell ⟨gb206, 2, none⟩ (.int .i64 ((rd_T61 l0_0 x25_2).f2))).heap[gb204]? = some (.cells #[.slice (some ad205) l0_0.length c0_0, .int .i64 a0_1, .int .i64 a0_2, .int .i64 a0_3, .int .i64 a0_4, .bool a0_5] 30 (0, 0))) := ⟨by (with_reducible repeat (first | refine bdN ?_ _ | refine bkD ?_ | refine bkA ?_ _)); refine bfa ?_ NB204_206.out _; refine bfa ?_ NB204_206.out _; refine bfa ?_ NB204_206.out _; exact BK204.out⟩; have n1_ : Aside0 ((((w23.setCell ⟨gb206, 0, none⟩ (.string ((rd_T61 l0_0 x25_2).f0))).setCell ⟨gb206, 1, none⟩ (.string ((rd_T61 l0_0 x25_2).f1))).setCell ⟨gb206, 2, none⟩ (.int .i64 ((rd_T61 l0_0 x25_2).f2))).heap[gb206]? = some (.cells #[.string ((rd_T61 l0_0 x25_2).f0), .string ((rd_T61 l0_0 x25_2).f1), .int .i64 ((rd_T61 l0_0 x25_2).f2)] 61 (0, 0))) := ⟨by (with_reducible repeat (first | refine bdN ?_ _ | refine bkD ?_ | refine bkA ?_ _)); refine bpu (cs := #[.string ((rd_T61 l0_0 x25_2).f0), .string ((rd_T61 l0_0 x25_2).f1), .int .i64 0]) ?_ 2 _ rfl; refine bpu (cs := #[.string ((rd_T61 l0_0 x25_2).f0), .string (⟨#[]⟩ : ByteArray), .int .i64 0]) ?_ 1 _ rfl; refine bpu (cs := #[.string (⟨#[]⟩ : ByteArray), .string (⟨#[]⟩ : ByteArray), .int .i64 0]) ?_ 0 _ rfl; exact BK206.out⟩; have n2_ : Aside0 (Below w.heap.size w (((w23.setCell ⟨gb206, 0, none⟩ (.string ((rd_T61 l0_0 x25_2).f0))).setCell ⟨gb206, 1, none⟩ (.string ((rd_T61 l0_0 x25_2).f1))).setCell ⟨gb206, 2, none⟩ (.int .i64 ((rd_T61 l0_0 x25_2).f2)))) := ⟨qB⟩; (try clear BK204); (try clear BK206); (try clear HB); generalize (((w23.setCell ⟨gb206, 0, none⟩ (.string ((rd_T61 l0_0 x25_2).f0))).setCell ⟨gb206, 1, none⟩ (.string ((rd_T61 l0_0 x25_2).f1))).setCell ⟨gb206, 2, none⟩ (.int .i64 ((rd_T61 l0_0 x25_2).f2))) = w26 at n0_ n1_ n2_ ⊢; have BK204 := n0_; have BK206 := n1_; have HB := n2_; clear n0_ n1_ n2_; replace BK204 := qK (bkD BK204.out); replace BK206 := qK (bkD BK206.out); replace HB := qK (bd1 HB.out); refine qs 33 (fun w' => w'.cell? ⟨gb206, 0, none⟩ = some (.string ((rd_T61 l0_0 x25_2).f0)) ∧ w'.cell? ⟨gb206, 1, none⟩ = some (.string ((rd_T61 l0_0 x25_2).f1)) ∧ w'.cell? ⟨gb206, 2, none⟩ = some (.int .i64 ((rd_T61 l0_0 x25_2).f2))) (ds := []) (qy3 BK206.out) (fun hHeld => ?_); refine with_tabW impl_FsValid.tab7 impl_FsValid.bits7 (fun HT_ HW_ => ?_); generalize w26.drew = w27 at BK204 BK206 HB hHeld ⊢; refine qp 0 30 ?_; refine qt 1 31 ?_; refine qo 2 32 (fun K hK => ?_); refine goes_ Tryz.func40 (by kernel_rfl) rfl #[.string ((rd_T61 l0_0 x25_2).f0)] (by rfl) rfl rfl qA ?_; (with_reducible refine (impl_isFileName.calls ((rd_T61 l0_0 x25_2).f0) true _ A14.out).mono ?_); rintro e w' ⟨rfl, ⟨nd, rfl⟩⟩; refine ⟨_, rfl, ?_⟩; refine hK.out _ _ (qy3 BK206.out) (fun hHeld => ?_); clear hK K; refine norm_ (a' := ?_) ?_ ?_; rotate_left
                        · show Act.put _ (some 32) _ = _; simp only [Act.put, List.setIfInBounds_toArray, List.set_cons_zero, List.set_cons_succ, i64_w, i32_w]; rfl
                        refine qp 3 33 ?_; refine qp 4 34 ?_; refine qp 5 35 ?_; refine qt 6 36 ?_; refine qp 7 37 ?_; refine qp 8 38 ?_; refine qp 9 39 ?_; refine qp 10 40 ?_; refine qp 12 42 ?_; refine qt 11 41 ?_; refine qt 13 43 ?_; refine qp 14 44 ?_; refine qp 15 45 ?_; refine qp 16 46 ?_; refine qp 17 47 ?_; refine qu 18 48 ?_; refine qu 19 49 ?_; refine qu 20 50 ?_; refine qu 21 51 ?_; refine qu 22 52 ?_; refine qu 23 53 ?_; refine qu 24 54 ?_; refine qu 25 55 ?_; refine qu 26 56 ?_; refine qu 27 57 ?_; refine qu 28 58 ?_; refine qu 29 59 ?_; refine qu 30 60 ?_; refine qu 31 61 ?_; refine qp 32 62 ?_; refine done_ (done_of HT_.out (by kernel_rfl)) ?_; (try go_wp2); go_ret; exact ⟨qR, qB⟩
                      · rw [if_neg c22] at H; have c22b0 : decide ((((rd_T61 l0_0 x25_2).f1).size : Int) < ((rd_T61 l0_0 x25_2).f2)) = false := decide_eq_false c22; clear c22; by_cases c28 : x25_2 > 0
                        · rw [if_pos c28] at H; have c28b0 : decide (0 < x25_2) = true := decide_eq_true c28; clear c28; obtain ⟨ji29, hji29⟩ : ∃ j_ : Int, (wrap64 (x25_2 - 1)) = j_ := ⟨_, rfl⟩; (replace H : (if 0 ≤ (ji29) then (if (ji29) < (l0_0.length : Int) then (if ((Op.bytesLess (((rd_T61 l0_0 (ji29)).f0).toList) (((rd_T61 l0_0 x25_2).f0).toList)) = true) then (impl_FsValid.l0 k2 (wrap64 (x3_2 + (((rd_T61 l0_0 x25_2).f1).size : Int))) l0_0 (l0_0.length : Int) (wrap64 (x25_2 + 1)) l0_0 a0_1 a0_2 a0_3 a0_4 a0_5) else (some false)) else (none)) else (none)) = some r := by first | (rw [hji29] at H; exact H) | (simp only [hji29] at H ⊢; exact H)); (try rw [hji29] at A14); have hji29w : (IntKind.i64.wrap (x25_2 - 1)) = ji29 := (i64_w _).trans hji29; by_cases c30 : 0 ≤ (ji29)
                          · rw [if_pos c30] at H; have c30b0 : decide (0 ≤ (ji29)) = true := decide_eq_true c30; clear c30; by_cases c31 : (ji29) < (l0_0.length : Int)
                            · rw [if_pos c31] at H; have c31b0 : decide ((ji29) < (l0_0.length : Int)) = true := decide_eq_true c31; clear c31; by_cases c32 : ((Op.bytesLess (((rd_T61 l0_0 (ji29)).f0).toList) (((rd_T61 l0_0 x25_2).f0).toList)) = true)
                              · rw [if_pos c32] at H; have c32b0 : (Op.bytesLess (((rd_T61 l0_0 (ji29)).f0).toList) (((rd_T61 l0_0 x25_2).f0).toList)) = true := c32; clear c32; have H' := qK H; clear H; have p205 : 0 ≤ (x25_2 : Int) := of_decide_eq_true qa; have q205 : x25_2 < (l0_0.length : Int) := of_decide_eq_true qa; obtain ⟨ad205, e205, hx205_0, hx205_1, hx205_2⟩ := at_T61 HR0_0.out x25_2 p205 q205; cases e205; replace hx205_0 := (HB.out.cell (World.block_lt_of_cell? w _ hx205_0)).trans hx205_0; replace hx205_1 := (HB.out.cell (World.block_lt_of_cell? w _ hx205_1)).trans hx205_1; replace hx205_2 := (HB.out.cell (World.block_lt_of_cell? w _ hx205_2)).trans hx205_2; replace p205 := eq_true p205; replace q205 := eq_true q205; (try go_wp2_with (first | ((with_reducible refine gds (N := 5) rfl ?_); (try (refine gate_guard (by rfl) ?_; dsimp only)); refine qbx 5 #[.string (⟨#[]⟩ : ByteArray), .string (⟨#[]⟩ : ByteArray), .int .i64 0] 61 ?_; intro gb206 hg w33 hbox hb; have BK206 := qK (hbox); have GW206 := qK ((qW : w.heap.size ≤ gb206)); have GE206 := GW206; replace HB := qHB HB hb; have NB204_206 := qK (qlt BK204 hg); have NB206_204 := qK (qgt BK204 hg); replace BK204 := qbb BK204 hb; clear hb hbox hg; have hnb34 := NB206_204.out; have hnc34 := NB204_206.out; have hz35 := qz3 BK206.out))); have n0_ : Aside0 ((((w33.setCell ⟨gb206, 0, none⟩ (.string ((rd_T61 l0_0 x25_2).f0))).setCell ⟨gb206, 1, none⟩ (.string ((rd_T61 l0_0 x25_2).f1))).setCell ⟨gb206, 2, none⟩ (.int .i64 ((rd_T61 l0_0 x25_2).f2))).heap[gb204]? = some (.cells #[.slice (some ad205) l0_0.length c0_0, .int .i64 a0_1, .int .i64 a0_2, .int .i64 a0_3, .int .i64 a0_4, .bool a0_5] 30 (0, 0))) := ⟨by (with_reducible repeat (first | refine bdN ?_ _ | refine bkD ?_ | refine bkA ?_ _)); refine bfa ?_ NB204_206.out _; refine bfa ?_ NB204_206.out _; refine bfa ?_ NB204_206.out _; exact BK204.out⟩; have n1_ : Aside0 ((((w33.setCell ⟨gb206, 0, none⟩ (.string ((rd_T61 l0_0 x25_2).f0))).setCell ⟨gb206, 1, none⟩ (.string ((rd_T61 l0_0 x25_2).f1))).setCell ⟨gb206, 2, none⟩ (.int .i64 ((rd_T61 l0_0 x25_2).f2))).heap[gb206]? = some (.cells #[.string ((rd_T61 l0_0 x25_2).f0), .string ((rd_T61 l0_0 x25_2).f1), .int .i64 ((rd_T61 l0_0 x25_2).f2)] 61 (0, 0))) := ⟨by (with_reducible repeat (first | refine bdN ?_ _ | refine bkD ?_ | refine bkA ?_ _)); refine bpu (cs := #[.string ((rd_T61 l0_0 x25_2).f0), .string ((rd_T61 l0_0 x25_2).f1), .int .i64 0]) ?_ 2 _ rfl; refine bpu (cs := #[.string ((rd_T61 l0_0 x25_2).f0), .string (⟨#[]⟩ : ByteArray), .int .i64 0]) ?_ 1 _ rfl; refine bpu (cs := #[.string (⟨#[]⟩ : ByteArray), .string (⟨#[]⟩ : ByteArray), .int .i64 0]) ?_ 0 _ rfl; exact BK206.out⟩; have n2_ : Aside0 (Below w.heap.size w (((w33.setCell ⟨gb206, 0, none⟩ (.string ((rd_T61 l0_0 x25_2).f0))).setCell ⟨gb206, 1, none⟩ (.string ((rd_T61 l0_0 x25_2).f1))).setCell ⟨gb206, 2, none⟩ (.int .i64 ((rd_T61 l0_0 x25_2).f2)))) := ⟨qB⟩; (try clear BK204); (try clear BK206); (try clear HB); generalize (((w33.setCell ⟨gb206, 0, none⟩ (.string ((rd_T61 l0_0 x25_2).f0))).setCell ⟨gb206, 1, none⟩ (.string ((rd_T61 l0_0 x25_2).f1))).setCell ⟨gb206, 2, none⟩ (.int .i64 ((rd_T61 l0_0 x25_2).f2))) = w36 at n0_ n1_ n2_ ⊢; have BK204 := n0_; have BK206 := n1_; have HB := n2_; clear n0_ n1_ n2_; replace BK204 := qK (bkD BK204.out); replace BK206 := qK (bkD BK206.out); replace HB := qK (bd1 HB.out); have p208 : 0 ≤ ((ji29) : Int) := of_decide_eq_true qa; have q208 : (ji29) < (l0_0.length : Int) := of_decide_eq_true qa; obtain ⟨ad208, e208, hx208_0, hx208_1, hx208_2⟩ := at_T61 HR0_0.out (ji29) p208 q208; have hw208_2 := hx208_2; have hw208_1 := hx208_1; have hw208_0 := hx208_0; obtain rfl : ad205 = ad208 := (by injection e208); replace hx208_0 := (HB.out.cell (World.block_lt_of_cell? w _ hx208_0)).trans hx208_0; replace hx208_1 := (HB.out.cell (World.block_lt_of_cell? w _ hx208_1)).trans hx208_1; replace hx208_2 := (HB.out.cell (World.block_lt_of_cell? w _ hx208_2)).trans hx208_2; replace p208 := eq_true p208; replace q208 := eq_true q208; refine qs 33 (fun w' => w'.cell? ⟨gb206, 0, none⟩ = some (.string ((rd_T61 l0_0 x25_2).f0)) ∧ w'.cell? ⟨gb206, 1, none⟩ = some (.string ((rd_T61 l0_0 x25_2).f1)) ∧ w'.cell? ⟨gb206, 2, none⟩ = some (.int .i64 ((rd_T61 l0_0 x25_2).f2)) ∧ w'.cell? ⟨gb204, 0, none⟩ = some (.slice (some ad205) l0_0.length c0_0) ∧ w'.cell? ⟨gb204, 1, none⟩ = some (.int .i64 a0_1) ∧ w'.cell? ⟨gb204, 2, none⟩ = some (.int .i64 a0_2) ∧ w'.cell? ⟨gb204, 3, none⟩ = some (.int .i64 a0_3) ∧ w'.cell? ⟨gb204, 4, none⟩ = some (.int .i64 a0_4) ∧ w'.cell? ⟨gb204, 5, none⟩ = some (.bool a0_5) ∧ w'.cell? (ad205.add (((ji29)).toNat * 3)) = some (.string ((rd_T61 l0_0 (ji29)).f0)) ∧ w'.cell? ⟨(ad205.add (((ji29)).toNat * 3)).block, (ad205.add (((ji29)).toNat * 3)).off + 1, none⟩ = some (.string ((rd_T61 l0_0 (ji29)).f1)) ∧ w'.cell? ⟨(ad205.add (((ji29)).toNat * 3)).block, (ad205.add (((ji29)).toNat * 3)).off + 2, none⟩ = some (.int .i64 ((rd_T61 l0_0 (ji29)).f2))) (ds := []) ⟨(bce BK206.out 0).trans rfl, (bce BK206.out 1).trans rfl, (bce BK206.out 2).trans rfl, (bce BK204.out 0).trans rfl, (bce BK204.out 1).trans rfl, (bce BK204.out 2).trans rfl, (bce BK204.out 3).trans rfl, (bce BK204.out 4).trans rfl, (bce BK204.out 5).trans rfl, ((HB.out.cell (World.block_lt_of_cell? w _ hw208_0)).trans hw208_0), ((HB.out.cell (World.block_lt_of_cell? w _ hw208_1)).trans hw208_1), ((HB.out.cell (World.block_lt_of_cell? w _ hw208_2)).trans hw208_2)⟩ (fun hHeld => ?_); refine with_tabW impl_FsValid.tab7 impl_FsValid.bits7 (fun HT_ HW_ => ?_); generalize w36.drew = w37 at BK204 BK206 HB hx208_0 hx208_1 hx208_2 hHeld ⊢; refine qp 0 30 ?_; refine qt 1 31 ?_; refine qo 2 32 (fun K hK => ?_); refine goes_ Tryz.func40 (by kernel_rfl) rfl #[.string ((rd_T61 l0_0 x25_2).f0)] (by rfl) rfl rfl qA ?_; (with_reducible refine (impl_isFileName.calls ((rd_T61 l0_0 x25_2).f0) true _ A14.out).mono ?_); rintro e w' ⟨rfl, ⟨nd, rfl⟩⟩; refine ⟨_, rfl, ?_⟩; refine hK.out _ _ ⟨(bce BK206.out 0).trans rfl, (bce BK206.out 1).trans rfl, (bce BK206.out 2).trans rfl, (bce BK204.out 0).trans rfl, (bce BK204.out 1).trans rfl, (bce BK204.out 2).trans rfl, (bce BK204.out 3).trans rfl, (bce BK204.out 4).trans rfl, (bce BK204.out 5).trans rfl, ((HB.out.cell (World.block_lt_of_cell? w _ hw208_0)).trans hw208_0), ((HB.out.cell (World.block_lt_of_cell? w _ hw208_1)).trans hw208_1), ((HB.out.cell (World.block_lt_of_cell? w _ hw208_2)).trans hw208_2)⟩ (fun hHeld => ?_); clear hK K; refine norm_ (a' := ?_) ?_ ?_; rotate_left
                                · show Act.put _ (some 32) _ = _; simp only [Act.put, List.setIfInBounds_toArray, List.set_cons_zero, List.set_cons_succ, i64_w, i32_w]; rfl
                                refine qp 3 33 ?_; refine qp 4 34 ?_; refine qp 5 35 ?_; refine qt 6 36 ?_; refine qp 7 37 ?_; refine qp 8 38 ?_; refine qp 9 39 ?_; refine qp 10 40 ?_; refine qp 12 42 ?_; refine qt 11 41 ?_; refine qt 13 43 ?_; refine qp 14 44 ?_; refine qp 15 45 ?_; refine qp 16 46 ?_; refine qp 17 47 ?_; refine qp 18 48 ?_; refine qp 19 49 ?_; refine qp 20 50 ?_; refine qp 21 51 ?_; refine qp 23 53 ?_; refine qp 24 54 ?_; refine qp 28 58 ?_; refine qt 22 52 ?_; refine qp 25 55 ?_; refine qp 26 56 ?_; refine qt 27 57 ?_; refine qt 29 59 ?_; refine qp 30 60 ?_; refine qp 31 61 ?_; refine qp 32 62 ?_; refine done_ (done_of HT_.out (by kernel_rfl)) ?_; obtain ⟨hcz38_0, hcz38_1, hcz38_2⟩ := zC3 BK206.out; obtain ⟨hfz38_0, hfz38_1, hfz38_2⟩ := zF3 BK206.out; (try go_wp2); go_roundg k2
                                case measure => have := HJ1.out; have := HK2.out; omega
                                case rel => exact ⟨(wrap64 (x3_2 + (((rd_T61 l0_0 x25_2).f1).size : Int))), (wrap64 (x25_2 + 1)), qS, qS, H', ⟨by have := HJ1.out; have := HK2.out; omega⟩, ⟨by (with_reducible repeat (first | refine bdN ?_ _ | refine bkD ?_ | refine bkA ?_ _)); exact BK204.out⟩, ⟨qB⟩⟩
                              · rw [if_neg c32] at H; (have c32b0 : (Op.bytesLess (((rd_T61 l0_0 (ji29)).f0).toList) (((rd_T61 l0_0 x25_2).f0).toList)) = false := by simpa using c32); clear c32; obtain rfl := Option.some.inj H; have p205 : 0 ≤ (x25_2 : Int) := of_decide_eq_true qa; have q205 : x25_2 < (l0_0.length : Int) := of_decide_eq_true qa; obtain ⟨ad205, e205, hx205_0, hx205_1, hx205_2⟩ := at_T61 HR0_0.out x25_2 p205 q205; cases e205; replace hx205_0 := (HB.out.cell (World.block_lt_of_cell? w _ hx205_0)).trans hx205_0; replace hx205_1 := (HB.out.cell (World.block_lt_of_cell? w _ hx205_1)).trans hx205_1; replace hx205_2 := (HB.out.cell (World.block_lt_of_cell? w _ hx205_2)).trans hx205_2; replace p205 := eq_true p205; replace q205 := eq_true q205; (try go_wp2_with (first | ((with_reducible refine gds (N := 5) rfl ?_); (try (refine gate_guard (by rfl) ?_; dsimp only)); refine qbx 5 #[.string (⟨#[]⟩ : ByteArray), .string (⟨#[]⟩ : ByteArray), .int .i64 0] 61 ?_; intro gb206 hg w39 hbox hb; have BK206 := qK (hbox); have GW206 := qK ((qW : w.heap.size ≤ gb206)); have GE206 := GW206; replace HB := qHB HB hb; have NB204_206 := qK (qlt BK204 hg); have NB206_204 := qK (qgt BK204 hg); replace BK204 := qbb BK204 hb; clear hb hbox hg; have hnb40 := NB206_204.out; have hnc40 := NB204_206.out; have hz41 := qz3 BK206.out))); have n0_ : Aside0 ((((w39.setCell ⟨gb206, 0, none⟩ (.string ((rd_T61 l0_0 x25_2).f0))).setCell ⟨gb206, 1, none⟩ (.string ((rd_T61 l0_0 x25_2).f1))).setCell ⟨gb206, 2, none⟩ (.int .i64 ((rd_T61 l0_0 x25_2).f2))).heap[gb204]? = some (.cells #[.slice (some ad205) l0_0.length c0_0, .int .i64 a0_1, .int .i64 a0_2, .int .i64 a0_3, .int .i64 a0_4, .bool a0_5] 30 (0, 0))) := ⟨by (with_reducible repeat (first | refine bdN ?_ _ | refine bkD ?_ | refine bkA ?_ _)); refine bfa ?_ NB204_206.out _; refine bfa ?_ NB204_206.out _; refine bfa ?_ NB204_206.out _; exact BK204.out⟩; have n1_ : Aside0 ((((w39.setCell ⟨gb206, 0, none⟩ (.string ((rd_T61 l0_0 x25_2).f0))).setCell ⟨gb206, 1, none⟩ (.string ((rd_T61 l0_0 x25_2).f1))).setCell ⟨gb206, 2, none⟩ (.int .i64 ((rd_T61 l0_0 x25_2).f2))).heap[gb206]? = some (.cells #[.string ((rd_T61 l0_0 x25_2).f0), .string ((rd_T61 l0_0 x25_2).f1), .int .i64 ((rd_T61 l0_0 x25_2).f2)] 61 (0, 0))) := ⟨by (with_reducible repeat (first | refine bdN ?_ _ | refine bkD ?_ | refine bkA ?_ _)); refine bpu (cs := #[.string ((rd_T61 l0_0 x25_2).f0), .string ((rd_T61 l0_0 x25_2).f1), .int .i64 0]) ?_ 2 _ rfl; refine bpu (cs := #[.string ((rd_T61 l0_0 x25_2).f0), .string (⟨#[]⟩ : ByteArray), .int .i64 0]) ?_ 1 _ rfl; refine bpu (cs := #[.string (⟨#[]⟩ : ByteArray), .string (⟨#[]⟩ : ByteArray), .int .i64 0]) ?_ 0 _ rfl; exact BK206.out⟩; have n2_ : Aside0 (Below w.heap.size w (((w39.setCell ⟨gb206, 0, none⟩ (.string ((rd_T61 l0_0 x25_2).f0))).setCell ⟨gb206, 1, none⟩ (.string ((rd_T61 l0_0 x25_2).f1))).setCell ⟨gb206, 2, none⟩ (.int .i64 ((rd_T61 l0_0 x25_2).f2)))) := ⟨qB⟩; (try clear BK204); (try clear BK206); (try clear HB); generalize (((w39.setCell ⟨gb206, 0, none⟩ (.string ((rd_T61 l0_0 x25_2).f0))).setCell ⟨gb206, 1, none⟩ (.string ((rd_T61 l0_0 x25_2).f1))).setCell ⟨gb206, 2, none⟩ (.int .i64 ((rd_T61 l0_0 x25_2).f2))) = w42 at n0_ n1_ n2_ ⊢; have BK204 := n0_; have BK206 := n1_; have HB := n2_; clear n0_ n1_ n2_; replace BK204 := qK (bkD BK204.out); replace BK206 := qK (bkD BK206.out); replace HB := qK (bd1 HB.out); have p208 : 0 ≤ ((ji29) : Int) := of_decide_eq_true qa; have q208 : (ji29) < (l0_0.length : Int) := of_decide_eq_true qa; obtain ⟨ad208, e208, hx208_0, hx208_1, hx208_2⟩ := at_T61 HR0_0.out (ji29) p208 q208; have hw208_2 := hx208_2; have hw208_1 := hx208_1; have hw208_0 := hx208_0; obtain rfl : ad205 = ad208 := (by injection e208); replace hx208_0 := (HB.out.cell (World.block_lt_of_cell? w _ hx208_0)).trans hx208_0; replace hx208_1 := (HB.out.cell (World.block_lt_of_cell? w _ hx208_1)).trans hx208_1; replace hx208_2 := (HB.out.cell (World.block_lt_of_cell? w _ hx208_2)).trans hx208_2; replace p208 := eq_true p208; replace q208 := eq_true q208; refine qs 33 (fun w' => w'.cell? ⟨gb206, 0, none⟩ = some (.string ((rd_T61 l0_0 x25_2).f0)) ∧ w'.cell? ⟨gb206, 1, none⟩ = some (.string ((rd_T61 l0_0 x25_2).f1)) ∧ w'.cell? ⟨gb206, 2, none⟩ = some (.int .i64 ((rd_T61 l0_0 x25_2).f2)) ∧ w'.cell? ⟨gb204, 0, none⟩ = some (.slice (some ad205) l0_0.length c0_0) ∧ w'.cell? ⟨gb204, 1, none⟩ = some (.int .i64 a0_1) ∧ w'.cell? ⟨gb204, 2, none⟩ = some (.int .i64 a0_2) ∧ w'.cell? ⟨gb204, 3, none⟩ = some (.int .i64 a0_3) ∧ w'.cell? ⟨gb204, 4, none⟩ = some (.int .i64 a0_4) ∧ w'.cell? ⟨gb204, 5, none⟩ = some (.bool a0_5) ∧ w'.cell? (ad205.add (((ji29)).toNat * 3)) = some (.string ((rd_T61 l0_0 (ji29)).f0)) ∧ w'.cell? ⟨(ad205.add (((ji29)).toNat * 3)).block, (ad205.add (((ji29)).toNat * 3)).off + 1, none⟩ = some (.string ((rd_T61 l0_0 (ji29)).f1)) ∧ w'.cell? ⟨(ad205.add (((ji29)).toNat * 3)).block, (ad205.add (((ji29)).toNat * 3)).off + 2, none⟩ = some (.int .i64 ((rd_T61 l0_0 (ji29)).f2))) (ds := []) ⟨(bce BK206.out 0).trans rfl, (bce BK206.out 1).trans rfl, (bce BK206.out 2).trans rfl, (bce BK204.out 0).trans rfl, (bce BK204.out 1).trans rfl, (bce BK204.out 2).trans rfl, (bce BK204.out 3).trans rfl, (bce BK204.out 4).trans rfl, (bce BK204.out 5).trans rfl, ((HB.out.cell (World.block_lt_of_cell? w _ hw208_0)).trans hw208_0), ((HB.out.cell (World.block_lt_of_cell? w _ hw208_1)).trans hw208_1), ((HB.out.cell (World.block_lt_of_cell? w _ hw208_2)).trans hw208_2)⟩ (fun hHeld => ?_); refine with_tabW impl_FsValid.tab7 impl_FsValid.bits7 (fun HT_ HW_ => ?_); generalize w42.drew = w43 at BK204 BK206 HB hx208_0 hx208_1 hx208_2 hHeld ⊢; refine qp 0 30 ?_; refine qt 1 31 ?_; refine qo 2 32 (fun K hK => ?_); refine goes_ Tryz.func40 (by kernel_rfl) rfl #[.string ((rd_T61 l0_0 x25_2).f0)] (by rfl) rfl rfl qA ?_; (with_reducible refine (impl_isFileName.calls ((rd_T61 l0_0 x25_2).f0) true _ A14.out).mono ?_); rintro e w' ⟨rfl, ⟨nd, rfl⟩⟩; refine ⟨_, rfl, ?_⟩; refine hK.out _ _ ⟨(bce BK206.out 0).trans rfl, (bce BK206.out 1).trans rfl, (bce BK206.out 2).trans rfl, (bce BK204.out 0).trans rfl, (bce BK204.out 1).trans rfl, (bce BK204.out 2).trans rfl, (bce BK204.out 3).trans rfl, (bce BK204.out 4).trans rfl, (bce BK204.out 5).trans rfl, ((HB.out.cell (World.block_lt_of_cell? w _ hw208_0)).trans hw208_0), ((HB.out.cell (World.block_lt_of_cell? w _ hw208_1)).trans hw208_1), ((HB.out.cell (World.block_lt_of_cell? w _ hw208_2)).trans hw208_2)⟩ (fun hHeld => ?_); clear hK K; refine norm_ (a' := ?_) ?_ ?_; rotate_left
                                · show Act.put _ (some 32) _ = _; simp only [Act.put, List.setIfInBounds_toArray, List.set_cons_zero, List.set_cons_succ, i64_w, i32_w]; rfl
                                refine qp 3 33 ?_; refine qp 4 34 ?_; refine qp 5 35 ?_; refine qt 6 36 ?_; refine qp 7 37 ?_; refine qp 8 38 ?_; refine qp 9 39 ?_; refine qp 10 40 ?_; refine qp 12 42 ?_; refine qt 11 41 ?_; refine qt 13 43 ?_; refine qp 14 44 ?_; refine qp 15 45 ?_; refine qp 16 46 ?_; refine qp 17 47 ?_; refine qp 18 48 ?_; refine qp 19 49 ?_; refine qp 20 50 ?_; refine qp 21 51 ?_; refine qp 23 53 ?_; refine qp 24 54 ?_; refine qp 28 58 ?_; refine qt 22 52 ?_; refine qp 25 55 ?_; refine qp 26 56 ?_; refine qt 27 57 ?_; refine qt 29 59 ?_; refine qp 30 60 ?_; refine qp 31 61 ?_; refine qp 32 62 ?_; refine done_ (done_of HT_.out (by kernel_rfl)) ?_; (try go_wp2); go_ret; exact ⟨by first | rfl | (simp [eWn, eWs] <;> rfl) | (simp only [← hji29]; first | rfl | (simp [eWn, eWs] <;> rfl)) | (simp [*, eWn, eWs] <;> rfl), qB⟩
                            · rw [if_neg c31] at H; exact absurd H (by simp)
                          · rw [if_neg c30] at H; exact absurd H (by simp)
                        · rw [if_neg c28] at H; have c28b0 : decide (0 < x25_2) = false := decide_eq_false c28; clear c28; have H' := qK H; clear H; have p205 : 0 ≤ (x25_2 : Int) := of_decide_eq_true qa; have q205 : x25_2 < (l0_0.length : Int) := of_decide_eq_true qa; obtain ⟨ad205, e205, hx205_0, hx205_1, hx205_2⟩ := at_T61 HR0_0.out x25_2 p205 q205; cases e205; replace hx205_0 := (HB.out.cell (World.block_lt_of_cell? w _ hx205_0)).trans hx205_0; replace hx205_1 := (HB.out.cell (World.block_lt_of_cell? w _ hx205_1)).trans hx205_1; replace hx205_2 := (HB.out.cell (World.block_lt_of_cell? w _ hx205_2)).trans hx205_2; replace p205 := eq_true p205; replace q205 := eq_true q205; (try go_wp2_with (first | ((with_reducible refine gds (N := 5) rfl ?_); (try (refine gate_guard (by rfl) ?_; dsimp only)); refine qbx 5 #[.string (⟨#[]⟩ : ByteArray), .string (⟨#[]⟩ : ByteArray), .int .i64 0] 61 ?_; intro gb206 hg w44 hbox hb; have BK206 := qK (hbox); have GW206 := qK ((qW : w.heap.size ≤ gb206)); have GE206 := GW206; replace HB := qHB HB hb; have NB204_206 := qK (qlt BK204 hg); have NB206_204 := qK (qgt BK204 hg); replace BK204 := qbb BK204 hb; clear hb hbox hg; have hnb45 := NB206_204.out; have hnc45 := NB204_206.out; have hz46 := qz3 BK206.out))); have n0_ : Aside0 ((((w44.setCell ⟨gb206, 0, none⟩ (.string ((rd_T61 l0_0 x25_2).f0))).setCell ⟨gb206, 1, none⟩ (.string ((rd_T61 l0_0 x25_2).f1))).setCell ⟨gb206, 2, none⟩ (.int .i64 ((rd_T61 l0_0 x25_2).f2))).heap[gb204]? = some (.cells #[.slice (some ad205) l0_0.length c0_0, .int .i64 a0_1, .int .i64 a0_2, .int .i64 a0_3, .int .i64 a0_4, .bool a0_5] 30 (0, 0))) := ⟨by (with_reducible repeat (first | refine bdN ?_ _ | refine bkD ?_ | refine bkA ?_ _)); refine bfa ?_ NB204_206.out _; refine bfa ?_ NB204_206.out _; refine bfa ?_ NB204_206.out _; exact BK204.out⟩; have n1_ : Aside0 ((((w44.setCell ⟨gb206, 0, none⟩ (.string ((rd_T61 l0_0 x25_2).f0))).setCell ⟨gb206, 1, none⟩ (.string ((rd_T61 l0_0 x25_2).f1))).setCell ⟨gb206, 2, none⟩ (.int .i64 ((rd_T61 l0_0 x25_2).f2))).heap[gb206]? = some (.cells #[.string ((rd_T61 l0_0 x25_2).f0), .string ((rd_T61 l0_0 x25_2).f1), .int .i64 ((rd_T61 l0_0 x25_2).f2)] 61 (0, 0))) := ⟨by (with_reducible repeat (first | refine bdN ?_ _ | refine bkD ?_ | refine bkA ?_ _)); refine bpu (cs := #[.string ((rd_T61 l0_0 x25_2).f0), .string ((rd_T61 l0_0 x25_2).f1), .int .i64 0]) ?_ 2 _ rfl; refine bpu (cs := #[.string ((rd_T61 l0_0 x25_2).f0), .string (⟨#[]⟩ : ByteArray), .int .i64 0]) ?_ 1 _ rfl; refine bpu (cs := #[.string (⟨#[]⟩ : ByteArray), .string (⟨#[]⟩ : ByteArray), .int .i64 0]) ?_ 0 _ rfl; exact BK206.out⟩; have n2_ : Aside0 (Below w.heap.size w (((w44.setCell ⟨gb206, 0, none⟩ (.string ((rd_T61 l0_0 x25_2).f0))).setCell ⟨gb206, 1, none⟩ (.string ((rd_T61 l0_0 x25_2).f1))).setCell ⟨gb206, 2, none⟩ (.int .i64 ((rd_T61 l0_0 x25_2).f2)))) := ⟨qB⟩; (try clear BK204); (try clear BK206); (try clear HB); generalize (((w44.setCell ⟨gb206, 0, none⟩ (.string ((rd_T61 l0_0 x25_2).f0))).setCell ⟨gb206, 1, none⟩ (.string ((rd_T61 l0_0 x25_2).f1))).setCell ⟨gb206, 2, none⟩ (.int .i64 ((rd_T61 l0_0 x25_2).f2))) = w47 at n0_ n1_ n2_ ⊢; have BK204 := n0_; have BK206 := n1_; have HB := n2_; clear n0_ n1_ n2_; replace BK204 := qK (bkD BK204.out); replace BK206 := qK (bkD BK206.out); replace HB := qK (bd1 HB.out); refine qs 33 (fun w' => w'.cell? ⟨gb206, 0, none⟩ = some (.string ((rd_T61 l0_0 x25_2).f0)) ∧ w'.cell? ⟨gb206, 1, none⟩ = some (.string ((rd_T61 l0_0 x25_2).f1)) ∧ w'.cell? ⟨gb206, 2, none⟩ = some (.int .i64 ((rd_T61 l0_0 x25_2).f2))) (ds := []) (qy3 BK206.out) (fun hHeld => ?_); refine with_tabW impl_FsValid.tab7 impl_FsValid.bits7 (fun HT_ HW_ => ?_); generalize w47.drew = w48 at BK204 BK206 HB hHeld ⊢; refine qp 0 30 ?_; refine qt 1 31 ?_; refine qo 2 32 (fun K hK => ?_); refine goes_ Tryz.func40 (by kernel_rfl) rfl #[.string ((rd_T61 l0_0 x25_2).f0)] (by rfl) rfl rfl qA ?_; (with_reducible refine (impl_isFileName.calls ((rd_T61 l0_0 x25_2).f0) true _ A14.out).mono ?_); rintro e w' ⟨rfl, ⟨nd, rfl⟩⟩; refine ⟨_, rfl, ?_⟩; refine hK.out _ _ (qy3 BK206.out) (fun hHeld => ?_); clear hK K; refine norm_ (a' := ?_) ?_ ?_; rotate_left
                          · show Act.put _ (some 32) _ = _; simp only [Act.put, List.setIfInBounds_toArray, List.set_cons_zero, List.set_cons_succ, i64_w, i32_w]; rfl
                          refine qp 3 33 ?_; refine qp 4 34 ?_; refine qp 5 35 ?_; refine qt 6 36 ?_; refine qp 7 37 ?_; refine qp 8 38 ?_; refine qp 9 39 ?_; refine qp 10 40 ?_; refine qp 12 42 ?_; refine qt 11 41 ?_; refine qt 13 43 ?_; refine qp 14 44 ?_; refine qp 15 45 ?_; refine qp 16 46 ?_; refine qp 17 47 ?_; refine qp 18 48 ?_; refine qp 19 49 ?_; refine qp 20 50 ?_; refine qu 21 51 ?_; refine qu 22 52 ?_; refine qu 23 53 ?_; refine qu 24 54 ?_; refine qu 25 55 ?_; refine qu 26 56 ?_; refine qu 27 57 ?_; refine qu 28 58 ?_; refine qu 29 59 ?_; refine qu 30 60 ?_; refine qp 31 61 ?_; refine qp 32 62 ?_; refine done_ (done_of HT_.out (by kernel_rfl)) ?_; obtain ⟨hcz49_0, hcz49_1, hcz49_2⟩ := zC3 BK206.out; obtain ⟨hfz49_0, hfz49_1, hfz49_2⟩ := zF3 BK206.out; (try go_wp2); go_roundg k2
                          case measure => have := HJ1.out; have := HK2.out; omega
                          case rel => exact ⟨(wrap64 (x3_2 + (((rd_T61 l0_0 x25_2).f1).size : Int))), (wrap64 (x25_2 + 1)), qS, qS, H', ⟨by have := HJ1.out; have := HK2.out; omega⟩, ⟨by (with_reducible repeat (first | refine bdN ?_ _ | refine bkD ?_ | refine bkA ?_ _)); exact BK204.out⟩, ⟨qB⟩⟩
                  · replace c15 := Bool.eq_false_iff.mpr c15; subst c15; rw [if_neg qff] at H; obtain rfl := Option.some.inj H; have p205 : 0 ≤ (x25_2 : Int) := of_decide_eq_true qa; have q205 : x25_2 < (l0_0.length : Int) := of_decide_eq_true qa; obtain ⟨ad205, e205, hx205_0, hx205_1, hx205_2⟩ := at_T61 HR0_0.out x25_2 p205 q205; cases e205; replace hx205_0 := (HB.out.cell (World.block_lt_of_cell? w _ hx205_0)).trans hx205_0; replace hx205_1 := (HB.out.cell (World.block_lt_of_cell? w _ hx205_1)).trans hx205_1; replace hx205_2 := (HB.out.cell (World.block_lt_of_cell? w _ hx205_2)).trans hx205_2; replace p205 := eq_true p205; replace q205 := eq_true q205; (try go_wp2_with (first | ((with_reducible refine gds (N := 5) rfl ?_); (try (refine gate_guard (by rfl) ?_; dsimp only)); refine qbx 5 #[.string (⟨#[]⟩ : ByteArray), .string (⟨#[]⟩ : ByteArray), .int .i64 0] 61 ?_; intro gb206 hg w50 hbox hb; have BK206 := qK (hbox); have GW206 := qK ((qW : w.heap.size ≤ gb206)); have GE206 := GW206; replace HB := qHB HB hb; have NB204_206 := qK (qlt BK204 hg); have NB206_204 := qK (qgt BK204 hg); replace BK204 := qbb BK204 hb; clear hb hbox hg; have hnb51 := NB206_204.out; have hnc51 := NB204_206.out; have hz52 := qz3 BK206.out))); have n0_ : Aside0 ((((w50.setCell ⟨gb206, 0, none⟩ (.string ((rd_T61 l0_0 x25_2).f0))).setCell ⟨gb206, 1, none⟩ (.string ((rd_T61 l0_0 x25_2).f1))).setCell ⟨gb206, 2, none⟩ (.int .i64 ((rd_T61 l0_0 x25_2).f2))).heap[gb204]? = some (.cells #[.slice (some ad205) l0_0.length c0_0, .int .i64 a0_1, .int .i64 a0_2, .int .i64 a0_3, .int .i64 a0_4, .bool a0_5] 30 (0, 0))) := ⟨by (with_reducible repeat (first | refine bdN ?_ _ | refine bkD ?_ | refine bkA ?_ _)); refine bfa ?_ NB204_206.out _; refine bfa ?_ NB204_206.out _; refine bfa ?_ NB204_206.out _; exact BK204.out⟩; have n1_ : Aside0 ((((w50.setCell ⟨gb206, 0, none⟩ (.string ((rd_T61 l0_0 x25_2).f0))).setCell ⟨gb206, 1, none⟩ (.string ((rd_T61 l0_0 x25_2).f1))).setCell ⟨gb206, 2, none⟩ (.int .i64 ((rd_T61 l0_0 x25_2).f2))).heap[gb206]? = some (.cells #[.string ((rd_T61 l0_0 x25_2).f0), .string ((rd_T61 l0_0 x25_2).f1), .int .i64 ((rd_T61 l0_0 x25_2).f2)] 61 (0, 0))) := ⟨by (with_reducible repeat (first | refine bdN ?_ _ | refine bkD ?_ | refine bkA ?_ _)); refine bpu (cs := #[.string ((rd_T61 l0_0 x25_2).f0), .string ((rd_T61 l0_0 x25_2).f1), .int .i64 0]) ?_ 2 _ rfl; refine bpu (cs := #[.string ((rd_T61 l0_0 x25_2).f0), .string (⟨#[]⟩ : ByteArray), .int .i64 0]) ?_ 1 _ rfl; refine bpu (cs := #[.string (⟨#[]⟩ : ByteArray), .string (⟨#[]⟩ : ByteArray), .int .i64 0]) ?_ 0 _ rfl; exact BK206.out⟩; have n2_ : Aside0 (Below w.heap.size w (((w50.setCell ⟨gb206, 0, none⟩ (.string ((rd_T61 l0_0 x25_2).f0))).setCell ⟨gb206, 1, none⟩ (.string ((rd_T61 l0_0 x25_2).f1))).setCell ⟨gb206, 2, none⟩ (.int .i64 ((rd_T61 l0_0 x25_2).f2)))) := ⟨qB⟩; (try clear BK204); (try clear BK206); (try clear HB); generalize (((w50.setCell ⟨gb206, 0, none⟩ (.string ((rd_T61 l0_0 x25_2).f0))).setCell ⟨gb206, 1, none⟩ (.string ((rd_T61 l0_0 x25_2).f1))).setCell ⟨gb206, 2, none⟩ (.int .i64 ((rd_T61 l0_0 x25_2).f2))) = w53 at n0_ n1_ n2_ ⊢; have BK204 := n0_; have BK206 := n1_; have HB := n2_; clear n0_ n1_ n2_; replace BK204 := qK (bkD BK204.out); replace BK206 := qK (bkD BK206.out); replace HB := qK (bd1 HB.out); refine qs 33 (fun w' => w'.cell? ⟨gb206, 0, none⟩ = some (.string ((rd_T61 l0_0 x25_2).f0)) ∧ w'.cell? ⟨gb206, 1, none⟩ = some (.string ((rd_T61 l0_0 x25_2).f1)) ∧ w'.cell? ⟨gb206, 2, none⟩ = some (.int .i64 ((rd_T61 l0_0 x25_2).f2))) (ds := []) (qy3 BK206.out) (fun hHeld => ?_); refine with_tabW impl_FsValid.tab7 impl_FsValid.bits7 (fun HT_ HW_ => ?_); generalize w53.drew = w54 at BK204 BK206 HB hHeld ⊢; refine qp 0 30 ?_; refine qt 1 31 ?_; refine qo 2 32 (fun K hK => ?_); refine goes_ Tryz.func40 (by kernel_rfl) rfl #[.string ((rd_T61 l0_0 x25_2).f0)] (by rfl) rfl rfl qA ?_; (with_reducible refine (impl_isFileName.calls ((rd_T61 l0_0 x25_2).f0) false _ A14.out).mono ?_); rintro e w' ⟨rfl, ⟨nd, rfl⟩⟩; refine ⟨_, rfl, ?_⟩; refine hK.out _ _ (qy3 BK206.out) (fun hHeld => ?_); clear hK K; refine norm_ (a' := ?_) ?_ ?_; rotate_left
                    · show Act.put _ (some 32) _ = _; simp only [Act.put, List.setIfInBounds_toArray, List.set_cons_zero, List.set_cons_succ, i64_w, i32_w]; rfl
                    refine qp 3 33 ?_; refine qp 4 34 ?_; refine qu 5 35 ?_; refine qu 6 36 ?_; refine qu 7 37 ?_; refine qp 8 38 ?_; refine qp 9 39 ?_; refine qu 10 40 ?_; refine qu 11 41 ?_; refine qu 12 42 ?_; refine qu 13 43 ?_; refine qu 14 44 ?_; refine qu 15 45 ?_; refine qp 16 46 ?_; refine qp 17 47 ?_; refine qu 18 48 ?_; refine qu 19 49 ?_; refine qu 20 50 ?_; refine qu 21 51 ?_; refine qu 22 52 ?_; refine qu 23 53 ?_; refine qu 24 54 ?_; refine qu 25 55 ?_; refine qu 26 56 ?_; refine qu 27 57 ?_; refine qu 28 58 ?_; refine qu 29 59 ?_; refine qu 30 60 ?_; refine qu 31 61 ?_; refine qp 32 62 ?_; refine done_ (done_of HT_.out (by kernel_rfl)) ?_; (try go_wp2); go_ret; exact ⟨qR, qB⟩
                · rw [if_neg c13] at H; exact absurd H (by simp)
              · rw [if_neg c12] at H; exact absurd H (by simp)
            · rw [if_neg c11] at H; have c11b0 : decide (x25_2 < (l0_0.length : Int)) = false := decide_eq_false c11; clear c11; obtain ⟨y209, hy209⟩ : ∃ y_ : List Int, y_ = (([a0_2, a0_3, a0_4] : List Int)) := ⟨_, rfl⟩; (replace H : (impl_FsValid.l1 k2 x3_2 y209 (y209.length : Int) 0 l0_0 a0_1 a0_2 a0_3 a0_4 a0_5) = some r := by first | (rw [hy209]; with_reducible exact H) | (have H2_ := (Option.bind_some _ _).symm.trans H; rw [hy209]; with_reducible exact H2_) | (have H2_ := (Option.bind_some _ _).symm.trans H; with_reducible exact H2_) | with_reducible exact H | (rw [hy209]; exact H) | exact H); have Ny209 := qK hy209; clear hy209; have H' := qK H; clear H; obtain ⟨hcz55_0, hcz55_1, hcz55_2, hcz55_3, hcz55_4, hcz55_5⟩ := zC6 BK204.out; obtain ⟨hfz55_0, hfz55_1, hfz55_2, hfz55_3, hfz55_4, hfz55_5⟩ := zF6 BK204.out; go_wp2_with (first | ((with_reducible refine gds (N := 75) rfl ?_); (try (refine gate_guard (by rfl) ?_; dsimp only)); refine Kd.R_lit (Kd.int .i64) _ 3 ?hg (N := 75) ?hd (xs := ([a0_2, a0_3, a0_4] : List Int)) (inner := [.int .i64 a0_2, .int .i64 a0_3, .int .i64 a0_4]) (ok := fun _ => True) (okp := fun _ => True) ?hr ?hp (fun _ hk => hk) trivial (Below.refl _ _) (Nat.le_refl _) (by simp) ?_; (case hd => rfl); (case hg => rfl); (case hr => first | (go_simp; done) | (go_simp; rfl)); (case hp => exact (Reps.one (show Kd.M (Kd.int .i64) _ _ _ a0_2 [.int .i64 a0_2] from rfl) (Reps.one (show Kd.M (Kd.int .i64) _ _ _ a0_3 [.int .i64 a0_3] from rfl) (Reps.one (show Kd.M (Kd.int .i64) _ _ _ a0_4 [.int .i64 a0_4] from rfl) (Reps.none _ _))))); intro v210 w56 ho57 hb hg_ hnew_; clear hg_ hnew_; (first | rw [← Ny209.out] at ho57 | (simp only [Int.reduceToNat] at ho57; rw [← Ny209.out] at ho57)); have HO211 := qK (Kd.Rlo ho57 (bsz qB)); replace BK204 := qbb BK204 hb; replace HB := qHB HB hb; clear hb ho57; obtain ⟨Ao58, co58, eo58⟩ := Kd.R_slice HO211.out; subst eo58)); go_loopg [77] k2 (fun kq v77 w' => ∃ (x77_3 : Int), v77 = .int .i64 x77_3 ∧ Aside0 (impl_FsValid.l1 kq x3_2 y209 (y209.length : Int) x77_3 l0_0 a0_1 a0_2 a0_3 a0_4 a0_5 = some r) ∧ Aside0 (kq ≤ k2) ∧ Aside0 (Kd.R (Kd.int .i64) 3 w' w.heap.size (fun _ => True) (.slice Ao58 y209.length co58) y209) ∧ Aside0 (w'.heap[gb204]? = some (.cells #[(.slice A0_0 l0_0.length c0_0), .int .i64 a0_1, .int .i64 a0_2, .int .i64 a0_3, .int .i64 a0_4, .bool a0_5] 30 (0, 0))) ∧ Aside0 (Below w.heap.size w w'))
              case atStart => exact ⟨(0), qS, H', ⟨Nat.le_refl _⟩, ⟨by (with_reducible repeat (first | apply Kd.Ral | apply Kd.RdN | apply Kd.Rdr)); exact HO211.out⟩, ⟨by (with_reducible repeat (first | refine bdN ?_ _ | refine bkD ?_ | refine bkA ?_ _)); exact BK204.out⟩, ⟨qB⟩⟩
              case round =>
                clear H'; (try clear c1); (try clear c2); (try clear p2); (try clear q2); (try clear hx2); (try clear c3); (try clear c4); (try clear c5); (try clear p6); (try clear c11); (try clear c11b0); (try clear c12); (try clear c13); (try clear c15); (try clear p20); (try clear q20); (try clear hx20); (try clear c28); (try clear c28b0); (try clear c30); (try clear c31); (try clear c40); (try clear c45); (try clear c51); (try clear hz46); (try clear hcz49_0); (try clear hcz49_1); (try clear hcz49_2); (try clear hz52); (try clear hcz55_0); (try clear hcz55_1); (try clear hcz55_2); (try clear hcz55_3); (try clear hcz55_4); (try clear hcz55_5); (try clear hfz49_0); (try clear hfz49_1); (try clear hfz49_2); (try clear hfz55_0); (try clear hfz55_1); (try clear hfz55_2); (try clear hfz55_3); (try clear hfz55_4); (try clear hfz55_5); (try clear hx205_0); (try clear hx205_1); (try clear hx205_2); (try clear p205); (try clear q205); obtain ⟨x77_3, rfl, HA, HK3, HO_75, BK204, HB⟩ := hrel
                cases gk with
                | zero => exact absurd HA.out (by simp [impl_FsValid.l1])
                | succ k3 =>
                  have H := HA.out; clear HA; simp only [impl_FsValid.l1] at H; by_cases c59 : x77_3 < (y209.length : Int)
                  · rw [if_pos c59] at H; have c59b0 : decide (x77_3 < (y209.length : Int)) = true := decide_eq_true c59; clear c59; by_cases c60 : 0 ≤ x77_3
                    · rw [if_pos c60] at H; have c60b0 : decide (0 ≤ x77_3) = true := decide_eq_true c60; clear c60; by_cases c61 : x77_3 < (y209.length : Int)
                      · rw [if_pos c61] at H; have c61b0 : decide (x77_3 < (y209.length : Int)) = true := decide_eq_true c61; clear c61; by_cases c62 : (rd y209 x77_3) < 0
                        · rw [if_pos c62] at H; have c62b0 : decide ((rd y209 x77_3) < 0) = true := decide_eq_true c62; clear c62; obtain rfl := Option.some.inj H; have p212 : 0 ≤ (x77_3 : Int) := of_decide_eq_true qa; have q212 : x77_3 < (y209.length : Int) := of_decide_eq_true qa; obtain ⟨ad212, e212, hx212_0⟩ := Kd.at_int (Kd.R_reads' HO_75.out).2.2 x77_3 p212 q212; cases e212; replace p212 := eq_true p212; replace q212 := eq_true q212; go_wp2; go_ret; exact ⟨qR, qB⟩
                        · rw [if_neg c62] at H; have c62b0 : decide ((rd y209 x77_3) < 0) = false := decide_eq_false c62; clear c62; by_cases c63 : (rd y209 x77_3) > 1000000000000000
                          · rw [if_pos c63] at H; have c63b0 : decide (1000000000000000 < (rd y209 x77_3)) = true := decide_eq_true c63; clear c63; obtain rfl := Option.some.inj H; have p212 : 0 ≤ (x77_3 : Int) := of_decide_eq_true qa; have q212 : x77_3 < (y209.length : Int) := of_decide_eq_true qa; obtain ⟨ad212, e212, hx212_0⟩ := Kd.at_int (Kd.R_reads' HO_75.out).2.2 x77_3 p212 q212; cases e212; replace p212 := eq_true p212; replace q212 := eq_true q212; go_wp2; go_ret; exact ⟨qR, qB⟩
                          · rw [if_neg c63] at H; have c63b0 : decide (1000000000000000 < (rd y209 x77_3)) = false := decide_eq_false c63; clear c63; have H' := qK H; clear H; have p212 : 0 ≤ (x77_3 : Int) := of_decide_eq_true qa; have q212 : x77_3 < (y209.length : Int) := of_decide_eq_true qa; obtain ⟨ad212, e212, hx212_0⟩ := Kd.at_int (Kd.R_reads' HO_75.out).2.2 x77_3 p212 q212; cases e212; replace p212 := eq_true p212; replace q212 := eq_true q212; go_wp2; go_roundg k3
                            case measure => have := HJ1.out; have := HK2.out; have := HK3.out; omega
                            case rel => exact ⟨(wrap64 (x77_3 + 1)), qS, H', ⟨by have := HJ1.out; have := HK2.out; have := HK3.out; omega⟩, ⟨by (with_reducible repeat (first | apply Kd.Ral | apply Kd.RdN | apply Kd.Rdr)); exact HO_75.out⟩, ⟨by (with_reducible repeat (first | refine bdN ?_ _ | refine bkD ?_ | refine bkA ?_ _)); exact BK204.out⟩, ⟨qB⟩⟩
                      · rw [if_neg c61] at H; exact absurd H (by simp)
                    · rw [if_neg c60] at H; exact absurd H (by simp)
                  · rw [if_neg c59] at H; have c59b0 : decide (x77_3 < (y209.length : Int)) = false := decide_eq_false c59; clear c59; obtain rfl := Option.some.inj H; obtain ⟨hcz64_0, hcz64_1, hcz64_2, hcz64_3, hcz64_4, hcz64_5⟩ := zC6 BK204.out; obtain ⟨hfz64_0, hfz64_1, hfz64_2, hfz64_3, hfz64_4, hfz64_5⟩ := zF6 BK204.out; go_wp2; go_ret; exact ⟨qR, qB⟩
end Go.Proofs.YtfknmohedlfmfaaGreatDoor.L
end
section
namespace Go.Proofs.YtfknmohedlfmfaaGreatDoor.L
open Go.RowKit Go.Proofs.YtfknmohedlfmfaaGreatDoorW.PrintWords Go.Proofs.YtfknmohedlfmfaaGreatDoorW.PrintLast Go.Proofs.YtfknmohedlfmfaaGreatDoorW.PrintMore
attribute [local go_sem] max2_int min2_int max_two min_two max_three min_three max_four min_four
set_option linter.unusedVariables false
set_option linter.unusedSimpArgs false
/-- A state of type 76 at block g of W; what its slices lead to came in by w0. -/
def IsS76 (w0 W : World) (g : Nat) (f0 : Int) (f1 : Int) (f2 : Int) (f3 : Bool) (f4 : List (S61)) (f5 : Int) : Prop := ∃ A4 c4, W.heap[g]? = some (.cells #[.int .i64 f0, .int .i64 f1, .int .i64 f2, .bool f3, .slice A4 f4.length c4, .int .i64 f5] 76 (0, 0)) ∧ w0.heap.size ≤ g ∧ Kd.C k61 w0 A4 f4.length f4
theorem IsS76.grown {w0 W : World} {g : Nat} {f0 : Int} {f1 : Int} {f2 : Int} {f3 : Bool} {f4 : List (S61)} {f5 : Int} {W1 : World} {row : Option Nat} (h : IsS76 w0 W g f0 f1 f2 f3 f4 f5) (hw : W.grownBy W1 row) (hne : some g ≠ row) : IsS76 w0 W1 g f0 f1 f2 f3 f4 f5 := by
  obtain ⟨A4, c4, hb, hg, hr4⟩ := h
  exact ⟨A4, c4, bgr hb hw hne, hg, hr4⟩
theorem IsS76.kept {w0 W : World} {g : Nat} {f0 : Int} {f1 : Int} {f2 : Int} {f3 : Bool} {f4 : List (S61)} {f5 : Int} {W1 : World} {S : Nat → Prop} (h : IsS76 w0 W g f0 f1 f2 f3 f4 f5) (hk : Kept W W1 S) (hne : ¬ S g) : IsS76 w0 W1 g f0 f1 f2 f3 f4 f5 := by
  obtain ⟨A4, c4, hb, hg, hr4⟩ := h
  exact ⟨A4, c4, blk_kept hb hk hne, hg, hr4⟩
theorem IsS76.below {w0 W : World} {g : Nat} {f0 : Int} {f1 : Int} {f2 : Int} {f3 : Bool} {f4 : List (S61)} {f5 : Int} {W1 : World} (h : IsS76 w0 W g f0 f1 f2 f3 f4 f5) (hw : Below W.heap.size W W1) : IsS76 w0 W1 g f0 f1 f2 f3 f4 f5 := h.grown (grown_of_below hw none) (by simp)
theorem IsS76.alloc {w0 W : World} {g : Nat} {f0 : Int} {f1 : Int} {f2 : Int} {f3 : Bool} {f4 : List (S61)} {f5 : Int} (h : IsS76 w0 W g f0 f1 f2 f3 f4 f5) (o : Obj) : IsS76 w0 (W.alloc o) g f0 f1 f2 f3 f4 f5 := h.below (bal (Below.refl _ _) o)
theorem IsS76.drewN {w0 W : World} {g : Nat} {f0 : Int} {f1 : Int} {f2 : Int} {f3 : Bool} {f4 : List (S61)} {f5 : Int} (h : IsS76 w0 W g f0 f1 f2 f3 f4 f5) (m : Nat) : IsS76 w0 (W.drewN m) g f0 f1 f2 f3 f4 f5 := h
theorem IsS76.drew {w0 W : World} {g : Nat} {f0 : Int} {f1 : Int} {f2 : Int} {f3 : Bool} {f4 : List (S61)} {f5 : Int} (h : IsS76 w0 W g f0 f1 f2 f3 f4 f5) : IsS76 w0 W.drew g f0 f1 f2 f3 f4 f5 := h
theorem IsS76.at_ {w0 W : World} {g : Nat} {f0 : Int} {f1 : Int} {f2 : Int} {f3 : Bool} {f4 : List (S61)} {f5 : Int} {w' : World} {m : Nat} (hq : W.drewN m = w') (h : IsS76 w0 W g f0 f1 f2 f3 f4 f5) : IsS76 w0 w' g f0 f1 f2 f3 f4 f5 := by subst hq; exact IsS76.drewN h m
theorem IsS76.apart {w0 W : World} {g : Nat} {f0 : Int} {f1 : Int} {f2 : Int} {f3 : Bool} {f4 : List (S61)} {f5 : Int} {α : Type} {d : Kd α} {e : Nat} {base : Nat} {ok : Nat → Prop} {v : Value} {xs : List α} (h : IsS76 w0 W g f0 f1 f2 f3 f4 f5) (ho : d.R e W base ok v xs) (ht : ∀ q, q ∈ e :: d.E → q ≠ 76) : d.R e W base (fun k => ok k ∧ k ≠ g) v xs := by
  obtain ⟨A4, c4, hb, hg, hr4⟩ := h
  exact Kd.Rty ho hb ht
theorem IsS76.own_ne {w0 W : World} {g : Nat} {f0 : Int} {f1 : Int} {f2 : Int} {f3 : Bool} {f4 : List (S61)} {f5 : Int} {α : Type} {d : Kd α} {e : Nat} {base : Nat} {ok : Nat → Prop} {v : Value} {xs : List α} (h : IsS76 w0 W g f0 f1 f2 f3 f4 f5) (ho : d.R e W base ok v xs) (ht : e ≠ 76) : some g ≠ v.ownBlock := by
  obtain ⟨A4, c4, hb, hg, hr4⟩ := h
  exact Kd.R_ne ho hb ht
/-- A state of type 61 at block g of W; what its slices lead to came in by w0. -/
def IsS61 (w0 W : World) (g : Nat) (f0 : ByteArray) (f1 : ByteArray) (f2 : Int) : Prop := W.heap[g]? = some (.cells #[.string f0, .string f1, .int .i64 f2] 61 (0, 0)) ∧ w0.heap.size ≤ g
theorem IsS61.grown {w0 W : World} {g : Nat} {f0 : ByteArray} {f1 : ByteArray} {f2 : Int} {W1 : World} {row : Option Nat} (h : IsS61 w0 W g f0 f1 f2) (hw : W.grownBy W1 row) (hne : some g ≠ row) : IsS61 w0 W1 g f0 f1 f2 := by
  obtain ⟨hb, hg⟩ := h
  exact ⟨bgr hb hw hne, hg⟩
theorem IsS61.kept {w0 W : World} {g : Nat} {f0 : ByteArray} {f1 : ByteArray} {f2 : Int} {W1 : World} {S : Nat → Prop} (h : IsS61 w0 W g f0 f1 f2) (hk : Kept W W1 S) (hne : ¬ S g) : IsS61 w0 W1 g f0 f1 f2 := by
  obtain ⟨hb, hg⟩ := h
  exact ⟨blk_kept hb hk hne, hg⟩
theorem IsS61.below {w0 W : World} {g : Nat} {f0 : ByteArray} {f1 : ByteArray} {f2 : Int} {W1 : World} (h : IsS61 w0 W g f0 f1 f2) (hw : Below W.heap.size W W1) : IsS61 w0 W1 g f0 f1 f2 := h.grown (grown_of_below hw none) (by simp)
theorem IsS61.alloc {w0 W : World} {g : Nat} {f0 : ByteArray} {f1 : ByteArray} {f2 : Int} (h : IsS61 w0 W g f0 f1 f2) (o : Obj) : IsS61 w0 (W.alloc o) g f0 f1 f2 := h.below (bal (Below.refl _ _) o)
theorem IsS61.drewN {w0 W : World} {g : Nat} {f0 : ByteArray} {f1 : ByteArray} {f2 : Int} (h : IsS61 w0 W g f0 f1 f2) (m : Nat) : IsS61 w0 (W.drewN m) g f0 f1 f2 := h
theorem IsS61.drew {w0 W : World} {g : Nat} {f0 : ByteArray} {f1 : ByteArray} {f2 : Int} (h : IsS61 w0 W g f0 f1 f2) : IsS61 w0 W.drew g f0 f1 f2 := h
theorem IsS61.at_ {w0 W : World} {g : Nat} {f0 : ByteArray} {f1 : ByteArray} {f2 : Int} {w' : World} {m : Nat} (hq : W.drewN m = w') (h : IsS61 w0 W g f0 f1 f2) : IsS61 w0 w' g f0 f1 f2 := by subst hq; exact IsS61.drewN h m
theorem IsS61.apart {w0 W : World} {g : Nat} {f0 : ByteArray} {f1 : ByteArray} {f2 : Int} {α : Type} {d : Kd α} {e : Nat} {base : Nat} {ok : Nat → Prop} {v : Value} {xs : List α} (h : IsS61 w0 W g f0 f1 f2) (ho : d.R e W base ok v xs) (ht : ∀ q, q ∈ e :: d.E → q ≠ 61) : d.R e W base (fun k => ok k ∧ k ≠ g) v xs := by
  obtain ⟨hb, hg⟩ := h
  exact Kd.Rty ho hb ht
theorem IsS61.own_ne {w0 W : World} {g : Nat} {f0 : ByteArray} {f1 : ByteArray} {f2 : Int} {α : Type} {d : Kd α} {e : Nat} {base : Nat} {ok : Nat → Prop} {v : Value} {xs : List α} (h : IsS61 w0 W g f0 f1 f2) (ho : d.R e W base ok v xs) (ht : e ≠ 61) : some g ≠ v.ownBlock := by
  obtain ⟨hb, hg⟩ := h
  exact Kd.R_ne ho hb ht
def impl_FsStep.f (k : Nat) (l0_0 : List (S61)) (a0_1 : Int) (a0_2 : Int) (a0_3 : Int) (a0_4 : Int) (a0_5 : Bool) (a1_0 : Int) (a1_1 : ByteArray) (a1_2 : ByteArray) (a1_3 : Int) : Option ((List (S61)) × Int × Int × Int × Int × Bool × Int) :=
  (impl_FsValid.f k l0_0 a0_1 a0_2 a0_3 a0_4 a0_5).bind fun t1 => if t1 = true then
    (if 1 ≤ a1_0 ∧ a1_0 ≤ 5 then
      (impl_isFileName.f a1_1).bind fun t2 => if t2 = true then
        (if stepOk l0_0 a0_1 a0_2 a1_2 = true then some ((stepN l0_0 a0_1 a0_2 a0_3 a0_4 a0_5 a1_0 a1_1 a1_2 a1_3).1, a0_1, (stepN l0_0 a0_1 a0_2 a0_3 a0_4 a0_5 a1_0 a1_1 a1_2 a1_3).2.1, a0_3, a0_4, (stepN l0_0 a0_1 a0_2 a0_3 a0_4 a0_5 a1_0 a1_1 a1_2 a1_3).2.2.1, (stepN l0_0 a0_1 a0_2 a0_3 a0_4 a0_5 a1_0 a1_1 a1_2 a1_3).2.2.2)
         else none)
      else some (([] : List (S61)), 0, 0, 0, 0, false, 16)
     else some (([] : List (S61)), 0, 0, 0, 0, false, 16))
  else some (([] : List (S61)), 0, 0, 0, 0, false, 16)
theorem impl_FsStep.mono : ∀ a0 a1 a2 a3 a4 a5 a6 a7 a8 a9 k, LeO (impl_FsStep.f k a0 a1 a2 a3 a4 a5 a6 a7 a8 a9) (impl_FsStep.f (k + 1) a0 a1 a2 a3 a4 a5 a6 a7 a8 a9) := by
  intro a0 a1 a2 a3 a4 a5 a6 a7 a8 a9 k
  exact LeO.bind (impl_FsValid.mono _ _ _ _ _ _ _) (fun _ => LeO.refl _)
theorem impl_FsStep.calls (k : Nat) (A0_0 : Option Addr) (c0_0 : Nat) (l0_0 : List (S61)) (a0_1 : Int) (a0_2 : Int) (a0_3 : Int) (a0_4 : Int) (a0_5 : Bool) (a1_0 : Int) (a1_1 : ByteArray) (a1_2 : ByteArray) (a1_3 : Int) (r1 : List (S61)) (r2 : Int) (r3 : Int) (r4 : Int) (r5 : Int) (r6 : Bool) (r7 : Int) (w : World) (hr0_0 : Kd.C k61 w A0_0 l0_0.length l0_0) (hc0_0 : l0_0.length ≤ c0_0) (h : impl_FsStep.f k l0_0 a0_1 a0_2 a0_3 a0_4 a0_5 a1_0 a1_1 a1_2 a1_3 = some (r1, r2, r3, r4, r5, r6, r7)) :
    Calls Tryz.prog 23 #[.agg #[.slice A0_0 l0_0.length c0_0, .int .i64 a0_1, .int .i64 a0_2, .int .i64 a0_3, .int .i64 a0_4, .bool a0_5], .agg #[.int .i64 a1_0, .string a1_1, .string a1_2, .int .i64 a1_3]] w fun e w' => ∃ v0_ : Value, e = .returned (.tuple #[.agg #[v0_, .int .i64 r2, .int .i64 r3, .int .i64 r4, .int .i64 r5, .bool r6], .int .i64 r7]) ∧ Kd.R k61 61 w' w.heap.size (fun _ => True) v0_ r1 ∧ Below w.heap.size w w' := by
  unfold impl_FsStep.f at h
  replace h := Option.bind_eq_some_iff.mp h
  obtain ⟨t1, ht1, h⟩ := h
  have hval := fun w' hr => impl_FsValid.calls k A0_0 c0_0 l0_0 a0_1 a0_2 a0_3 a0_4 a0_5 t1 w' hr hc0_0 ht1
  cases t1 with
  | false =>
    simp only [Bool.false_eq_true, if_false, Option.some.injEq, Prod.mk.injEq] at h
    obtain ⟨rfl, rfl, rfl, rfl, rfl, rfl, rfl⟩ := h
    exact (step_bad A0_0 c0_0 l0_0 a0_1 a0_2 a0_3 a0_4 a0_5 a1_0 a1_1 a1_2 a1_3 w hr0_0 false false hval (fun h => by cases h) (fun h => by cases h)).mono fun e w' hp => ⟨_, hp.1, Kd.R_nil _ _ _ _ _, hp.2⟩
  | true =>
    simp only [if_true] at h
    by_cases hk : 1 ≤ a1_0 ∧ a1_0 ≤ 5
    · rw [if_pos hk] at h
      replace h := Option.bind_eq_some_iff.mp h
      obtain ⟨t2, ht2, h⟩ := h
      have hname := fun w' => impl_isFileName.calls a1_1 t2 w' ht2
      cases t2 with
      | false =>
        simp only [Bool.false_eq_true, if_false, Option.some.injEq, Prod.mk.injEq] at h
        obtain ⟨rfl, rfl, rfl, rfl, rfl, rfl, rfl⟩ := h
        exact (step_bad A0_0 c0_0 l0_0 a0_1 a0_2 a0_3 a0_4 a0_5 a1_0 a1_1 a1_2 a1_3 w hr0_0 true false hval (fun _ _ => hname) (fun _ _ => rfl)).mono fun e w' hp => ⟨_, hp.1, Kd.R_nil _ _ _ _ _, hp.2⟩
      | true =>
        simp only [if_true] at h
        by_cases hok : stepOk l0_0 a0_1 a0_2 a1_2 = true
        · rw [if_pos hok] at h
          simp only [Option.some.injEq, Prod.mk.injEq] at h
          obtain ⟨rfl, rfl, rfl, rfl, rfl, rfl, rfl⟩ := h
          exact step_any A0_0 c0_0 l0_0 a0_1 a0_2 a0_3 a0_4 a0_5 a1_0 a1_1 a1_2 a1_3 w hr0_0 hc0_0 hok hk hval hname _ _ _ _ rfl
        · rw [if_neg hok] at h
          cases h
    · rw [if_neg hk] at h
      simp only [Option.some.injEq, Prod.mk.injEq] at h
      obtain ⟨rfl, rfl, rfl, rfl, rfl, rfl, rfl⟩ := h
      exact (step_bad A0_0 c0_0 l0_0 a0_1 a0_2 a0_3 a0_4 a0_5 a1_0 a1_1 a1_2 a1_3 w hr0_0 true true hval (fun _ h => absurd h hk) (fun _ h => absurd h hk)).mono fun e w' hp => ⟨_, hp.1, Kd.R_nil _ _ _ _ _, hp.2⟩
end Go.Proofs.YtfknmohedlfmfaaGreatDoor.L
end
section
set_option linter.unusedVariables false
namespace Go.Proofs.YtfknmohedlfmfaaGreatDoor.L
open Go Go.RowKit Go.Proofs.YtfknmohedlfmfaaGreatDoor
def shF : Nat → Nat
  | 99 => 64
  | 105 => 43
  | 129 => 98
  | 165 => 65
  | 166 => 66
  | 169 => 68
  | 170 => 67
  | 171 => 42
  | 206 => 74
  | 212 => 63
  | 240 => 75
  | 241 => 76
  | 243 => 62
  | 246 => 71
  | 263 => 72
  | 264 => 73
  | 276 => 86
  | 277 => 87
  | 283 => 82
  | 284 => 83
  | 285 => 84
  | 286 => 85
  | 317 => 107
  | 318 => 108
  | 319 => 109
  | 320 => 110
  | 337 => 116
  | 338 => 117
  | _ => 0
def shT : Nat → Nat
  | 0 => 0
  | 2 => 2
  | 3 => 3
  | 4 => 4
  | 5 => 5
  | 9 => 9
  | 20 => 20
  | 37 => 60
  | 46 => 68
  | 51 => 77
  | 53 => 104
  | 70 => 89
  | 72 => 91
  | 75 => 94
  | 76 => 95
  | 80 => 97
  | 109 => 86
  | 127 => 107
  | 146 => 102
  | 148 => 105
  | 164 => 108
  | 171 => 119
  | 173 => 122
  | 212 => 139
  | 213 => 140
  | 232 => 151
  | 233 => 152
  | _ => 0
def shG : Nat → Nat
  | 17 => 0
  | 18 => 2
  | 19 => 3
  | _ => 0
noncomputable def shRen : Go.Shelf.Ren := ⟨shF, shT, shG⟩
set_option maxRecDepth 100000 in
theorem shItoa : LaysM.n171 Tryz.prog shRen := by
  constructor <;> first | kernel_rfl | (intro w; kernel_rfl) | (constructor <;> first | kernel_rfl | (intro w; kernel_rfl))
set_option maxRecDepth 100000 in
theorem shRepeat : Lays.n105 Tryz.prog shRen := by
  constructor <;> first | kernel_rfl | (intro w; kernel_rfl)
set_option maxRecDepth 100000 in
theorem shExtra : Builder.Extra Tryz.prog shRen := by
  constructor <;> first | kernel_rfl | (intro w; kernel_rfl) | decide | (constructor <;> first | kernel_rfl | (intro w; kernel_rfl))
end Go.Proofs.YtfknmohedlfmfaaGreatDoor.L
end
section
set_option linter.unusedVariables false
set_option linter.unusedSimpArgs false
namespace Go.Proofs.YtfknmohedlfmfaaGreatDoor.L
open Go Go.RowKit Go.Proofs Go.Proofs.YtfknmohedlfmfaaGreatDoor Go.Proofs.YtfknmohedlfmfaaGreatDoorW.PrintWords Go.Proofs.YtfknmohedlfmfaaGreatDoorW.PrintLast Go.Proofs.YtfknmohedlfmfaaGreatDoorW.PrintMore
/-- The digits of a number below 10000. -/
def segL (n : Nat) : List UInt8 := [UInt8.ofNat (48 + n / 1000), UInt8.ofNat (48 + n / 100 % 10), UInt8.ofNat (48 + n / 10 % 10), UInt8.ofNat (48 + n % 10)]
def segB (n : Nat) : ByteArray := ⟨([115, 101, 103, 45] ++ segL n : List UInt8).toArray⟩
theorem dec1 {n : Nat} (h : n < 10) : Lib.decDigits n = [UInt8.ofNat (48 + n)] := Lib.decDigits_one h
theorem decS {n : Nat} (h : ¬ n < 10) : Lib.decDigits n = Lib.decDigits (n / 10) ++ [UInt8.ofNat (48 + n % 10)] := by rw [Lib.decDigits, dif_neg h]
theorem dec_len {n : Nat} (h : n < 10000) : 1 ≤ (Lib.decDigits n).length ∧ (Lib.decDigits n).length ≤ 4 ∧ Lib.repeatL [48] (4 - (Lib.decDigits n).length) ++ Lib.decDigits n = segL n := by
  by_cases h1 : n < 10
  · rw [dec1 h1]
    refine ⟨by simp, by simp, ?_⟩
    simp only [List.length_singleton, Lib.repeatL, segL]
    rw [show n / 1000 = 0 by omega, show n / 100 % 10 = 0 by omega, show n / 10 % 10 = 0 by omega, show n % 10 = n by omega]
    rfl
  · by_cases h2 : n < 100
    · rw [decS h1, dec1 (by omega)]
      refine ⟨by simp, by simp, ?_⟩
      simp only [List.length_append, List.length_singleton, Lib.repeatL, segL]
      rw [show n / 1000 = 0 by omega, show n / 100 % 10 = 0 by omega, show n / 10 % 10 = n / 10 by omega]
      rfl
    · by_cases h3 : n < 1000
      · rw [decS h1, decS (n := n / 10) (by omega), dec1 (n := n / 10 / 10) (by omega)]
        refine ⟨by simp, by simp, ?_⟩
        simp only [List.length_append, List.length_singleton, Lib.repeatL, segL]
        rw [show n / 1000 = 0 by omega, show n / 100 % 10 = n / 10 / 10 by omega]
        rfl
      · rw [decS h1, decS (n := n / 10) (by omega), decS (n := n / 10 / 10) (by omega), dec1 (n := n / 10 / 10 / 10) (by omega)]
        refine ⟨by simp, by simp, ?_⟩
        simp only [List.length_append, List.length_singleton, Lib.repeatL, segL]
        rw [show n / 1000 = n / 10 / 10 / 10 by omega, show n / 100 % 10 = n / 10 / 10 % 10 by omega]
        rfl
theorem itoa_seg (n : Nat) (w : World) (hG : GOK w) (h : n < 10000) : Calls Tryz.prog 42 #[.int .i64 (n : Int)] w fun e w' => e = .returned (.string ⟨(Lib.decDigits n).toArray⟩) ∧ Below w.heap.size w w' := by
  refine (Any.strconv_Itoa shItoa (n : Int) (by omega) (by omega) w hG).mono ?_
  rintro e w' ⟨rfl, k, os, rfl⟩
  refine ⟨by rw [Lib.itoa_nonneg], ?_⟩
  exact ⟨rfl, rfl, rfl, by simp [Sort.grow, World.drewN], fun k hk => by simp only [Sort.grow, World.drewN]; exact Array.getElem?_append_left hk⟩
theorem repeat_seg (c : Nat) (w : World) (h : c ≤ 4) : Calls Tryz.prog 43 #[.string ⟨#[48]⟩, .int .i64 (c : Int)] w fun e w' => e = .returned (.string ⟨(Lib.repeatL [48] c).toArray⟩) ∧ Below w.heap.size w w' :=
  Any.strings_Repeat shRepeat shExtra ⟨#[48]⟩ c w (by omega) (by show 1 * c ≤ _; omega)
set_option maxHeartbeats 4000000 in
set_option maxRecDepth 100000 in
theorem segment_any (n : Nat) (w : World) (hG : GOK w) (h : n < 10000) : Calls Tryz.prog 24 #[.int .i64 (n : Int)] w fun e w' => e = .returned (.string (segB n)) ∧ Below w.heap.size w w' := by
  obtain ⟨d1, d2, d3⟩ := dec_len h
  obtain ⟨D, hD⟩ : ∃ D, Lib.decDigits n = D := ⟨_, rfl⟩
  have hi := fun w' hG => itoa_seg n w' hG h
  simp only [hD] at hi
  have HI := Aside0.mk hi
  rw [hD] at d1 d2 d3
  have H3 := Aside0.mk d3
  have hs : (⟨D.toArray⟩ : ByteArray).size = D.length := by simp [ByteArray.size]
  have hr := fun w' => repeat_seg (4 - D.length) w' (by omega)
  simp only [show ((4 - D.length : Nat) : Int) = 4 - (D.length : Int) by omega] at hr
  have HR := Aside0.mk hr
  have HG := Aside0.mk hG
  obtain ⟨R, hRR⟩ : ∃ R, Lib.repeatL [48] (4 - D.length) = R := ⟨_, rfl⟩
  rw [hRR] at H3
  simp only [hRR] at HR
  have hRl : R.length ≤ 4 := by rw [← hRR, Lib.repeatL_length]; simp only [List.length_singleton]; omega
  have hRs : (⟨R.toArray⟩ : ByteArray).size = R.length := by simp [ByteArray.size]
  have e1 : (9223372036854775807 < 4 + R.length) = False := eq_false (by omega)
  have e2 : (9223372036854775807 < 4 + R.length + D.length) = False := eq_false (by omega)
  clear d3 hG h hD hi hr hRR
  go_enter Tryz.func24, Tryz.ntmps24
  clear hRl
  go_wp2_with (first | (go_at_call 42; (with_reducible refine (HI.out _ HG.out).mono ?_); rintro e w1 ⟨rfl, hb⟩; have HB := Aside0.mk hb; clear hb) | (go_at_call 43; (with_reducible refine (HR.out _).mono ?_); rintro e w2 ⟨rfl, hb⟩; have HB2 := Aside0.mk (bst HB.out hb); clear hb))
  go_ret
  refine ⟨?_, HB2.out⟩
  rw [segB, ← H3.out]
  congr 2
end Go.Proofs.YtfknmohedlfmfaaGreatDoor.L
end
section
set_option linter.unusedVariables false
set_option linter.unusedSimpArgs false
namespace Go.Proofs.YtfknmohedlfmfaaGreatDoor.L
open Go Go.RowKit Go.Proofs Go.Proofs.YtfknmohedlfmfaaGreatDoor Go.Proofs.YtfknmohedlfmfaaGreatDoorW.PrintWords Go.Proofs.YtfknmohedlfmfaaGreatDoorW.PrintLast Go.Proofs.YtfknmohedlfmfaaGreatDoorW.PrintMore
set_option maxHeartbeats 8000000 in
set_option maxRecDepth 100000 in
theorem implAp_bad (A : Option Addr) (c : Nat) (l : List FileT) (cap cnt cr fa : Int) (dn : Bool) (last size : Int) (entry : ByteArray) (most : Int) (w : World) (hr : Kd.C FileK w A l.length l) (hc : l.length ≤ c) (hb5 : l.length ≤ 2000000)
    (hcopy : ∀ A c l cap cnt cr fa dn w', Kd.C FileK w' A l.length l → l.length ≤ c → l.length ≤ 2000000 → Calls Tryz.prog 20 #[.agg #[.slice A l.length c, .int .i64 cap, .int .i64 cnt, .int .i64 cr, .int .i64 fa, .bool dn]] w' fun e w'' => ∃ v0_ : Value, e = .returned (.agg #[v0_, .int .i64 cap, .int .i64 cnt, .int .i64 cr, .int .i64 fa, .bool dn]) ∧ Kd.R FileK 61 w'' w'.heap.size (fun _ => True) v0_ l ∧ Below w'.heap.size w' w'')
    (hbad : entry.size < 1 ∨ 60000 < entry.size ∨ last < 1 ∨ 9999 < last ∨ size < 0 ∨ 1000000000 < size ∨ most < 1 ∨ 1000000000 < most) :
    Calls Tryz.prog 8 #[.agg #[.slice A l.length c, .int .i64 cap, .int .i64 cnt, .int .i64 cr, .int .i64 fa, .bool dn], .agg #[.int .i64 last, .int .i64 size], .string entry, .int .i64 most] w fun e w' => ∃ v0_ : Value, e = .returned (.tuple #[.agg #[v0_, .int .i64 cap, .int .i64 cnt, .int .i64 cr, .int .i64 fa, .bool dn], .agg #[.int .i64 last, .int .i64 size], .int .i64 22]) ∧ Kd.R FileK 61 w' w.heap.size (fun _ => True) v0_ l ∧ Below w.heap.size w w' := by
  have HR := Aside0.mk hr
  have HC := Aside0.mk hc
  have HCP := Aside0.mk hcopy
  have HB5 := Aside0.mk hb5
  clear hr hc hcopy hb5
  have key : (decide ((entry.size : Int) < 1) = true) ∨ (decide ((entry.size : Int) < 1) = false ∧ decide (60000 < (entry.size : Int)) = true) ∨ (decide ((entry.size : Int) < 1) = false ∧ decide (60000 < (entry.size : Int)) = false ∧ decide (last < 1) = true) ∨ (decide ((entry.size : Int) < 1) = false ∧ decide (60000 < (entry.size : Int)) = false ∧ decide (last < 1) = false ∧ decide (9999 < last) = true) ∨ (decide ((entry.size : Int) < 1) = false ∧ decide (60000 < (entry.size : Int)) = false ∧ decide (last < 1) = false ∧ decide (9999 < last) = false ∧ decide (size < 0) = true) ∨ (decide ((entry.size : Int) < 1) = false ∧ decide (60000 < (entry.size : Int)) = false ∧ decide (last < 1) = false ∧ decide (9999 < last) = false ∧ decide (size < 0) = false ∧ decide (1000000000 < size) = true) ∨ (decide ((entry.size : Int) < 1) = false ∧ decide (60000 < (entry.size : Int)) = false ∧ decide (last < 1) = false ∧ decide (9999 < last) = false ∧ decide (size < 0) = false ∧ decide (1000000000 < size) = false ∧ decide (most < 1) = true) ∨ (decide ((entry.size : Int) < 1) = false ∧ decide (60000 < (entry.size : Int)) = false ∧ decide (last < 1) = false ∧ decide (9999 < last) = false ∧ decide (size < 0) = false ∧ decide (1000000000 < size) = false ∧ decide (most < 1) = false ∧ decide (1000000000 < most) = true) := by
    by_cases h0 : (entry.size : Int) < 1
    · exact .inl (decide_eq_true h0)
    · by_cases h1 : 60000 < (entry.size : Int)
      · exact .inr (.inl ⟨decide_eq_false h0, decide_eq_true h1⟩)
      · by_cases h2 : last < 1
        · exact .inr (.inr (.inl ⟨decide_eq_false h0, decide_eq_false h1, decide_eq_true h2⟩))
        · by_cases h3 : 9999 < last
          · exact .inr (.inr (.inr (.inl ⟨decide_eq_false h0, decide_eq_false h1, decide_eq_false h2, decide_eq_true h3⟩)))
          · by_cases h4 : size < 0
            · exact .inr (.inr (.inr (.inr (.inl ⟨decide_eq_false h0, decide_eq_false h1, decide_eq_false h2, decide_eq_false h3, decide_eq_true h4⟩))))
            · by_cases h5 : 1000000000 < size
              · exact .inr (.inr (.inr (.inr (.inr (.inl ⟨decide_eq_false h0, decide_eq_false h1, decide_eq_false h2, decide_eq_false h3, decide_eq_false h4, decide_eq_true h5⟩)))))
              · by_cases h6 : most < 1
                · exact .inr (.inr (.inr (.inr (.inr (.inr (.inl ⟨decide_eq_false h0, decide_eq_false h1, decide_eq_false h2, decide_eq_false h3, decide_eq_false h4, decide_eq_false h5, decide_eq_true h6⟩))))))
                · by_cases h7 : 1000000000 < most
                  · exact .inr (.inr (.inr (.inr (.inr (.inr (.inr (⟨decide_eq_false h0, decide_eq_false h1, decide_eq_false h2, decide_eq_false h3, decide_eq_false h4, decide_eq_false h5, decide_eq_false h6, decide_eq_true h7⟩)))))))
                  · exact absurd hbad (by omega)
  clear hbad
  rcases key with k0 | ⟨k0, k1⟩ | ⟨k0, k1, k2⟩ | ⟨k0, k1, k2, k3⟩ | ⟨k0, k1, k2, k3, k4⟩ | ⟨k0, k1, k2, k3, k4, k5⟩ | ⟨k0, k1, k2, k3, k4, k5, k6⟩ | ⟨k0, k1, k2, k3, k4, k5, k6, k7⟩
  all_goals
    go_enter Tryz.func8, Tryz.ntmps8
    go_upto_region 2 with (first | ((with_reducible refine gds (N := 4) rfl ?_); refine qbx 4 #[.slice A l.length c, .int .i64 cap, .int .i64 cnt, .int .i64 cr, .int .i64 fa, .bool dn] 30 ?_; intro gf hg w1 hbox hb; have HB1 := Aside0.mk hb; have HF1 := Aside0.mk hbox; have HG1 := Aside0.mk (Nat.le_of_eq hg.symm : w.heap.size ≤ gf); clear hb hbox hg) | ((with_reducible refine gds (N := 5) rfl ?_); refine qbx 5 #[.int .i64 last, .int .i64 size] 31 ?_; intro gl hg w2 hbox hb; have HF2 := Aside0.mk (bbe HF1.out hb); have HL2 := Aside0.mk hbox; have HB2 := Aside0.mk (bst HB1.out hb); have HG2 := Aside0.mk (hg ▸ blt HF1.out : gf < gl); clear hb hbox hg) | ((with_reducible refine gds (N := 8) rfl ?_); refine qbx 8 #[.slice none 0 0, .int .i64 0, .int .i64 0, .int .i64 0, .int .i64 0, .bool false] 30 ?_; intro gr hg w3 hbox hb; have HF3 := Aside0.mk (bbe HF2.out hb); have HL3 := Aside0.mk (bbe HL2.out hb); have HR3 := Aside0.mk hbox; have HB3 := Aside0.mk (bst HB2.out hb); have HG3 := Aside0.mk (hg ▸ blt HL2.out : gl < gr); clear hb hbox hg) | ((with_reducible refine gds (N := 9) rfl ?_); refine qbx 9 #[.int .i64 0, .int .i64 0] 31 ?_; intro gm hg w4 hbox hb; have H4 := Aside0.mk (⟨bbe HF3.out hb, bbe HL3.out hb, bbe HR3.out hb, hbox, ⟨HG1.out, HG2.out, HG3.out, hg ▸ blt HR3.out⟩, bst HB3.out hb, HC.out, .inl HR.out⟩ : AeSt w w4 gf gl gr gm A c l cap cnt cr fa dn last size); have hz4 := qz2 H4.out.hl; clear hb hbox hg HF3 HL3 HR3 HB3 HG3))
    have HD := Aside0.mk (H4.out.below (bd1 (Below.refl _ _)))
    clear hz4 H4
    refine start_ (n := 6) (S := (fun w' => w'.heap[gf]? = some (.cells #[.slice A l.length c, .int .i64 cap, .int .i64 cnt, .int .i64 cr, .int .i64 fa, .bool dn] 30 (0, 0)) ∧ w'.heap[gl]? = some (.cells #[.int .i64 last, .int .i64 size] 31 (0, 0)))) (ds := [4]) #[false, false, false, false, false, false] (by kernel_rfl) rfl rfl ⟨HD.out.hf, HD.out.hl⟩ (fun hHeld => ?_)
    refine take_ (i := 0) (N := some 52) (v := .agg #[.slice A l.length c, .int .i64 cap, .int .i64 cnt, .int .i64 cr, .int .i64 fa, .bool dn]) (a' := ?_) #[true, false, false, false, false, false] rfl rfl (by kernel_rfl) (fun _ _ _ h => h) (Or.inl ⟨by rfl, fun w' hS => exec_load_row 30 (.tmp 4) rfl gf rfl 30 #[.slice A l.length c, .int .i64 cap, .int .i64 cnt, .int .i64 cr, .int .i64 fa, .bool dn] (hS.1) Tryz.underlying30 rfl infoFs⟩) hHeld ?_ ?_
    rotate_left
    · simp only [Act.put, List.setIfInBounds_toArray, List.set_cons_zero, List.set_cons_succ, i64_w, i32_w]
      rfl
    refine take_ (i := 2) (N := some 54) (v := .agg #[.int .i64 last, .int .i64 size]) (a' := ?_) #[true, false, true, false, false, false] rfl rfl (by kernel_rfl) (fun _ _ _ h => h) (Or.inl ⟨by rfl, fun w' hS => exec_load_row 31 (.tmp 5) rfl gl rfl 31 #[.int .i64 last, .int .i64 size] (hS.2) Tryz.underlying31 rfl infoLog⟩) hHeld ?_ ?_
    rotate_left
    · simp only [Act.put, List.setIfInBounds_toArray, List.set_cons_zero, List.set_cons_succ, i64_w, i32_w]
      rfl
    refine one_ (i := 1) (N := some 53) #[true, true, true, false, false, false] rfl rfl (by kernel_rfl) (by decide) (fun K hK => ?_)
    refine call_ 20 #[.agg #[.slice A l.length c, .int .i64 cap, .int .i64 cnt, .int .i64 cr, .int .i64 fa, .bool dn]] (by rfl) rfl (by go_simp) ?_
    refine (HCP.out _ _ _ _ _ _ _ _ _ HD.out.reads HD.out.hc HB5.out).mono ?_
    rintro e w9 ⟨v, rfl, hv, hb⟩
    obtain ⟨A2, c2, rfl⟩ := Kd.R_slice hv
    have H9 := Aside0.mk (HD.out.below hb)
    have HV9 := Aside0.mk (Kd.Rlo hv HD.out.hb.size)
    clear hv hb
    refine ⟨_, rfl, ?_⟩
    refine hK.out _ _ ⟨H9.out.hf, H9.out.hl⟩ (fun hHeld => ?_)
    clear hK K
    refine norm_ (a' := ?_) ?_ ?_
    rotate_left
    · show Act.put _ (some 53) _ = _
      simp only [Act.put, List.setIfInBounds_toArray, List.set_cons_zero, List.set_cons_succ, i64_w, i32_w]
      rfl
    refine one_ (i := 3) (N := none) #[true, true, true, true, false, false] rfl rfl (by kernel_rfl) (by decide) (fun K hK => ?_)
    refine skip_ (by rfl) rfl (exec_store_row 30 (.tmp 8) (.tmp 53) rfl gr #[.slice A2 l.length c2, .int .i64 cap, .int .i64 cnt, .int .i64 cr, .int .i64 fa, .bool dn] rfl rfl 30 #[.slice none 0 0, .int .i64 0, .int .i64 0, .int .i64 0, .int .i64 0, .bool false] H9.out.hr infoFs rfl (by simp [Value.oneCell'])) ?_
    refine hK.out _ _ ⟨blk_setRow H9.out.hf (Nat.ne_of_lt (Nat.lt_trans H9.out.hd.2.1 H9.out.hd.2.2.1)) _, blk_setRow H9.out.hl (Nat.ne_of_lt H9.out.hd.2.2.1) _⟩ (fun hHeld => ?_)
    clear hK K
    refine last_ (i := 4) (N := none) #[true, true, true, true, true, false] rfl rfl (by kernel_rfl) (by decide) (fun K hK => ?_)
    refine skip_ (by rfl) rfl (exec_store_row 31 (.tmp 9) (.tmp 54) rfl gm #[.int .i64 last, .int .i64 size] rfl rfl 31 #[.int .i64 0, .int .i64 0] (blk_setRow H9.out.hm (Nat.ne_of_gt H9.out.hd.2.2.2) _) infoLog rfl (by simp [Value.oneCell'])) ?_
    refine hK.out _ _ ?_
    clear hK K
    refine pure_ (i := 5) (N := some 10) (v := ?_) (a' := ?_) #[true, true, true, true, true, true] rfl rfl (by kernel_rfl) (fun _ _ _ h => h) (Or.inl ⟨by rfl, ?_⟩) ?_ ?_
    rotate_left
    · intro w'
      go_simp
      with_reducible rfl
    rotate_left
    · simp only [Act.put, List.setIfInBounds_toArray, List.set_cons_zero, List.set_cons_succ, i64_w, i32_w]
      rfl
    refine done_ (by kernel_rfl) ?_
    go_wp2
    have E := AeSt.ends (cs := #[.slice A2 l.length c2, .int .i64 cap, .int .i64 cnt, .int .i64 cr, .int .i64 fa, .bool dn]) H9.out HV9.out (#[.int .i64 last, .int .i64 size])
    refine bodyPost_ret (results_cct rfl _ _ gr gm 30 31 #[.slice A2 l.length c2, .int .i64 cap, .int .i64 cnt, .int .i64 cr, .int .i64 fa, .bool dn] (#[.int .i64 last, .int .i64 size]) (0, 0) (0, 0) _ _ rfl E.1 Tryz.underlying30 rfl infoFs rfl E.2.1 Tryz.underlying31 rfl infoLog) rfl ⟨_, rfl, E.2.2.1, E.2.2.2⟩
end Go.Proofs.YtfknmohedlfmfaaGreatDoor.L
end
section
set_option linter.unusedVariables false
set_option linter.unusedSimpArgs false
namespace Go.Proofs.YtfknmohedlfmfaaGreatDoor.L
open Go Go.RowKit Go.Proofs Go.Proofs.YtfknmohedlfmfaaGreatDoor Go.Proofs.YtfknmohedlfmfaaGreatDoorW.PrintWords Go.Proofs.YtfknmohedlfmfaaGreatDoorW.PrintLast Go.Proofs.YtfknmohedlfmfaaGreatDoorW.PrintMore
set_option maxHeartbeats 8000000 in
set_option maxRecDepth 100000 in
theorem implAp_good (A : Option Addr) (c : Nat) (l : List FileT) (cap cnt cr fa : Int) (dn : Bool) (last size : Int) (entry : ByteArray) (most : Int) (w : World) (hr : Kd.C FileK w A l.length l) (hc : l.length ≤ c) (f : ByteArray)
    (hb1 : 1 ≤ last ∧ last ≤ 9999) (hb2 : 0 ≤ size ∧ size ≤ 1000000000) (hb3 : 1 ≤ most ∧ most ≤ 1000000000) (hb4 : 1 ≤ f.size ∧ f.size ≤ 100000) (hb5 : l.length ≤ 2000000) (hb6 : 1 ≤ entry.size ∧ entry.size ≤ 60000)
    (hframe : ∀ w', Calls Tryz.prog 21 #[.string entry] w' fun e w'' => e = .returned (.string f) ∧ Below w'.heap.size w' w'')
    (hcopy : ∀ A c l cap cnt cr fa dn w', Kd.C FileK w' A l.length l → l.length ≤ c → l.length ≤ 2000000 → Calls Tryz.prog 20 #[.agg #[.slice A l.length c, .int .i64 cap, .int .i64 cnt, .int .i64 cr, .int .i64 fa, .bool dn]] w' fun e w'' => ∃ v0_ : Value, e = .returned (.agg #[v0_, .int .i64 cap, .int .i64 cnt, .int .i64 cr, .int .i64 fa, .bool dn]) ∧ Kd.R FileK 61 w'' w'.heap.size (fun _ => True) v0_ l ∧ Below w'.heap.size w' w'')
    (seg : Int → Option ByteArray) (hseg : ∀ n nm w', Below w.heap.size w w' → seg n = some nm → Calls Tryz.prog 24 #[.int .i64 n] w' fun e w'' => e = .returned (.string nm) ∧ Below w'.heap.size w' w'')
    (st : StT) (hst : ∀ (A : Option Addr) (c : Nat) (l : List FileT) (cap cnt cr fa : Int) (dn : Bool) (kind : Int) (name data : ByteArray) (sz : Int) (l' : List FileT) (cap' cnt' cr' fa' : Int) (dn' : Bool) (q : Int) (w' : World), st l cap cnt cr fa dn kind name data sz = some (l', cap', cnt', cr', fa', dn', q) → Kd.C FileK w' A l.length l → l.length ≤ c →
      Calls Tryz.prog 23 #[.agg #[.slice A l.length c, .int .i64 cap, .int .i64 cnt, .int .i64 cr, .int .i64 fa, .bool dn], .agg #[.int .i64 kind, .string name, .string data, .int .i64 sz]] w' fun e w'' =>
      ∃ v0_ : Value, e = .returned (.tuple #[.agg #[v0_, .int .i64 cap', .int .i64 cnt', .int .i64 cr', .int .i64 fa', .bool dn'], .int .i64 q]) ∧ Kd.R FileK 61 w'' w'.heap.size (fun _ => True) v0_ l' ∧ Below w'.heap.size w' w'')
    (l' : List FileT) (cap' cnt' cr' fa' : Int) (dn' : Bool) (last' size' code' : Int) (hres : apBody st seg f l cap cnt cr fa dn last size most = some (l', cap', cnt', cr', fa', dn', last', size', code')) :
    Calls Tryz.prog 8 #[.agg #[.slice A l.length c, .int .i64 cap, .int .i64 cnt, .int .i64 cr, .int .i64 fa, .bool dn], .agg #[.int .i64 last, .int .i64 size], .string entry, .int .i64 most] w fun e w' => ∃ v0_ : Value, e = .returned (.tuple #[.agg #[v0_, .int .i64 cap', .int .i64 cnt', .int .i64 cr', .int .i64 fa', .bool dn'], .agg #[.int .i64 last', .int .i64 size'], .int .i64 code']) ∧ Kd.R FileK 61 w' w.heap.size (fun _ => True) v0_ l' ∧ Below w.heap.size w w' := by
  have HR := Aside0.mk hr
  have HC := Aside0.mk hc
  have HFR := Aside0.mk hframe
  have HCP := Aside0.mk hcopy
  have HSG := Aside0.mk hseg
  have HST := Aside0.mk hst
  have HRES := Aside0.mk hres
  have HB5 := Aside0.mk hb5
  have HBL := Aside0.mk hb1
  have HBS := Aside0.mk hb2
  have HBF := Aside0.mk hb4
  have k0 : decide ((entry.size : Int) < 1) = false := decide_eq_false (by omega)
  have k1 : decide (60000 < (entry.size : Int)) = false := decide_eq_false (by omega)
  have k2 : decide (last < 1) = false := decide_eq_false (by omega)
  have k3 : decide (9999 < last) = false := decide_eq_false (by omega)
  have k4 : decide (size < 0) = false := decide_eq_false (by omega)
  have k5 : decide (1000000000 < size) = false := decide_eq_false (by omega)
  have k6 : decide (most < 1) = false := decide_eq_false (by omega)
  have k7 : decide (1000000000 < most) = false := decide_eq_false (by omega)
  clear hr hc hframe hcopy hseg hst hres hb1 hb2 hb3 hb4 hb5 hb6
  obtain ⟨rb, hrb⟩ : ∃ rb : Bool, decide (size ≠ 0 ∧ most < size + (f.size : Int)) = rb := ⟨_, rfl⟩
  have HRB := Aside0.mk hrb
  clear hrb
  go_enter Tryz.func8, Tryz.ntmps8
  go_upto_region 6 with (first | ((with_reducible refine gds (N := 4) rfl ?_); refine qbx 4 #[.slice A l.length c, .int .i64 cap, .int .i64 cnt, .int .i64 cr, .int .i64 fa, .bool dn] 30 ?_; intro gf hg w1 hbox hb; have HB1 := Aside0.mk hb; have HF1 := Aside0.mk hbox; have HG1 := Aside0.mk (Nat.le_of_eq hg.symm : w.heap.size ≤ gf); clear hb hbox hg) | ((with_reducible refine gds (N := 5) rfl ?_); refine qbx 5 #[.int .i64 last, .int .i64 size] 31 ?_; intro gl hg w2 hbox hb; have HF2 := Aside0.mk (bbe HF1.out hb); have HL2 := Aside0.mk hbox; have HB2 := Aside0.mk (bst HB1.out hb); have HG2 := Aside0.mk (hg ▸ blt HF1.out : gf < gl); clear hb hbox hg) | ((with_reducible refine gds (N := 8) rfl ?_); refine qbx 8 #[.slice none 0 0, .int .i64 0, .int .i64 0, .int .i64 0, .int .i64 0, .bool false] 30 ?_; intro gr hg w3 hbox hb; have HF3 := Aside0.mk (bbe HF2.out hb); have HL3 := Aside0.mk (bbe HL2.out hb); have HR3 := Aside0.mk hbox; have HB3 := Aside0.mk (bst HB2.out hb); have HG3 := Aside0.mk (hg ▸ blt HL2.out : gl < gr); clear hb hbox hg) | ((with_reducible refine gds (N := 9) rfl ?_); refine qbx 9 #[.int .i64 0, .int .i64 0] 31 ?_; intro gm hg w4 hbox hb; have H4 := Aside0.mk (⟨bbe HF3.out hb, bbe HL3.out hb, bbe HR3.out hb, hbox, ⟨HG1.out, HG2.out, HG3.out, hg ▸ blt HR3.out⟩, bst HB3.out hb, HC.out, .inl HR.out⟩ : AeSt w w4 gf gl gr gm A c l cap cnt cr fa dn last size); have hz4 := qz2 H4.out.hl; clear hb hbox hg HF3 HL3 HR3 HB3 HG3) | (go_at_call 21; (with_reducible refine (HFR.out _).mono ?_); rintro e w5 ⟨rfl, hb⟩; have H5 := Aside0.mk (H4.out.below hb); clear hb) | ((with_reducible refine gds (N := 58) rfl ?_); refine wpList_load_row rfl 30 (.tmp 4) rfl gf ?hp 30 #[.slice A l.length c, .int .i64 cap, .int .i64 cnt, .int .i64 cr, .int .i64 fa, .bool dn] (0, 0) _ ?hg Tryz.underlying30 ?ha ?hi ?_; (case hp => rfl); (case hg => exact H5.out.hf); (case ha => rfl); (case hi => exact infoFs)) | (go_at_call 20; (with_reducible refine (HCP.out _ _ _ _ _ _ _ _ _ H5.out.reads H5.out.hc HB5.out).mono ?_); rintro e w6 ⟨v, rfl, hv, hb⟩; obtain ⟨A2, c2, rfl⟩ := Kd.R_slice hv; have H6 := Aside0.mk (H5.out.below hb); have HV6 := Aside0.mk (Kd.Rlo hv H5.out.hb.size); clear hv hb) | ((with_reducible refine gst (t := 30) (p := 4) rfl ?_); refine wpList_store_row rfl 30 (.tmp 4) (.tmp 59) rfl gf #[.slice A2 l.length c2, .int .i64 cap, .int .i64 cnt, .int .i64 cr, .int .i64 fa, .bool dn] ?hx ?hy 30 #[.slice A l.length c, .int .i64 cap, .int .i64 cnt, .int .i64 cr, .int .i64 fa, .bool dn] ?hg ?hi ?ho ?h1 ?_; (case hx => rfl); (case hy => rfl); (case hg => exact H6.out.hf); (case hi => exact infoFs); (case ho => rfl); (case h1 => simp [Value.oneCell'])))
  simp only [Act.put]
  have H8 := Aside0.mk (H6.out.setF (cap' := cap) (cnt' := cnt) (cr' := cr) (fa' := fa) (dn' := dn) HV6.out)
  have HV8 := Aside0.mk (row_keep HV6.out H6.out.hf #[.slice A2 l.length c2, .int .i64 cap, .int .i64 cnt, .int .i64 cr, .int .i64 fa, .bool dn])
  generalize w6.setRow gf #[.slice A2 l.length c2, .int .i64 cap, .int .i64 cnt, .int .i64 cr, .int .i64 fa, .bool dn] = w8 at H8 HV8 ⊢
  have hz8 := qz2 H8.out.hl
  clear hz4 H4 H5 H6 HV6 k0 k1 k2 k3 k4 k5 k6 k7
  go_cut [71] from 16 (fun s54 W => s54 = .bool rb ∧ AeSt w W gf gl gr gm A2 c2 l cap cnt cr fa dn last size ∧ Kd.R FileK 61 W w.heap.size (fun _ => True) (.slice A2 l.length c2) l)
  case first =>
    have hw : wrap64 (size + (f.size : Int)) = size + (f.size : Int) := by have h1 := HBS.out; have h2 := HBF.out; unfold wrap64; omega
    by_cases z : size = 0
    · have kz : (size != 0) = false := bne_eq_false_iff_eq.mpr z
      clear hw
      go_wp2_with fail
      go_meet
      case rel => exact ⟨by rw [← HRB.out, decide_eq_false (fun h => h.1 z)], H8.out, HV8.out⟩
    · have kz : (size != 0) = true := bne_iff_ne.mpr z
      go_wp2_with fail
      go_meet
      case rel => exact ⟨by rw [← HRB.out]; simp [z], H8.out, HV8.out⟩
  case rest =>
    obtain ⟨rfl, hH, hV⟩ := hcut
    have HH := Aside0.mk hH
    have HV := Aside0.mk hV
    clear hH hV H8 HV8 hz8
    go_upto_if 71 with fail
    go_cut [] from 16 (fun W => ∃ (A : Option Addr) (c : Nat) (l : List FileT) (cap cnt cr fa : Int) (dn : Bool) (last size : Int), AeSt w W gf gl gr gm A c l cap cnt cr fa dn last size ∧ Kd.R FileK 61 W w.heap.size (fun _ => True) (.slice A l.length c) l ∧ (1 ≤ last ∧ last ≤ 9999) ∧ (0 ≤ size ∧ size ≤ 1000000000) ∧ apTail st seg f l cap cnt cr fa dn last size = some (l', cap', cnt', cr', fa', dn', last', size', code'))
    case first =>
      have hres := HRES.out
      unfold apBody at hres
      cases rb with
      | true =>
        have roll := of_decide_eq_true HRB.out
        rw [if_pos roll] at hres
        unfold apRoll at hres
        have hz9 := qz2 HH.out.hl
        by_cases hlast : last = 9999
        · rw [if_pos hlast] at hres
          have kl : (last == 9999) = true := beq_iff_eq.mpr hlast
          simp only [Option.some.injEq, Prod.mk.injEq] at hres
          obtain ⟨rfl, rfl, rfl, rfl, rfl, rfl, rfl, rfl, rfl⟩ := hres
          go_upto_region 8 with fail
          have HD := Aside0.mk (HH.out.below (bd1 (Below.refl _ _)))
          have HVD := Aside0.mk (Kd.Rbe HV.out (bd1 (Below.refl _ _)))
          clear hz9 kl
          refine start_ (n := 5) (S := (fun w' => w'.heap[gf]? = some (.cells #[.slice A2 l.length c2, .int .i64 cap, .int .i64 cnt, .int .i64 cr, .int .i64 fa, .bool dn] 30 (0, 0)) ∧ w'.heap[gl]? = some (.cells #[.int .i64 last, .int .i64 size] 31 (0, 0)))) (ds := [3]) #[false, false, false, false, false] (by kernel_rfl) rfl rfl ⟨(HD.out.hf : _), HD.out.hl⟩ (fun hHeld => ?_)
          refine take_ (i := 0) (N := some 75) (v := .agg #[.slice A2 l.length c2, .int .i64 cap, .int .i64 cnt, .int .i64 cr, .int .i64 fa, .bool dn]) (a' := ?_) #[true, false, false, false, false] rfl rfl (by kernel_rfl) (fun _ _ _ h => h) (Or.inl ⟨by rfl, fun w' hS => exec_load_row 30 (.tmp 4) rfl gf rfl 30 #[.slice A2 l.length c2, .int .i64 cap, .int .i64 cnt, .int .i64 cr, .int .i64 fa, .bool dn] hS.1 Tryz.underlying30 rfl infoFs⟩) hHeld ?_ ?_
          rotate_left
          · simp only [Act.put, List.setIfInBounds_toArray, List.set_cons_zero, List.set_cons_succ, i64_w, i32_w]
            rfl
          refine take_ (i := 1) (N := some 76) (v := .agg #[.int .i64 last, .int .i64 size]) (a' := ?_) #[true, true, false, false, false] rfl rfl (by kernel_rfl) (fun _ _ _ h => h) (Or.inl ⟨by rfl, fun w' hS => exec_load_row 31 (.tmp 5) rfl gl rfl 31 #[.int .i64 last, .int .i64 size] hS.2 Tryz.underlying31 rfl infoLog⟩) hHeld ?_ ?_
          rotate_left
          · simp only [Act.put, List.setIfInBounds_toArray, List.set_cons_zero, List.set_cons_succ, i64_w, i32_w]
            rfl
          refine one_ (i := 2) (N := none) #[true, true, true, false, false] rfl rfl (by kernel_rfl) (by decide) (fun K hK => ?_)
          refine skip_ (by rfl) rfl (exec_store_row 30 (.tmp 8) (.tmp 75) rfl gr #[.slice A2 l.length c2, .int .i64 cap, .int .i64 cnt, .int .i64 cr, .int .i64 fa, .bool dn] rfl rfl 30 #[.slice none 0 0, .int .i64 0, .int .i64 0, .int .i64 0, .int .i64 0, .bool false] HD.out.hr infoFs rfl (by simp [Value.oneCell'])) ?_
          refine hK.out _ _ ⟨blk_setRow (HD.out.hf) (Nat.ne_of_lt (Nat.lt_trans HD.out.hd.2.1 HD.out.hd.2.2.1)) _, blk_setRow HD.out.hl (Nat.ne_of_lt HD.out.hd.2.2.1) _⟩ (fun hHeld => ?_)
          clear hK K
          refine last_ (i := 3) (N := none) #[true, true, true, true, false] rfl rfl (by kernel_rfl) (by decide) (fun K hK => ?_)
          refine skip_ (by rfl) rfl (exec_store_row 31 (.tmp 9) (.tmp 76) rfl gm #[.int .i64 last, .int .i64 size] rfl rfl 31 #[.int .i64 0, .int .i64 0] (blk_setRow HD.out.hm (Nat.ne_of_gt HD.out.hd.2.2.2) _) infoLog rfl (by simp [Value.oneCell'])) ?_
          refine hK.out _ _ ?_
          clear hK K
          refine pure_ (i := 4) (N := some 10) (v := ?_) (a' := ?_) #[true, true, true, true, true] rfl rfl (by kernel_rfl) (fun _ _ _ h => h) (Or.inl ⟨by rfl, ?_⟩) ?_ ?_
          rotate_left
          · intro w'
            go_simp
            with_reducible rfl
          rotate_left
          · simp only [Act.put, List.setIfInBounds_toArray, List.set_cons_zero, List.set_cons_succ, i64_w, i32_w]
            rfl
          refine done_ (by kernel_rfl) ?_
          go_wp2
          have E := AeSt.ends (cs := #[.slice A2 l.length c2, .int .i64 cap, .int .i64 cnt, .int .i64 cr, .int .i64 fa, .bool dn]) HD.out HVD.out (#[.int .i64 last, .int .i64 size])
          refine bodyPost_ret (results_cct rfl _ _ gr gm 30 31 #[.slice A2 l.length c2, .int .i64 cap, .int .i64 cnt, .int .i64 cr, .int .i64 fa, .bool dn] (#[.int .i64 last, .int .i64 size]) (0, 0) (0, 0) _ _ rfl E.1 Tryz.underlying30 rfl infoFs rfl E.2.1 Tryz.underlying31 rfl infoLog) rfl ⟨_, rfl, E.2.2.1, E.2.2.2⟩
        · rw [if_neg hlast] at hres
          have kl : (last == 9999) = false := beq_eq_false_iff_ne.mpr hlast
          have HNL := Aside0.mk hlast
          replace hres := Option.bind_eq_some_iff.mp hres
          obtain ⟨nm, hnm, hres⟩ := hres
          replace hres := Option.bind_eq_some_iff.mp hres
          obtain ⟨⟨l1, cap1, cnt1, cr1, fa1, dn1, q1⟩, hst1, hres⟩ := hres
          have HNM := Aside0.mk hnm
          have HS1 := Aside0.mk hst1
          have HR1 := Aside0.mk hres
          clear hnm hst1 hres hlast roll
          have hw : wrap64 (last + 1) = last + 1 := by have h1 := HBL.out; unfold wrap64; omega
          go_upto_region 10 with (first | (go_at_call 24; (with_reducible refine (HSG.out _ _ _ HH.out.hb HNM.out).mono ?_); rintro e w30 ⟨rfl, hb⟩; have H30 := Aside0.mk (HH.out.below hb); clear hb) | (go_at_call 22; (with_reducible refine (step_clo H30.out 1 nm noB 0 l1 cap1 cnt1 cr1 fa1 dn1 q1 (fun w' hr => HST.out _ _ _ _ _ _ _ _ _ _ _ _ _ _ _ _ _ _ _ w' HS1.out hr H30.out.hc)).mono ?_); rintro e w31 ⟨rfl, A1, c1, hH, hV⟩; have H31 := Aside0.mk hH; have HV31 := Aside0.mk hV; clear hH hV))
          clear hz9 hw kl
          by_cases z : q1 = 0
          · have kz : (q1 != 0) = false := bne_eq_false_iff_eq.mpr z
            have hres := HR1.out
            simp only [if_pos z] at hres
            have hz31 := qz2 H31.out.hl
            have hw : wrap64 (last + 1) = last + 1 := by have h1 := HBL.out; unfold wrap64; omega
            go_wp2_with (first | ((with_reducible refine gst (t := 31) (p := 5) rfl ?_); refine wpList_store_row rfl 31 (.tmp 5) (.tmp 92) rfl gl #[.int .i64 (last + 1), .int .i64 0] ?hx ?hy 31 #[.int .i64 last, .int .i64 size] ?hg ?hi ?ho ?h1 ?_; (case hx => rfl); (case hy => rfl); (case hg => exact H31.out.hl); (case hi => exact infoLog); (case ho => rfl); (case h1 => simp [Value.oneCell'])))
            go_meet
            case rel => exact ⟨A1, c1, l1, cap1, cnt1, cr1, fa1, dn1, last + 1, 0, H31.out.setL _ _, row_keepL HV31.out H31.out.hl _, by have h1 := HBL.out; have h2 := HNL.out; omega, by omega, hres⟩
          · have kz : (q1 != 0) = true := bne_iff_ne.mpr z
            have hres := HR1.out
            simp only [if_neg z, Option.some.injEq, Prod.mk.injEq] at hres
            obtain ⟨rfl, rfl, rfl, rfl, rfl, rfl, rfl, rfl, rfl⟩ := hres
            go_upto_region 11 with fail
            have HD := Aside0.mk (H31.out.below (bd1 (Below.refl _ _)))
            have HVD := Aside0.mk (Kd.Rbe HV31.out (bd1 (Below.refl _ _)))
            clear H31 HV31
            refine start_ (n := 6) (S := (fun w' => w'.heap[gf]? = some (.cells #[.slice A1 l1.length c1, .int .i64 cap1, .int .i64 cnt1, .int .i64 cr1, .int .i64 fa1, .bool dn1] 30 (0, 0)) ∧ w'.heap[gl]? = some (.cells #[.int .i64 last, .int .i64 size] 31 (0, 0)))) (ds := [4]) #[false, false, false, false, false, false] (by kernel_rfl) rfl rfl ⟨(HD.out.hf : _), HD.out.hl⟩ (fun hHeld => ?_)
            refine take_ (i := 0) (N := some 86) (v := .agg #[.slice A1 l1.length c1, .int .i64 cap1, .int .i64 cnt1, .int .i64 cr1, .int .i64 fa1, .bool dn1]) (a' := ?_) #[true, false, false, false, false, false] rfl rfl (by kernel_rfl) (fun _ _ _ h => h) (Or.inl ⟨by rfl, fun w' hS => exec_load_row 30 (.tmp 4) rfl gf rfl 30 #[.slice A1 l1.length c1, .int .i64 cap1, .int .i64 cnt1, .int .i64 cr1, .int .i64 fa1, .bool dn1] hS.1 Tryz.underlying30 rfl infoFs⟩) hHeld ?_ ?_
            rotate_left
            · simp only [Act.put, List.setIfInBounds_toArray, List.set_cons_zero, List.set_cons_succ, i64_w, i32_w]
              rfl
            refine take_ (i := 1) (N := some 87) (v := .agg #[.int .i64 last, .int .i64 size]) (a' := ?_) #[true, true, false, false, false, false] rfl rfl (by kernel_rfl) (fun _ _ _ h => h) (Or.inl ⟨by rfl, fun w' hS => exec_load_row 31 (.tmp 5) rfl gl rfl 31 #[.int .i64 last, .int .i64 size] hS.2 Tryz.underlying31 rfl infoLog⟩) hHeld ?_ ?_
            rotate_left
            · simp only [Act.put, List.setIfInBounds_toArray, List.set_cons_zero, List.set_cons_succ, i64_w, i32_w]
              rfl
            refine pure_ (i := 2) (N := some 88) (v := ?_) (a' := ?_) #[true, true, true, false, false, false] rfl rfl (by kernel_rfl) (fun _ _ _ h => h) (Or.inl ⟨by rfl, ?_⟩) ?_ ?_
            rotate_left
            · intro w'
              go_simp
              with_reducible rfl
            rotate_left
            · simp only [Act.put, List.setIfInBounds_toArray, List.set_cons_zero, List.set_cons_succ, i64_w, i32_w]
              rfl
            refine one_ (i := 3) (N := none) #[true, true, true, true, false, false] rfl rfl (by kernel_rfl) (by decide) (fun K hK => ?_)
            refine skip_ (by rfl) rfl (exec_store_row 30 (.tmp 8) (.tmp 86) rfl gr #[.slice A1 l1.length c1, .int .i64 cap1, .int .i64 cnt1, .int .i64 cr1, .int .i64 fa1, .bool dn1] rfl rfl 30 #[.slice none 0 0, .int .i64 0, .int .i64 0, .int .i64 0, .int .i64 0, .bool false] HD.out.hr infoFs rfl (by simp [Value.oneCell'])) ?_
            refine hK.out _ _ ⟨blk_setRow (HD.out.hf) (Nat.ne_of_lt (Nat.lt_trans HD.out.hd.2.1 HD.out.hd.2.2.1)) _, blk_setRow HD.out.hl (Nat.ne_of_lt HD.out.hd.2.2.1) _⟩ (fun hHeld => ?_)
            clear hK K
            refine last_ (i := 4) (N := none) #[true, true, true, true, true, false] rfl rfl (by kernel_rfl) (by decide) (fun K hK => ?_)
            refine skip_ (by rfl) rfl (exec_store_row 31 (.tmp 9) (.tmp 87) rfl gm #[.int .i64 last, .int .i64 size] rfl rfl 31 #[.int .i64 0, .int .i64 0] (blk_setRow HD.out.hm (Nat.ne_of_gt HD.out.hd.2.2.2) _) infoLog rfl (by simp [Value.oneCell'])) ?_
            refine hK.out _ _ ?_
            clear hK K
            refine pure_ (i := 5) (N := some 10) (v := ?_) (a' := ?_) #[true, true, true, true, true, true] rfl rfl (by kernel_rfl) (fun _ _ _ h => h) (Or.inl ⟨by rfl, ?_⟩) ?_ ?_
            rotate_left
            · intro w'
              go_simp
              with_reducible rfl
            rotate_left
            · simp only [Act.put, List.setIfInBounds_toArray, List.set_cons_zero, List.set_cons_succ, i64_w, i32_w]
              rfl
            refine done_ (by kernel_rfl) ?_
            go_wp2
            have E := AeSt.ends (cs := #[.slice A1 l1.length c1, .int .i64 cap1, .int .i64 cnt1, .int .i64 cr1, .int .i64 fa1, .bool dn1]) HD.out HVD.out (#[.int .i64 last, .int .i64 size])
            refine bodyPost_ret (results_cct rfl _ _ gr gm 30 31 #[.slice A1 l1.length c1, .int .i64 cap1, .int .i64 cnt1, .int .i64 cr1, .int .i64 fa1, .bool dn1] (#[.int .i64 last, .int .i64 size]) (0, 0) (0, 0) _ _ rfl E.1 Tryz.underlying30 rfl infoFs rfl E.2.1 Tryz.underlying31 rfl infoLog) rfl ⟨_, rfl, E.2.2.1, E.2.2.2⟩
      | false =>
        have roll := of_decide_eq_false HRB.out
        rw [if_neg roll] at hres
        go_wp2_with fail
        go_meet
        case rel => exact ⟨A2, c2, l, cap, cnt, cr, fa, dn, last, size, HH.out, HV.out, HBL.out, HBS.out, hres⟩
    case rest =>
      clear HH HV HRES HRB HBL HBS
      obtain ⟨A, c, l, cap, cnt, cr, fa, dn, last, size, hH, hV, hbl, hbs, ht⟩ := hcut
      have HH := Aside0.mk hH
      have HV := Aside0.mk hV
      have HBS := Aside0.mk hbs
      clear hH hV hbl hbs
      unfold apTail at ht
      replace ht := Option.bind_eq_some_iff.mp ht
      obtain ⟨nm, hnm, ht⟩ := ht
      replace ht := Option.bind_eq_some_iff.mp ht
      obtain ⟨⟨l1, cap1, cnt1, cr1, fa1, dn1, q1⟩, hst1, ht⟩ := ht
      have HNM := Aside0.mk hnm
      have HS1 := Aside0.mk hst1
      have HT := Aside0.mk ht
      clear hnm hst1 ht
      have hz19 := qz2 HH.out.hl
      go_upto_if 102 with (first | (go_at_call 24; (with_reducible refine (HSG.out _ _ _ HH.out.hb HNM.out).mono ?_); rintro e w20 ⟨rfl, hb⟩; have H20 := Aside0.mk (HH.out.below hb); clear hb hz19) | (go_at_call 22; (with_reducible refine (step_clo H20.out 2 nm f 0 l1 cap1 cnt1 cr1 fa1 dn1 q1 (fun w' hr => HST.out _ _ _ _ _ _ _ _ _ _ _ _ _ _ _ _ _ _ _ w' HS1.out hr H20.out.hc)).mono ?_); rintro e w23 ⟨rfl, A1, c1, hH, hV⟩; have H23 := Aside0.mk hH; have HV23 := Aside0.mk hV; clear hH hV))
      clear HH HV H20
      go_cut [15] from 16 (fun s15 W => ∃ (A : Option Addr) (c : Nat) (l : List FileT) (cap cnt cr fa : Int) (dn : Bool) (q : Int), s15 = .int .i64 q ∧ AeSt w W gf gl gr gm A c l cap cnt cr fa dn last size ∧ Kd.R FileK 61 W w.heap.size (fun _ => True) (.slice A l.length c) l ∧ apFin st nm f.size l cap cnt cr fa dn last size q = some (l', cap', cnt', cr', fa', dn', last', size', code'))
      case first =>
        have ht := HT.out
        by_cases z : q1 = 0
        · have kz : (q1 == 0) = true := beq_iff_eq.mpr z
          simp only [if_pos z] at ht
          replace ht := Option.bind_eq_some_iff.mp ht
          obtain ⟨⟨l2, cap2, cnt2, cr2, fa2, dn2, q2⟩, hst2, ht⟩ := ht
          have HS2 := Aside0.mk hst2
          have HT2 := Aside0.mk ht
          clear hst2 ht
          go_wp2_with (first | (go_at_call 22; (with_reducible refine (step_clo H23.out 3 nm noB 0 l2 cap2 cnt2 cr2 fa2 dn2 q2 (fun w' hr => HST.out _ _ _ _ _ _ _ _ _ _ _ _ _ _ _ _ _ _ _ w' HS2.out hr H23.out.hc)).mono ?_); rintro e w24 ⟨rfl, A2, c2, hH, hV⟩; have H24 := Aside0.mk hH; have HV24 := Aside0.mk hV; clear hH hV))
          go_meet
          case rel => exact ⟨A2, c2, l2, cap2, cnt2, cr2, fa2, dn2, q2, rfl, H24.out, HV24.out, HT2.out⟩
        · have kz : (q1 == 0) = false := beq_eq_false_iff_ne.mpr z
          simp only [if_neg z] at ht
          go_wp2_with fail
          go_meet
          case rel => exact ⟨A1, c1, l1, cap1, cnt1, cr1, fa1, dn1, q1, rfl, H23.out, HV23.out, ht⟩
      case rest =>
        clear H23 HV23 HT
        obtain ⟨A, c, l, cap, cnt, cr, fa, dn, q, rfl, hH, hV, ht⟩ := hcut
        have H40 := Aside0.mk hH
        have HV40 := Aside0.mk hV
        clear hH hV
        unfold apFin at ht
        by_cases z : q = 0
        · have kz : (q == 0) = true := beq_iff_eq.mpr z
          simp only [if_pos z, Option.some.injEq, Prod.mk.injEq] at ht
          obtain ⟨rfl, rfl, rfl, rfl, rfl, rfl, rfl, rfl, rfl⟩ := ht
          have hz40 := qz2 H40.out.hl
          have hw : wrap64 (size + (f.size : Int)) = size + (f.size : Int) := by have h1 := HBS.out; have h2 := HBF.out; unfold wrap64; omega
          go_upto_region 20 with fail
          have H41 := Aside0.mk (H40.out.setS (size + (f.size : Int)))
          have HV41 := Aside0.mk (Kd.Rmo (Kd.Rfa (p := ⟨gl, 1, none⟩) (Kd.Rty HV40.out H40.out.hl (by decide)) (fun k hk => hk.2) (.int .i64 (size + (f.size : Int)))) (fun _ _ => trivial))
          generalize wc.setCell ⟨gl, 1, none⟩ (.int .i64 (size + (f.size : Int))) = w41 at H41 HV41 ⊢
          clear H40 HV40 hz40 hw
          have HD := Aside0.mk (H41.out.below (bd1 (Below.refl _ _)))
          have HVD := Aside0.mk (Kd.Rbe HV41.out (bd1 (Below.refl _ _)))
          clear H41 HV41
          refine start_ (n := 5) (S := (fun w' => w'.heap[gf]? = some (.cells #[.slice A l.length c, .int .i64 cap, .int .i64 cnt, .int .i64 cr, .int .i64 fa, .bool dn] 30 (0, 0)) ∧ w'.heap[gl]? = some (.cells #[.int .i64 last, .int .i64 (size + (f.size : Int))] 31 (0, 0)))) (ds := [3]) #[false, false, false, false, false] (by kernel_rfl) rfl rfl ⟨(HD.out.hf : _), HD.out.hl⟩ (fun hHeld => ?_)
          refine take_ (i := 0) (N := some 116) (v := .agg #[.slice A l.length c, .int .i64 cap, .int .i64 cnt, .int .i64 cr, .int .i64 fa, .bool dn]) (a' := ?_) #[true, false, false, false, false] rfl rfl (by kernel_rfl) (fun _ _ _ h => h) (Or.inl ⟨by rfl, fun w' hS => exec_load_row 30 (.tmp 4) rfl gf rfl 30 #[.slice A l.length c, .int .i64 cap, .int .i64 cnt, .int .i64 cr, .int .i64 fa, .bool dn] hS.1 Tryz.underlying30 rfl infoFs⟩) hHeld ?_ ?_
          rotate_left
          · simp only [Act.put, List.setIfInBounds_toArray, List.set_cons_zero, List.set_cons_succ, i64_w, i32_w]
            rfl
          refine take_ (i := 1) (N := some 117) (v := .agg #[.int .i64 last, .int .i64 (size + (f.size : Int))]) (a' := ?_) #[true, true, false, false, false] rfl rfl (by kernel_rfl) (fun _ _ _ h => h) (Or.inl ⟨by rfl, fun w' hS => exec_load_row 31 (.tmp 5) rfl gl rfl 31 #[.int .i64 last, .int .i64 (size + (f.size : Int))] hS.2 Tryz.underlying31 rfl infoLog⟩) hHeld ?_ ?_
          rotate_left
          · simp only [Act.put, List.setIfInBounds_toArray, List.set_cons_zero, List.set_cons_succ, i64_w, i32_w]
            rfl
          refine one_ (i := 2) (N := none) #[true, true, true, false, false] rfl rfl (by kernel_rfl) (by decide) (fun K hK => ?_)
          refine skip_ (by rfl) rfl (exec_store_row 30 (.tmp 8) (.tmp 116) rfl gr #[.slice A l.length c, .int .i64 cap, .int .i64 cnt, .int .i64 cr, .int .i64 fa, .bool dn] rfl rfl 30 #[.slice none 0 0, .int .i64 0, .int .i64 0, .int .i64 0, .int .i64 0, .bool false] HD.out.hr infoFs rfl (by simp [Value.oneCell'])) ?_
          refine hK.out _ _ ⟨blk_setRow (HD.out.hf) (Nat.ne_of_lt (Nat.lt_trans HD.out.hd.2.1 HD.out.hd.2.2.1)) _, blk_setRow HD.out.hl (Nat.ne_of_lt HD.out.hd.2.2.1) _⟩ (fun hHeld => ?_)
          clear hK K
          refine last_ (i := 3) (N := none) #[true, true, true, true, false] rfl rfl (by kernel_rfl) (by decide) (fun K hK => ?_)
          refine skip_ (by rfl) rfl (exec_store_row 31 (.tmp 9) (.tmp 117) rfl gm #[.int .i64 last, .int .i64 (size + (f.size : Int))] rfl rfl 31 #[.int .i64 0, .int .i64 0] (blk_setRow HD.out.hm (Nat.ne_of_gt HD.out.hd.2.2.2) _) infoLog rfl (by simp [Value.oneCell'])) ?_
          refine hK.out _ _ ?_
          clear hK K
          refine pure_ (i := 4) (N := some 10) (v := ?_) (a' := ?_) #[true, true, true, true, true] rfl rfl (by kernel_rfl) (fun _ _ _ h => h) (Or.inl ⟨by rfl, ?_⟩) ?_ ?_
          rotate_left
          · intro w'
            go_simp
            with_reducible rfl
          rotate_left
          · simp only [Act.put, List.setIfInBounds_toArray, List.set_cons_zero, List.set_cons_succ, i64_w, i32_w]
            rfl
          refine done_ (by kernel_rfl) ?_
          go_wp2
          have E := AeSt.ends (cs := #[.slice A l.length c, .int .i64 cap, .int .i64 cnt, .int .i64 cr, .int .i64 fa, .bool dn]) HD.out HVD.out (#[.int .i64 last, .int .i64 (size + (f.size : Int))])
          refine bodyPost_ret (results_cct rfl _ _ gr gm 30 31 #[.slice A l.length c, .int .i64 cap, .int .i64 cnt, .int .i64 cr, .int .i64 fa, .bool dn] (#[.int .i64 last, .int .i64 (size + (f.size : Int))]) (0, 0) (0, 0) _ _ rfl E.1 Tryz.underlying30 rfl infoFs rfl E.2.1 Tryz.underlying31 rfl infoLog) rfl ⟨_, rfl, E.2.2.1, E.2.2.2⟩
        · have kz : (q == 0) = false := beq_eq_false_iff_ne.mpr z
          rw [if_neg z] at ht
          by_cases z1 : q = 11 ∨ q = 16
          · simp only [if_pos z1, Option.some.injEq, Prod.mk.injEq] at ht
            obtain ⟨rfl, rfl, rfl, rfl, rfl, rfl, rfl, rfl, rfl⟩ := ht
            have key : (q == 11) = true ∨ ((q == 11) = false ∧ (q == 16) = true) := by
              by_cases e : q = 11
              · exact .inl (beq_iff_eq.mpr e)
              · exact .inr ⟨beq_eq_false_iff_ne.mpr e, beq_iff_eq.mpr (z1.resolve_left e)⟩
            clear z z1
            rcases key with k1 | ⟨k1, k2⟩
            all_goals
              go_upto_region 23 with fail
              clear kz
              have HD := Aside0.mk (H40.out.below (bd1 (Below.refl _ _)))
              have HVD := Aside0.mk (Kd.Rbe HV40.out (bd1 (Below.refl _ _)))
              clear H40 HV40
              refine start_ (n := 6) (S := (fun w' => w'.heap[gf]? = some (.cells #[.slice A l.length c, .int .i64 cap, .int .i64 cnt, .int .i64 cr, .int .i64 fa, .bool dn] 30 (0, 0)) ∧ w'.heap[gl]? = some (.cells #[.int .i64 last, .int .i64 size] 31 (0, 0)))) (ds := [4]) #[false, false, false, false, false, false] (by kernel_rfl) rfl rfl ⟨(HD.out.hf : _), HD.out.hl⟩ (fun hHeld => ?_)
              refine take_ (i := 0) (N := some 121) (v := .agg #[.slice A l.length c, .int .i64 cap, .int .i64 cnt, .int .i64 cr, .int .i64 fa, .bool dn]) (a' := ?_) #[true, false, false, false, false, false] rfl rfl (by kernel_rfl) (fun _ _ _ h => h) (Or.inl ⟨by rfl, fun w' hS => exec_load_row 30 (.tmp 4) rfl gf rfl 30 #[.slice A l.length c, .int .i64 cap, .int .i64 cnt, .int .i64 cr, .int .i64 fa, .bool dn] hS.1 Tryz.underlying30 rfl infoFs⟩) hHeld ?_ ?_
              rotate_left
              · simp only [Act.put, List.setIfInBounds_toArray, List.set_cons_zero, List.set_cons_succ, i64_w, i32_w]
                rfl
              refine take_ (i := 1) (N := some 122) (v := .agg #[.int .i64 last, .int .i64 size]) (a' := ?_) #[true, true, false, false, false, false] rfl rfl (by kernel_rfl) (fun _ _ _ h => h) (Or.inl ⟨by rfl, fun w' hS => exec_load_row 31 (.tmp 5) rfl gl rfl 31 #[.int .i64 last, .int .i64 size] hS.2 Tryz.underlying31 rfl infoLog⟩) hHeld ?_ ?_
              rotate_left
              · simp only [Act.put, List.setIfInBounds_toArray, List.set_cons_zero, List.set_cons_succ, i64_w, i32_w]
                rfl
              refine pure_ (i := 2) (N := some 123) (v := ?_) (a' := ?_) #[true, true, true, false, false, false] rfl rfl (by kernel_rfl) (fun _ _ _ h => h) (Or.inl ⟨by rfl, ?_⟩) ?_ ?_
              rotate_left
              · intro w'
                go_simp
                with_reducible rfl
              rotate_left
              · simp only [Act.put, List.setIfInBounds_toArray, List.set_cons_zero, List.set_cons_succ, i64_w, i32_w]
                rfl
              refine one_ (i := 3) (N := none) #[true, true, true, true, false, false] rfl rfl (by kernel_rfl) (by decide) (fun K hK => ?_)
              refine skip_ (by rfl) rfl (exec_store_row 30 (.tmp 8) (.tmp 121) rfl gr #[.slice A l.length c, .int .i64 cap, .int .i64 cnt, .int .i64 cr, .int .i64 fa, .bool dn] rfl rfl 30 #[.slice none 0 0, .int .i64 0, .int .i64 0, .int .i64 0, .int .i64 0, .bool false] HD.out.hr infoFs rfl (by simp [Value.oneCell'])) ?_
              refine hK.out _ _ ⟨blk_setRow (HD.out.hf) (Nat.ne_of_lt (Nat.lt_trans HD.out.hd.2.1 HD.out.hd.2.2.1)) _, blk_setRow HD.out.hl (Nat.ne_of_lt HD.out.hd.2.2.1) _⟩ (fun hHeld => ?_)
              clear hK K
              refine last_ (i := 4) (N := none) #[true, true, true, true, true, false] rfl rfl (by kernel_rfl) (by decide) (fun K hK => ?_)
              refine skip_ (by rfl) rfl (exec_store_row 31 (.tmp 9) (.tmp 122) rfl gm #[.int .i64 last, .int .i64 size] rfl rfl 31 #[.int .i64 0, .int .i64 0] (blk_setRow HD.out.hm (Nat.ne_of_gt HD.out.hd.2.2.2) _) infoLog rfl (by simp [Value.oneCell'])) ?_
              refine hK.out _ _ ?_
              clear hK K
              refine pure_ (i := 5) (N := some 10) (v := ?_) (a' := ?_) #[true, true, true, true, true, true] rfl rfl (by kernel_rfl) (fun _ _ _ h => h) (Or.inl ⟨by rfl, ?_⟩) ?_ ?_
              rotate_left
              · intro w'
                go_simp
                with_reducible rfl
              rotate_left
              · simp only [Act.put, List.setIfInBounds_toArray, List.set_cons_zero, List.set_cons_succ, i64_w, i32_w]
                rfl
              refine done_ (by kernel_rfl) ?_
              go_wp2
              have E := AeSt.ends (cs := #[.slice A l.length c, .int .i64 cap, .int .i64 cnt, .int .i64 cr, .int .i64 fa, .bool dn]) HD.out HVD.out (#[.int .i64 last, .int .i64 size])
              refine bodyPost_ret (results_cct rfl _ _ gr gm 30 31 #[.slice A l.length c, .int .i64 cap, .int .i64 cnt, .int .i64 cr, .int .i64 fa, .bool dn] (#[.int .i64 last, .int .i64 size]) (0, 0) (0, 0) _ _ rfl E.1 Tryz.underlying30 rfl infoFs rfl E.2.1 Tryz.underlying31 rfl infoLog) rfl ⟨_, rfl, E.2.2.1, E.2.2.2⟩
          · have k1 : (q == 11) = false := beq_eq_false_iff_ne.mpr fun e => z1 (.inl e)
            have k2 : (q == 16) = false := beq_eq_false_iff_ne.mpr fun e => z1 (.inr e)
            rw [if_neg z1] at ht
            replace ht := Option.bind_eq_some_iff.mp ht
            obtain ⟨⟨l5, cap5, cnt5, cr5, fa5, dn5, q5⟩, hst5, ht⟩ := ht
            have HS5 := Aside0.mk hst5
            simp only [Option.some.injEq, Prod.mk.injEq] at ht
            obtain ⟨rfl, rfl, rfl, rfl, rfl, rfl, rfl, rfl, hcode⟩ := ht
            have HCD := Aside0.mk hcode
            clear hst5 hcode z z1
            have hz40 := qz2 H40.out.hl
            go_upto_region 25 with (first | (go_at_call 22; (with_reducible refine (step_clo H40.out 4 nm noB size l5 cap5 cnt5 cr5 fa5 dn5 q5 (fun w' hr => HST.out _ _ _ _ _ _ _ _ _ _ _ _ _ _ _ _ _ _ _ w' HS5.out hr H40.out.hc)).mono ?_); rintro e w44 ⟨rfl, A5, c5, hH, hV⟩; have H44 := Aside0.mk hH; have HV44 := Aside0.mk hV; clear hH hV))
            clear H40 HV40 hz40 kz k1 k2
            by_cases y0 : q5 = 0
            · obtain rfl : q = code' := by have := HCD.out; rw [if_pos y0] at this; exact this
              have k5 : (q5 == 0) = true := beq_iff_eq.mpr y0
              go_upto_region 26 with fail
              have HD := Aside0.mk (H44.out.below (bd1 (Below.refl _ _)))
              have HVD := Aside0.mk (Kd.Rbe HV44.out (bd1 (Below.refl _ _)))
              clear H44 HV44
              refine start_ (n := 6) (S := (fun w' => w'.heap[gf]? = some (.cells #[.slice A5 l5.length c5, .int .i64 cap5, .int .i64 cnt5, .int .i64 cr5, .int .i64 fa5, .bool dn5] 30 (0, 0)) ∧ w'.heap[gl]? = some (.cells #[.int .i64 last, .int .i64 size] 31 (0, 0)))) (ds := [4]) #[false, false, false, false, false, false] (by kernel_rfl) rfl rfl ⟨(HD.out.hf : _), HD.out.hl⟩ (fun hHeld => ?_)
              refine take_ (i := 0) (N := some 132) (v := .agg #[.slice A5 l5.length c5, .int .i64 cap5, .int .i64 cnt5, .int .i64 cr5, .int .i64 fa5, .bool dn5]) (a' := ?_) #[true, false, false, false, false, false] rfl rfl (by kernel_rfl) (fun _ _ _ h => h) (Or.inl ⟨by rfl, fun w' hS => exec_load_row 30 (.tmp 4) rfl gf rfl 30 #[.slice A5 l5.length c5, .int .i64 cap5, .int .i64 cnt5, .int .i64 cr5, .int .i64 fa5, .bool dn5] hS.1 Tryz.underlying30 rfl infoFs⟩) hHeld ?_ ?_
              rotate_left
              · simp only [Act.put, List.setIfInBounds_toArray, List.set_cons_zero, List.set_cons_succ, i64_w, i32_w]
                rfl
              refine take_ (i := 1) (N := some 133) (v := .agg #[.int .i64 last, .int .i64 size]) (a' := ?_) #[true, true, false, false, false, false] rfl rfl (by kernel_rfl) (fun _ _ _ h => h) (Or.inl ⟨by rfl, fun w' hS => exec_load_row 31 (.tmp 5) rfl gl rfl 31 #[.int .i64 last, .int .i64 size] hS.2 Tryz.underlying31 rfl infoLog⟩) hHeld ?_ ?_
              rotate_left
              · simp only [Act.put, List.setIfInBounds_toArray, List.set_cons_zero, List.set_cons_succ, i64_w, i32_w]
                rfl
              refine pure_ (i := 2) (N := some 134) (v := ?_) (a' := ?_) #[true, true, true, false, false, false] rfl rfl (by kernel_rfl) (fun _ _ _ h => h) (Or.inl ⟨by rfl, ?_⟩) ?_ ?_
              rotate_left
              · intro w'
                go_simp
                with_reducible rfl
              rotate_left
              · simp only [Act.put, List.setIfInBounds_toArray, List.set_cons_zero, List.set_cons_succ, i64_w, i32_w]
                rfl
              refine one_ (i := 3) (N := none) #[true, true, true, true, false, false] rfl rfl (by kernel_rfl) (by decide) (fun K hK => ?_)
              refine skip_ (by rfl) rfl (exec_store_row 30 (.tmp 8) (.tmp 132) rfl gr #[.slice A5 l5.length c5, .int .i64 cap5, .int .i64 cnt5, .int .i64 cr5, .int .i64 fa5, .bool dn5] rfl rfl 30 #[.slice none 0 0, .int .i64 0, .int .i64 0, .int .i64 0, .int .i64 0, .bool false] HD.out.hr infoFs rfl (by simp [Value.oneCell'])) ?_
              refine hK.out _ _ ⟨blk_setRow (HD.out.hf) (Nat.ne_of_lt (Nat.lt_trans HD.out.hd.2.1 HD.out.hd.2.2.1)) _, blk_setRow HD.out.hl (Nat.ne_of_lt HD.out.hd.2.2.1) _⟩ (fun hHeld => ?_)
              clear hK K
              refine last_ (i := 4) (N := none) #[true, true, true, true, true, false] rfl rfl (by kernel_rfl) (by decide) (fun K hK => ?_)
              refine skip_ (by rfl) rfl (exec_store_row 31 (.tmp 9) (.tmp 133) rfl gm #[.int .i64 last, .int .i64 size] rfl rfl 31 #[.int .i64 0, .int .i64 0] (blk_setRow HD.out.hm (Nat.ne_of_gt HD.out.hd.2.2.2) _) infoLog rfl (by simp [Value.oneCell'])) ?_
              refine hK.out _ _ ?_
              clear hK K
              refine pure_ (i := 5) (N := some 10) (v := ?_) (a' := ?_) #[true, true, true, true, true, true] rfl rfl (by kernel_rfl) (fun _ _ _ h => h) (Or.inl ⟨by rfl, ?_⟩) ?_ ?_
              rotate_left
              · intro w'
                go_simp
                with_reducible rfl
              rotate_left
              · simp only [Act.put, List.setIfInBounds_toArray, List.set_cons_zero, List.set_cons_succ, i64_w, i32_w]
                rfl
              refine done_ (by kernel_rfl) ?_
              go_wp2
              have E := AeSt.ends (cs := #[.slice A5 l5.length c5, .int .i64 cap5, .int .i64 cnt5, .int .i64 cr5, .int .i64 fa5, .bool dn5]) HD.out HVD.out (#[.int .i64 last, .int .i64 size])
              refine bodyPost_ret (results_cct rfl _ _ gr gm 30 31 #[.slice A5 l5.length c5, .int .i64 cap5, .int .i64 cnt5, .int .i64 cr5, .int .i64 fa5, .bool dn5] (#[.int .i64 last, .int .i64 size]) (0, 0) (0, 0) _ _ rfl E.1 Tryz.underlying30 rfl infoFs rfl E.2.1 Tryz.underlying31 rfl infoLog) rfl ⟨_, rfl, E.2.2.1, E.2.2.2⟩
            · have k5 : (q5 == 0) = false := beq_eq_false_iff_ne.mpr y0
              by_cases y1 : q5 = 11
              · obtain rfl : 11 = code' := by have := HCD.out; rw [if_neg y0, if_pos y1] at this; exact this
                have k6 : (q5 == 11) = true := beq_iff_eq.mpr y1
                go_upto_region 28 with fail
                have HD := Aside0.mk (H44.out.below (bd1 (Below.refl _ _)))
                have HVD := Aside0.mk (Kd.Rbe HV44.out (bd1 (Below.refl _ _)))
                clear H44 HV44
                refine start_ (n := 5) (S := (fun w' => w'.heap[gf]? = some (.cells #[.slice A5 l5.length c5, .int .i64 cap5, .int .i64 cnt5, .int .i64 cr5, .int .i64 fa5, .bool dn5] 30 (0, 0)) ∧ w'.heap[gl]? = some (.cells #[.int .i64 last, .int .i64 size] 31 (0, 0)))) (ds := [3]) #[false, false, false, false, false] (by kernel_rfl) rfl rfl ⟨(HD.out.hf : _), HD.out.hl⟩ (fun hHeld => ?_)
                refine take_ (i := 0) (N := some 137) (v := .agg #[.slice A5 l5.length c5, .int .i64 cap5, .int .i64 cnt5, .int .i64 cr5, .int .i64 fa5, .bool dn5]) (a' := ?_) #[true, false, false, false, false] rfl rfl (by kernel_rfl) (fun _ _ _ h => h) (Or.inl ⟨by rfl, fun w' hS => exec_load_row 30 (.tmp 4) rfl gf rfl 30 #[.slice A5 l5.length c5, .int .i64 cap5, .int .i64 cnt5, .int .i64 cr5, .int .i64 fa5, .bool dn5] hS.1 Tryz.underlying30 rfl infoFs⟩) hHeld ?_ ?_
                rotate_left
                · simp only [Act.put, List.setIfInBounds_toArray, List.set_cons_zero, List.set_cons_succ, i64_w, i32_w]
                  rfl
                refine take_ (i := 1) (N := some 138) (v := .agg #[.int .i64 last, .int .i64 size]) (a' := ?_) #[true, true, false, false, false] rfl rfl (by kernel_rfl) (fun _ _ _ h => h) (Or.inl ⟨by rfl, fun w' hS => exec_load_row 31 (.tmp 5) rfl gl rfl 31 #[.int .i64 last, .int .i64 size] hS.2 Tryz.underlying31 rfl infoLog⟩) hHeld ?_ ?_
                rotate_left
                · simp only [Act.put, List.setIfInBounds_toArray, List.set_cons_zero, List.set_cons_succ, i64_w, i32_w]
                  rfl
                refine one_ (i := 2) (N := none) #[true, true, true, false, false] rfl rfl (by kernel_rfl) (by decide) (fun K hK => ?_)
                refine skip_ (by rfl) rfl (exec_store_row 30 (.tmp 8) (.tmp 137) rfl gr #[.slice A5 l5.length c5, .int .i64 cap5, .int .i64 cnt5, .int .i64 cr5, .int .i64 fa5, .bool dn5] rfl rfl 30 #[.slice none 0 0, .int .i64 0, .int .i64 0, .int .i64 0, .int .i64 0, .bool false] HD.out.hr infoFs rfl (by simp [Value.oneCell'])) ?_
                refine hK.out _ _ ⟨blk_setRow (HD.out.hf) (Nat.ne_of_lt (Nat.lt_trans HD.out.hd.2.1 HD.out.hd.2.2.1)) _, blk_setRow HD.out.hl (Nat.ne_of_lt HD.out.hd.2.2.1) _⟩ (fun hHeld => ?_)
                clear hK K
                refine last_ (i := 3) (N := none) #[true, true, true, true, false] rfl rfl (by kernel_rfl) (by decide) (fun K hK => ?_)
                refine skip_ (by rfl) rfl (exec_store_row 31 (.tmp 9) (.tmp 138) rfl gm #[.int .i64 last, .int .i64 size] rfl rfl 31 #[.int .i64 0, .int .i64 0] (blk_setRow HD.out.hm (Nat.ne_of_gt HD.out.hd.2.2.2) _) infoLog rfl (by simp [Value.oneCell'])) ?_
                refine hK.out _ _ ?_
                clear hK K
                refine pure_ (i := 4) (N := some 10) (v := ?_) (a' := ?_) #[true, true, true, true, true] rfl rfl (by kernel_rfl) (fun _ _ _ h => h) (Or.inl ⟨by rfl, ?_⟩) ?_ ?_
                rotate_left
                · intro w'
                  go_simp
                  with_reducible rfl
                rotate_left
                · simp only [Act.put, List.setIfInBounds_toArray, List.set_cons_zero, List.set_cons_succ, i64_w, i32_w]
                  rfl
                refine done_ (by kernel_rfl) ?_
                go_wp2
                have E := AeSt.ends (cs := #[.slice A5 l5.length c5, .int .i64 cap5, .int .i64 cnt5, .int .i64 cr5, .int .i64 fa5, .bool dn5]) HD.out HVD.out (#[.int .i64 last, .int .i64 size])
                refine bodyPost_ret (results_cct rfl _ _ gr gm 30 31 #[.slice A5 l5.length c5, .int .i64 cap5, .int .i64 cnt5, .int .i64 cr5, .int .i64 fa5, .bool dn5] (#[.int .i64 last, .int .i64 size]) (0, 0) (0, 0) _ _ rfl E.1 Tryz.underlying30 rfl infoFs rfl E.2.1 Tryz.underlying31 rfl infoLog) rfl ⟨_, rfl, E.2.2.1, E.2.2.2⟩
              · obtain rfl : 20 = code' := by have := HCD.out; rw [if_neg y0, if_neg y1] at this; exact this
                have k6 : (q5 == 11) = false := beq_eq_false_iff_ne.mpr y1
                go_upto_region 29 with fail
                have HD := Aside0.mk (H44.out.below (bd1 (Below.refl _ _)))
                have HVD := Aside0.mk (Kd.Rbe HV44.out (bd1 (Below.refl _ _)))
                clear H44 HV44
                refine start_ (n := 5) (S := (fun w' => w'.heap[gf]? = some (.cells #[.slice A5 l5.length c5, .int .i64 cap5, .int .i64 cnt5, .int .i64 cr5, .int .i64 fa5, .bool dn5] 30 (0, 0)) ∧ w'.heap[gl]? = some (.cells #[.int .i64 last, .int .i64 size] 31 (0, 0)))) (ds := [3]) #[false, false, false, false, false] (by kernel_rfl) rfl rfl ⟨(HD.out.hf : _), HD.out.hl⟩ (fun hHeld => ?_)
                refine take_ (i := 0) (N := some 139) (v := .agg #[.slice A5 l5.length c5, .int .i64 cap5, .int .i64 cnt5, .int .i64 cr5, .int .i64 fa5, .bool dn5]) (a' := ?_) #[true, false, false, false, false] rfl rfl (by kernel_rfl) (fun _ _ _ h => h) (Or.inl ⟨by rfl, fun w' hS => exec_load_row 30 (.tmp 4) rfl gf rfl 30 #[.slice A5 l5.length c5, .int .i64 cap5, .int .i64 cnt5, .int .i64 cr5, .int .i64 fa5, .bool dn5] hS.1 Tryz.underlying30 rfl infoFs⟩) hHeld ?_ ?_
                rotate_left
                · simp only [Act.put, List.setIfInBounds_toArray, List.set_cons_zero, List.set_cons_succ, i64_w, i32_w]
                  rfl
                refine take_ (i := 1) (N := some 140) (v := .agg #[.int .i64 last, .int .i64 size]) (a' := ?_) #[true, true, false, false, false] rfl rfl (by kernel_rfl) (fun _ _ _ h => h) (Or.inl ⟨by rfl, fun w' hS => exec_load_row 31 (.tmp 5) rfl gl rfl 31 #[.int .i64 last, .int .i64 size] hS.2 Tryz.underlying31 rfl infoLog⟩) hHeld ?_ ?_
                rotate_left
                · simp only [Act.put, List.setIfInBounds_toArray, List.set_cons_zero, List.set_cons_succ, i64_w, i32_w]
                  rfl
                refine one_ (i := 2) (N := none) #[true, true, true, false, false] rfl rfl (by kernel_rfl) (by decide) (fun K hK => ?_)
                refine skip_ (by rfl) rfl (exec_store_row 30 (.tmp 8) (.tmp 139) rfl gr #[.slice A5 l5.length c5, .int .i64 cap5, .int .i64 cnt5, .int .i64 cr5, .int .i64 fa5, .bool dn5] rfl rfl 30 #[.slice none 0 0, .int .i64 0, .int .i64 0, .int .i64 0, .int .i64 0, .bool false] HD.out.hr infoFs rfl (by simp [Value.oneCell'])) ?_
                refine hK.out _ _ ⟨blk_setRow (HD.out.hf) (Nat.ne_of_lt (Nat.lt_trans HD.out.hd.2.1 HD.out.hd.2.2.1)) _, blk_setRow HD.out.hl (Nat.ne_of_lt HD.out.hd.2.2.1) _⟩ (fun hHeld => ?_)
                clear hK K
                refine last_ (i := 3) (N := none) #[true, true, true, true, false] rfl rfl (by kernel_rfl) (by decide) (fun K hK => ?_)
                refine skip_ (by rfl) rfl (exec_store_row 31 (.tmp 9) (.tmp 140) rfl gm #[.int .i64 last, .int .i64 size] rfl rfl 31 #[.int .i64 0, .int .i64 0] (blk_setRow HD.out.hm (Nat.ne_of_gt HD.out.hd.2.2.2) _) infoLog rfl (by simp [Value.oneCell'])) ?_
                refine hK.out _ _ ?_
                clear hK K
                refine pure_ (i := 4) (N := some 10) (v := ?_) (a' := ?_) #[true, true, true, true, true] rfl rfl (by kernel_rfl) (fun _ _ _ h => h) (Or.inl ⟨by rfl, ?_⟩) ?_ ?_
                rotate_left
                · intro w'
                  go_simp
                  with_reducible rfl
                rotate_left
                · simp only [Act.put, List.setIfInBounds_toArray, List.set_cons_zero, List.set_cons_succ, i64_w, i32_w]
                  rfl
                refine done_ (by kernel_rfl) ?_
                go_wp2
                have E := AeSt.ends (cs := #[.slice A5 l5.length c5, .int .i64 cap5, .int .i64 cnt5, .int .i64 cr5, .int .i64 fa5, .bool dn5]) HD.out HVD.out (#[.int .i64 last, .int .i64 size])
                refine bodyPost_ret (results_cct rfl _ _ gr gm 30 31 #[.slice A5 l5.length c5, .int .i64 cap5, .int .i64 cnt5, .int .i64 cr5, .int .i64 fa5, .bool dn5] (#[.int .i64 last, .int .i64 size]) (0, 0) (0, 0) _ _ rfl E.1 Tryz.underlying30 rfl infoFs rfl E.2.1 Tryz.underlying31 rfl infoLog) rfl ⟨_, rfl, E.2.2.1, E.2.2.2⟩
end Go.Proofs.YtfknmohedlfmfaaGreatDoor.L
end
section
namespace Go.Proofs.YtfknmohedlfmfaaGreatDoor.L
open Go.RowKit Go.Proofs.YtfknmohedlfmfaaGreatDoorW.PrintWords Go.Proofs.YtfknmohedlfmfaaGreatDoorW.PrintLast Go.Proofs.YtfknmohedlfmfaaGreatDoorW.PrintMore
attribute [local go_sem] max2_int min2_int max_two min_two max_three min_three max_four min_four
set_option linter.unusedVariables false
set_option linter.unusedSimpArgs false
def impl_AppendEntry.f (k : Nat) (l0_0 : List (S61)) (a0_1 : Int) (a0_2 : Int) (a0_3 : Int) (a0_4 : Int) (a0_5 : Bool) (a1_0 : Int) (a1_1 : Int) (a2 : ByteArray) (a3 : Int) : Option ((List (S61)) × Int × Int × Int × Int × Bool × Int × Int × Int) :=
  if a2.size < 1 ∨ 60000 < a2.size ∨ a1_0 < 1 ∨ 9999 < a1_0 ∨ a1_1 < 0 ∨ 1000000000 < a1_1 ∨ a3 < 1 ∨ 1000000000 < a3 then (if l0_0.length ≤ 2000000 then some (l0_0, a0_1, a0_2, a0_3, a0_4, a0_5, a1_0, a1_1, 22) else none) else (impl_Frame.f k a2).bind fun f => if 1 ≤ f.size ∧ f.size ≤ 100000 ∧ l0_0.length ≤ 2000000 then apBody (fun l cap cnt cr fa dn kd nm d sz => impl_FsStep.f k l cap cnt cr fa dn kd nm d sz) (fun n => if 0 ≤ n ∧ n ≤ 9999 then some (segB n.toNat) else none) f l0_0 a0_1 a0_2 a0_3 a0_4 a0_5 a1_0 a1_1 a3 else none
theorem impl_AppendEntry.mono : ∀ a0 a1 a2 a3 a4 a5 a6 a7 a8 a9 k, LeO (impl_AppendEntry.f k a0 a1 a2 a3 a4 a5 a6 a7 a8 a9) (impl_AppendEntry.f (k + 1) a0 a1 a2 a3 a4 a5 a6 a7 a8 a9) := by
  intro a0 a1 a2 a3 a4 a5 a6 a7 a8 a9 k
  unfold impl_AppendEntry.f
  exact LeO.ite (LeO.refl _) (LeO.bind (impl_Frame.mono _ _) fun _ => LeO.ite (apBody_mono (fun _ _ _ _ _ _ _ _ _ _ => impl_FsStep.mono _ _ _ _ _ _ _ _ _ _ _) (fun _ => LeO.refl _)) (LeO.refl _))
theorem impl_AppendEntry.calls (k : Nat) (A0_0 : Option Addr) (c0_0 : Nat) (l0_0 : List (S61)) (a0_1 : Int) (a0_2 : Int) (a0_3 : Int) (a0_4 : Int) (a0_5 : Bool) (a1_0 : Int) (a1_1 : Int) (a2 : ByteArray) (a3 : Int) (r1 : List (S61)) (r2 : Int) (r3 : Int) (r4 : Int) (r5 : Int) (r6 : Bool) (r7 : Int) (r8 : Int) (r9 : Int) (w : World) (hG : GOK w) (hr0_0 : Kd.C k61 w A0_0 l0_0.length l0_0) (hc0_0 : l0_0.length ≤ c0_0) (h : impl_AppendEntry.f k l0_0 a0_1 a0_2 a0_3 a0_4 a0_5 a1_0 a1_1 a2 a3 = some (r1, r2, r3, r4, r5, r6, r7, r8, r9)) :
    Calls Tryz.prog 8 #[.agg #[.slice A0_0 l0_0.length c0_0, .int .i64 a0_1, .int .i64 a0_2, .int .i64 a0_3, .int .i64 a0_4, .bool a0_5], .agg #[.int .i64 a1_0, .int .i64 a1_1], .string a2, .int .i64 a3] w fun e w' => ∃ v0_ : Value, e = .returned (.tuple #[.agg #[v0_, .int .i64 r2, .int .i64 r3, .int .i64 r4, .int .i64 r5, .bool r6], .agg #[.int .i64 r7, .int .i64 r8], .int .i64 r9]) ∧ Kd.R k61 61 w' w.heap.size (fun _ => True) v0_ r1 ∧ Below w.heap.size w w' := by
  unfold impl_AppendEntry.f at h
  have hcopy := fun A c l cap cnt cr fa dn w' h1 h2 h3 => copyFs_any A c l cap cnt cr fa dn w' h1 h2 h3
  by_cases hbad : a2.size < 1 ∨ 60000 < a2.size ∨ a1_0 < 1 ∨ 9999 < a1_0 ∨ a1_1 < 0 ∨ 1000000000 < a1_1 ∨ a3 < 1 ∨ 1000000000 < a3
  · rw [if_pos hbad] at h
    by_cases hl : l0_0.length ≤ 2000000
    · rw [if_pos hl] at h
      simp only [Option.some.injEq, Prod.mk.injEq] at h
      obtain ⟨rfl, rfl, rfl, rfl, rfl, rfl, rfl, rfl, rfl⟩ := h
      exact implAp_bad A0_0 c0_0 l0_0 a0_1 a0_2 a0_3 a0_4 a0_5 a1_0 a1_1 a2 a3 w hr0_0 hc0_0 hl hcopy hbad
    · rw [if_neg hl] at h
      cases h
  · rw [if_neg hbad] at h
    replace h := Option.bind_eq_some_iff.mp h
    obtain ⟨f, hf, h⟩ := h
    have hframe := fun w' => impl_Frame.calls k a2 f w' hf
    by_cases hs : 1 ≤ f.size ∧ f.size ≤ 100000 ∧ l0_0.length ≤ 2000000
    · rw [if_pos hs] at h
      refine implAp_good A0_0 c0_0 l0_0 a0_1 a0_2 a0_3 a0_4 a0_5 a1_0 a1_1 a2 a3 w hr0_0 hc0_0 f (by omega) (by omega) (by omega) ⟨hs.1, hs.2.1⟩ hs.2.2 (by omega) hframe hcopy _ (fun n nm w' hb e => ?_) _ (fun A c l cap cnt cr fa dn kd nm d sz l' cap' cnt' cr' fa' dn' q w' e h1 h2 => impl_FsStep.calls k A c l cap cnt cr fa dn kd nm d sz l' cap' cnt' cr' fa' dn' q w' h1 h2 e) _ _ _ _ _ _ _ _ _ h
      by_cases hn : 0 ≤ n ∧ n ≤ 9999
      · simp only [if_pos hn] at e
        obtain rfl := Option.some.inj e
        have := segment_any n.toNat w' (hG.below hb) (by omega)
        rw [Int.toNat_of_nonneg hn.1] at this
        exact this
      · simp only [if_neg hn] at e
        cases e
    · rw [if_neg hs] at h
      cases h
def laws_eqFile.f (a0_0 : ByteArray) (a0_1 : ByteArray) (a0_2 : Int) (a1_0 : ByteArray) (a1_1 : ByteArray) (a1_2 : Int) : Option (Bool) := if a0_0.toList = a1_0.toList then (if a0_1.toList = a1_1.toList then (if a0_2 = a1_2 then (some true) else (some false)) else (some false)) else (some false)
set_option maxHeartbeats 8000000 in
set_option maxRecDepth 100000 in
theorem laws_eqFile.calls (a0_0 : ByteArray) (a0_1 : ByteArray) (a0_2 : Int) (a1_0 : ByteArray) (a1_1 : ByteArray) (a1_2 : Int) (r : Bool) (w : World) (h : laws_eqFile.f a0_0 a0_1 a0_2 a1_0 a1_1 a1_2 = some r) :
    Calls Tryz.prog 44 #[.agg #[.string a0_0, .string a0_1, .int .i64 a0_2], .agg #[.string a1_0, .string a1_1, .int .i64 a1_2]] w fun e w' => e = .returned (.bool r) ∧ Below w.heap.size w w' := by
  have hu61 := Tryz.underlying61; have HB := qK (Below.refl w.heap.size w); have H : (if a0_0.toList = a1_0.toList then (if a0_1.toList = a1_1.toList then (if a0_2 = a1_2 then (some true) else (some false)) else (some false)) else (some false)) = some r := h; clear h; by_cases c3 : a0_0.toList = a1_0.toList
  · rw [if_pos c3] at H; have c3b0 : (a0_0.toList == a1_0.toList) = true := beq_iff_eq.mpr c3; have c3b1 : (a0_0.toList != a1_0.toList) = false := bne_eq_false_iff_eq.mpr c3; clear c3; by_cases c4 : a0_1.toList = a1_1.toList
    · rw [if_pos c4] at H; have c4b0 : (a0_1.toList == a1_1.toList) = true := beq_iff_eq.mpr c4; have c4b1 : (a0_1.toList != a1_1.toList) = false := bne_eq_false_iff_eq.mpr c4; clear c4; by_cases c5 : a0_2 = a1_2
      · rw [if_pos c5] at H; have c5b0 : (a0_2 == a1_2) = true := beq_iff_eq.mpr c5; have c5b1 : (a0_2 != a1_2) = false := bne_eq_false_iff_eq.mpr c5; clear c5; obtain rfl := Option.some.inj H; go_enter Tryz.func44, Tryz.ntmps44; go_wp2_with (first | ((with_reducible refine gds (N := 2) rfl ?_); refine qbx 2 #[.string a0_0, .string a0_1, .int .i64 a0_2] 61 ?_; intro gb230 hg w6 hbox hb; have BK230 := qK (hbox); have GW230 := qK ((qW : w.heap.size ≤ gb230)); have GE230 := GW230; replace HB := qHB HB hb; clear hb hbox hg) | ((with_reducible refine gds (N := 3) rfl ?_); refine qbx 3 #[.string a1_0, .string a1_1, .int .i64 a1_2] 61 ?_; intro gb231 hg w7 hbox hb; have BK231 := qK (hbox); have GW231 := qK ((qW : w.heap.size ≤ gb231)); have GE231 := GW231; replace HB := qHB HB hb; have NB230_231 := qK (qlt BK230 hg); have NB231_230 := qK (qgt BK230 hg); replace BK230 := qbb BK230 hb; clear hb hbox hg; have hnb8 := NB230_231.out; have hnc8 := NB231_230.out; have hz9 := qz3 BK230.out; have hz10 := qz3 BK231.out)); go_ret; exact ⟨qR, qB⟩
      · rw [if_neg c5] at H; have c5b0 : (a0_2 == a1_2) = false := beq_eq_false_iff_ne.mpr c5; have c5b1 : (a0_2 != a1_2) = true := bne_iff_ne.mpr c5; obtain rfl := Option.some.inj H; go_enter Tryz.func44, Tryz.ntmps44; go_wp2_with (first | ((with_reducible refine gds (N := 2) rfl ?_); refine qbx 2 #[.string a0_0, .string a0_1, .int .i64 a0_2] 61 ?_; intro gb230 hg w11 hbox hb; have BK230 := qK (hbox); have GW230 := qK ((qW : w.heap.size ≤ gb230)); have GE230 := GW230; replace HB := qHB HB hb; clear hb hbox hg) | ((with_reducible refine gds (N := 3) rfl ?_); refine qbx 3 #[.string a1_0, .string a1_1, .int .i64 a1_2] 61 ?_; intro gb231 hg w12 hbox hb; have BK231 := qK (hbox); have GW231 := qK ((qW : w.heap.size ≤ gb231)); have GE231 := GW231; replace HB := qHB HB hb; have NB230_231 := qK (qlt BK230 hg); have NB231_230 := qK (qgt BK230 hg); replace BK230 := qbb BK230 hb; clear hb hbox hg; have hnb13 := NB230_231.out; have hnc13 := NB231_230.out; have hz14 := qz3 BK230.out; have hz15 := qz3 BK231.out)); go_ret; exact ⟨qR, qB⟩
    · rw [if_neg c4] at H; have c4b0 : (a0_1.toList == a1_1.toList) = false := beq_eq_false_iff_ne.mpr c4; have c4b1 : (a0_1.toList != a1_1.toList) = true := bne_iff_ne.mpr c4; obtain rfl := Option.some.inj H; go_enter Tryz.func44, Tryz.ntmps44; go_wp2_with (first | ((with_reducible refine gds (N := 2) rfl ?_); refine qbx 2 #[.string a0_0, .string a0_1, .int .i64 a0_2] 61 ?_; intro gb230 hg w16 hbox hb; have BK230 := qK (hbox); have GW230 := qK ((qW : w.heap.size ≤ gb230)); have GE230 := GW230; replace HB := qHB HB hb; clear hb hbox hg) | ((with_reducible refine gds (N := 3) rfl ?_); refine qbx 3 #[.string a1_0, .string a1_1, .int .i64 a1_2] 61 ?_; intro gb231 hg w17 hbox hb; have BK231 := qK (hbox); have GW231 := qK ((qW : w.heap.size ≤ gb231)); have GE231 := GW231; replace HB := qHB HB hb; have NB230_231 := qK (qlt BK230 hg); have NB231_230 := qK (qgt BK230 hg); replace BK230 := qbb BK230 hb; clear hb hbox hg; have hnb18 := NB230_231.out; have hnc18 := NB231_230.out; have hz19 := qz3 BK230.out; have hz20 := qz3 BK231.out)); go_ret; exact ⟨qR, qB⟩
  · rw [if_neg c3] at H; have c3b0 : (a0_0.toList == a1_0.toList) = false := beq_eq_false_iff_ne.mpr c3; have c3b1 : (a0_0.toList != a1_0.toList) = true := bne_iff_ne.mpr c3; obtain rfl := Option.some.inj H; go_enter Tryz.func44, Tryz.ntmps44; go_wp2_with (first | ((with_reducible refine gds (N := 2) rfl ?_); refine qbx 2 #[.string a0_0, .string a0_1, .int .i64 a0_2] 61 ?_; intro gb230 hg w21 hbox hb; have BK230 := qK (hbox); have GW230 := qK ((qW : w.heap.size ≤ gb230)); have GE230 := GW230; replace HB := qHB HB hb; clear hb hbox hg) | ((with_reducible refine gds (N := 3) rfl ?_); refine qbx 3 #[.string a1_0, .string a1_1, .int .i64 a1_2] 61 ?_; intro gb231 hg w22 hbox hb; have BK231 := qK (hbox); have GW231 := qK ((qW : w.heap.size ≤ gb231)); have GE231 := GW231; replace HB := qHB HB hb; have NB230_231 := qK (qlt BK230 hg); have NB231_230 := qK (qgt BK230 hg); replace BK230 := qbb BK230 hb; clear hb hbox hg; have hnb23 := NB230_231.out; have hnc23 := NB231_230.out; have hz24 := qz3 BK230.out; have hz25 := qz3 BK231.out)); go_ret; exact ⟨qR, qB⟩
def laws_eqFileS.l0 : Nat → List (S61) → List (S61) → Int → Option (Bool)
  | 0, _, _, _ => none
  | k + 1, x0, x1, x5 => if x5 < (x0.length : Int) then (if 0 ≤ x5 then (if x5 < (x1.length : Int) then ((laws_eqFile.f ((rd_T61 x0 x5).f0) ((rd_T61 x0 x5).f1) ((rd_T61 x0 x5).f2) ((rd_T61 x1 x5).f0) ((rd_T61 x1 x5).f1) ((rd_T61 x1 x5).f2)).bind fun t234 => (if t234 = true then (laws_eqFileS.l0 k x0 x1 (wrap64 (x5 + 1))) else (some false))) else (none)) else (none)) else (some true)
def laws_eqFileS.f (k : Nat) (l0 : List (S61)) (l1 : List (S61)) : Option (Bool) := if (l0.length : Int) = (l1.length : Int) then (laws_eqFileS.l0 k l0 l1 0) else (some false)
theorem laws_eqFileS.mono_l : ∀ k, (∀ y0 y1 y2, LeO (laws_eqFileS.l0 k y0 y1 y2) (laws_eqFileS.l0 (k + 1) y0 y1 y2))
  | 0 => fun _ _ _ r h => by simp [laws_eqFileS.l0] at h
  | k + 1 => by
    have ih0 := laws_eqFileS.mono_l k
    · intro y0 y1 y2
      unfold laws_eqFileS.l0
      repeat' first
      | (with_reducible exact ih0 _ _ _)
      | (with_reducible exact LeO.refl _)
      | (with_reducible exact LeO.none _)
      | (with_reducible refine LeO.ite ?_ ?_)
      | (with_reducible refine LeO.bind ?_ (fun _ => ?_))
      | exact ih0 _ _ _
      | exact LeO.none _
      | refine LeO.ite ?_ ?_
      | refine LeO.bind ?_ (fun _ => ?_)
theorem laws_eqFileS.mono : ∀ a0 a1 k, LeO (laws_eqFileS.f k a0 a1) (laws_eqFileS.f (k + 1) a0 a1) := by
  intro a0 a1 k
  have ih0 := laws_eqFileS.mono_l k
  unfold laws_eqFileS.f
  repeat' first
      | (with_reducible exact ih0 _ _ _)
      | (with_reducible exact LeO.refl _)
      | (with_reducible exact LeO.none _)
      | (with_reducible refine LeO.ite ?_ ?_)
      | (with_reducible refine LeO.bind ?_ (fun _ => ?_))
      | exact ih0 _ _ _
      | exact LeO.none _
      | refine LeO.ite ?_ ?_
      | refine LeO.bind ?_ (fun _ => ?_)
def laws_eqFileS.T6 : Bool × List (List Nat × List Nat) := (true, [([], []), ([], []), ([0, 1], [0, 1]), ([2], [2]), ([], []), ([], []), ([4, 5], [4, 5]), ([6], [6]), ([3, 7], [3, 7]), ([8], [8])])
def laws_eqFileS.B6 : List Nat := [0, 0, 3, 7, 0, 0, 48, 112, 255, 511]
theorem laws_eqFileS.tab6 : rtab .any (opsOf Tryz.f25 6) = laws_eqFileS.T6 := by kernel_rfl
theorem laws_eqFileS.bits6 : waitsOk laws_eqFileS.T6.2 laws_eqFileS.B6 = true := by kernel_rfl
set_option maxHeartbeats 8000000 in
set_option maxRecDepth 100000 in
theorem laws_eqFileS.calls (k : Nat) (A0 : Option Addr) (c0 : Nat) (l0 : List (S61)) (A1 : Option Addr) (c1 : Nat) (l1 : List (S61)) (r : Bool) (w : World) (hr0 : Kd.C k61 w A0 l0.length l0) (hc0 : l0.length ≤ c0) (hr1 : Kd.C k61 w A1 l1.length l1) (hc1 : l1.length ≤ c1) (h : laws_eqFileS.f k l0 l1 = some r) :
    Calls Tryz.prog 25 #[.slice A0 l0.length c0, .slice A1 l1.length c1] w fun e w' => e = .returned (.bool r) ∧ Below w.heap.size w w' := by
  have hu61 := Tryz.underlying61; have HR0 := qK hr0; have HC0 := qK hc0; clear hr0 hc0; have HR1 := qK hr1; have HC1 := qK hc1; clear hr1 hc1; have HB := qK (Below.refl w.heap.size w); have H : (if (l0.length : Int) = (l1.length : Int) then (laws_eqFileS.l0 k l0 l1 0) else (some false)) = some r := h; clear h; by_cases c3 : (l0.length : Int) = (l1.length : Int)
  · rw [if_pos c3] at H; have c3b0 : ((l0.length : Int) == (l1.length : Int)) = true := beq_iff_eq.mpr c3; have c3b1 : ((l0.length : Int) != (l1.length : Int)) = false := bne_eq_false_iff_eq.mpr c3; (have c3b2 : (l0.length == l1.length) = true := by first | simpa using c3 | (simp at c3 ⊢; omega)); clear c3; have H' := qK H; clear H; go_enter Tryz.func25, Tryz.ntmps25; go_wp2; go_loopg [5] k (fun kq v5 w' => ∃ (x5_1 : Int), v5 = .int .i64 x5_1 ∧ Aside0 (laws_eqFileS.l0 kq l0 l1 x5_1 = some r) ∧ Aside0 (kq ≤ k) ∧ Aside0 (Below w.heap.size w w'))
    case atStart => exact ⟨(0), qS, H', ⟨Nat.le_refl _⟩, ⟨qB⟩⟩
    case round =>
      clear H'; (try clear c1); (try clear c2); (try clear p2); (try clear c3); (try clear c3b0); (try clear c3b1); (try clear c3b2); obtain ⟨x5_1, rfl, HA, HK1, HB⟩ := hrel
      cases gk with
      | zero => exact absurd HA.out (by simp [laws_eqFileS.l0])
      | succ k1 =>
        have H := HA.out; clear HA; simp only [laws_eqFileS.l0] at H; by_cases c4 : x5_1 < (l0.length : Int)
        · rw [if_pos c4] at H; have c4b0 : decide (x5_1 < (l0.length : Int)) = true := decide_eq_true c4; clear c4; by_cases c5 : 0 ≤ x5_1
          · rw [if_pos c5] at H; have c5b0 : decide (0 ≤ x5_1) = true := decide_eq_true c5; clear c5; by_cases c6 : x5_1 < (l1.length : Int)
            · rw [if_pos c6] at H; have c6b0 : decide (x5_1 < (l1.length : Int)) = true := decide_eq_true c6; clear c6; replace H := Option.bind_eq_some_iff.mp H; obtain ⟨t234, A70, H⟩ := H; have A7 := qK A70; clear A70; by_cases c8 : t234 = true
              · subst c8; rw [if_pos rfl] at H; have H' := qK H; clear H; (try go_wp2); replace HB := qK (bd1 HB.out); have p232 : 0 ≤ (x5_1 : Int) := of_decide_eq_true qa; have q232 : x5_1 < (l0.length : Int) := of_decide_eq_true qa; obtain ⟨ad232, e232, hx232_0, hx232_1, hx232_2⟩ := at_T61 HR0.out x5_1 p232 q232; have hw232_2 := hx232_2; have hw232_1 := hx232_1; have hw232_0 := hx232_0; cases e232; replace hx232_0 := (HB.out.cell (World.block_lt_of_cell? w _ hx232_0)).trans hx232_0; replace hx232_1 := (HB.out.cell (World.block_lt_of_cell? w _ hx232_1)).trans hx232_1; replace hx232_2 := (HB.out.cell (World.block_lt_of_cell? w _ hx232_2)).trans hx232_2; replace p232 := eq_true p232; replace q232 := eq_true q232; have p233 : 0 ≤ (x5_1 : Int) := of_decide_eq_true qa; have q233 : x5_1 < (l1.length : Int) := of_decide_eq_true qa; obtain ⟨ad233, e233, hx233_0, hx233_1, hx233_2⟩ := at_T61 HR1.out x5_1 p233 q233; have hw233_2 := hx233_2; have hw233_1 := hx233_1; have hw233_0 := hx233_0; cases e233; replace hx233_0 := (HB.out.cell (World.block_lt_of_cell? w _ hx233_0)).trans hx233_0; replace hx233_1 := (HB.out.cell (World.block_lt_of_cell? w _ hx233_1)).trans hx233_1; replace hx233_2 := (HB.out.cell (World.block_lt_of_cell? w _ hx233_2)).trans hx233_2; replace p233 := eq_true p233; replace q233 := eq_true q233; refine qs 10 (fun w' => w'.cell? (ad232.add ((x5_1).toNat * 3)) = some (.string ((rd_T61 l0 x5_1).f0)) ∧ w'.cell? ⟨(ad232.add ((x5_1).toNat * 3)).block, (ad232.add ((x5_1).toNat * 3)).off + 1, none⟩ = some (.string ((rd_T61 l0 x5_1).f1)) ∧ w'.cell? ⟨(ad232.add ((x5_1).toNat * 3)).block, (ad232.add ((x5_1).toNat * 3)).off + 2, none⟩ = some (.int .i64 ((rd_T61 l0 x5_1).f2)) ∧ w'.cell? (ad233.add ((x5_1).toNat * 3)) = some (.string ((rd_T61 l1 x5_1).f0)) ∧ w'.cell? ⟨(ad233.add ((x5_1).toNat * 3)).block, (ad233.add ((x5_1).toNat * 3)).off + 1, none⟩ = some (.string ((rd_T61 l1 x5_1).f1)) ∧ w'.cell? ⟨(ad233.add ((x5_1).toNat * 3)).block, (ad233.add ((x5_1).toNat * 3)).off + 2, none⟩ = some (.int .i64 ((rd_T61 l1 x5_1).f2))) (ds := []) ⟨((HB.out.cell (World.block_lt_of_cell? w _ hw232_0)).trans hw232_0), ((HB.out.cell (World.block_lt_of_cell? w _ hw232_1)).trans hw232_1), ((HB.out.cell (World.block_lt_of_cell? w _ hw232_2)).trans hw232_2), ((HB.out.cell (World.block_lt_of_cell? w _ hw233_0)).trans hw233_0), ((HB.out.cell (World.block_lt_of_cell? w _ hw233_1)).trans hw233_1), ((HB.out.cell (World.block_lt_of_cell? w _ hw233_2)).trans hw233_2)⟩ (fun hHeld => ?_); refine with_tabW laws_eqFileS.tab6 laws_eqFileS.bits6 (fun HT_ HW_ => ?_); generalize wr.drew = w9 at HB hx232_0 hx232_1 hx232_2 hx233_0 hx233_1 hx233_2 hHeld ⊢; refine qp 0 17 ?_; refine qp 1 18 ?_; refine qp 2 19 ?_; refine qp 4 21 ?_; refine qp 5 22 ?_; refine qp 6 23 ?_; refine qt 3 20 ?_; refine qt 7 24 ?_; refine qo 8 25 (fun K hK => ?_); refine goes_ Tryz.func44 (by kernel_rfl) rfl #[.agg #[.string ((rd_T61 l0 x5_1).f0), .string ((rd_T61 l0 x5_1).f1), .int .i64 ((rd_T61 l0 x5_1).f2)], .agg #[.string ((rd_T61 l1 x5_1).f0), .string ((rd_T61 l1 x5_1).f1), .int .i64 ((rd_T61 l1 x5_1).f2)]] (by rfl) rfl rfl qA ?_; (with_reducible refine (laws_eqFile.calls ((rd_T61 l0 x5_1).f0) ((rd_T61 l0 x5_1).f1) ((rd_T61 l0 x5_1).f2) ((rd_T61 l1 x5_1).f0) ((rd_T61 l1 x5_1).f1) ((rd_T61 l1 x5_1).f2) true _ A7.out).mono ?_); rintro e w10 ⟨rfl, hb⟩; refine ⟨_, rfl, ?_⟩; replace HB := qHB HB hb; (try clear hb); (try clear hb2); (try clear hk); (try clear hi); refine hK.out _ _ ⟨((HB.out.cell (World.block_lt_of_cell? w _ hw232_0)).trans hw232_0), ((HB.out.cell (World.block_lt_of_cell? w _ hw232_1)).trans hw232_1), ((HB.out.cell (World.block_lt_of_cell? w _ hw232_2)).trans hw232_2), ((HB.out.cell (World.block_lt_of_cell? w _ hw233_0)).trans hw233_0), ((HB.out.cell (World.block_lt_of_cell? w _ hw233_1)).trans hw233_1), ((HB.out.cell (World.block_lt_of_cell? w _ hw233_2)).trans hw233_2)⟩ (fun hHeld => ?_); clear hK K; refine norm_ (a' := ?_) ?_ ?_; rotate_left
                · show Act.put _ (some 25) _ = _; simp only [Act.put, List.setIfInBounds_toArray, List.set_cons_zero, List.set_cons_succ, i64_w, i32_w]; rfl
                refine qp 9 26 ?_; refine done_ (done_of HT_.out (by kernel_rfl)) ?_; (try go_wp2); go_roundg k1
                case measure => have := HK1.out; omega
                case rel => exact ⟨(wrap64 (x5_1 + 1)), qS, H', ⟨by have := HK1.out; omega⟩, ⟨qB⟩⟩
              · replace c8 := Bool.eq_false_iff.mpr c8; subst c8; rw [if_neg qff] at H; obtain rfl := Option.some.inj H; (try go_wp2); replace HB := qK (bd1 HB.out); have p232 : 0 ≤ (x5_1 : Int) := of_decide_eq_true qa; have q232 : x5_1 < (l0.length : Int) := of_decide_eq_true qa; obtain ⟨ad232, e232, hx232_0, hx232_1, hx232_2⟩ := at_T61 HR0.out x5_1 p232 q232; have hw232_2 := hx232_2; have hw232_1 := hx232_1; have hw232_0 := hx232_0; cases e232; replace hx232_0 := (HB.out.cell (World.block_lt_of_cell? w _ hx232_0)).trans hx232_0; replace hx232_1 := (HB.out.cell (World.block_lt_of_cell? w _ hx232_1)).trans hx232_1; replace hx232_2 := (HB.out.cell (World.block_lt_of_cell? w _ hx232_2)).trans hx232_2; replace p232 := eq_true p232; replace q232 := eq_true q232; have p233 : 0 ≤ (x5_1 : Int) := of_decide_eq_true qa; have q233 : x5_1 < (l1.length : Int) := of_decide_eq_true qa; obtain ⟨ad233, e233, hx233_0, hx233_1, hx233_2⟩ := at_T61 HR1.out x5_1 p233 q233; have hw233_2 := hx233_2; have hw233_1 := hx233_1; have hw233_0 := hx233_0; cases e233; replace hx233_0 := (HB.out.cell (World.block_lt_of_cell? w _ hx233_0)).trans hx233_0; replace hx233_1 := (HB.out.cell (World.block_lt_of_cell? w _ hx233_1)).trans hx233_1; replace hx233_2 := (HB.out.cell (World.block_lt_of_cell? w _ hx233_2)).trans hx233_2; replace p233 := eq_true p233; replace q233 := eq_true q233; refine qs 10 (fun w' => w'.cell? (ad232.add ((x5_1).toNat * 3)) = some (.string ((rd_T61 l0 x5_1).f0)) ∧ w'.cell? ⟨(ad232.add ((x5_1).toNat * 3)).block, (ad232.add ((x5_1).toNat * 3)).off + 1, none⟩ = some (.string ((rd_T61 l0 x5_1).f1)) ∧ w'.cell? ⟨(ad232.add ((x5_1).toNat * 3)).block, (ad232.add ((x5_1).toNat * 3)).off + 2, none⟩ = some (.int .i64 ((rd_T61 l0 x5_1).f2)) ∧ w'.cell? (ad233.add ((x5_1).toNat * 3)) = some (.string ((rd_T61 l1 x5_1).f0)) ∧ w'.cell? ⟨(ad233.add ((x5_1).toNat * 3)).block, (ad233.add ((x5_1).toNat * 3)).off + 1, none⟩ = some (.string ((rd_T61 l1 x5_1).f1)) ∧ w'.cell? ⟨(ad233.add ((x5_1).toNat * 3)).block, (ad233.add ((x5_1).toNat * 3)).off + 2, none⟩ = some (.int .i64 ((rd_T61 l1 x5_1).f2))) (ds := []) ⟨((HB.out.cell (World.block_lt_of_cell? w _ hw232_0)).trans hw232_0), ((HB.out.cell (World.block_lt_of_cell? w _ hw232_1)).trans hw232_1), ((HB.out.cell (World.block_lt_of_cell? w _ hw232_2)).trans hw232_2), ((HB.out.cell (World.block_lt_of_cell? w _ hw233_0)).trans hw233_0), ((HB.out.cell (World.block_lt_of_cell? w _ hw233_1)).trans hw233_1), ((HB.out.cell (World.block_lt_of_cell? w _ hw233_2)).trans hw233_2)⟩ (fun hHeld => ?_); refine with_tabW laws_eqFileS.tab6 laws_eqFileS.bits6 (fun HT_ HW_ => ?_); generalize wr.drew = w11 at HB hx232_0 hx232_1 hx232_2 hx233_0 hx233_1 hx233_2 hHeld ⊢; refine qp 0 17 ?_; refine qp 1 18 ?_; refine qp 2 19 ?_; refine qp 4 21 ?_; refine qp 5 22 ?_; refine qp 6 23 ?_; refine qt 3 20 ?_; refine qt 7 24 ?_; refine qo 8 25 (fun K hK => ?_); refine goes_ Tryz.func44 (by kernel_rfl) rfl #[.agg #[.string ((rd_T61 l0 x5_1).f0), .string ((rd_T61 l0 x5_1).f1), .int .i64 ((rd_T61 l0 x5_1).f2)], .agg #[.string ((rd_T61 l1 x5_1).f0), .string ((rd_T61 l1 x5_1).f1), .int .i64 ((rd_T61 l1 x5_1).f2)]] (by rfl) rfl rfl qA ?_; (with_reducible refine (laws_eqFile.calls ((rd_T61 l0 x5_1).f0) ((rd_T61 l0 x5_1).f1) ((rd_T61 l0 x5_1).f2) ((rd_T61 l1 x5_1).f0) ((rd_T61 l1 x5_1).f1) ((rd_T61 l1 x5_1).f2) false _ A7.out).mono ?_); rintro e w12 ⟨rfl, hb⟩; refine ⟨_, rfl, ?_⟩; replace HB := qHB HB hb; (try clear hb); (try clear hb2); (try clear hk); (try clear hi); refine hK.out _ _ ⟨((HB.out.cell (World.block_lt_of_cell? w _ hw232_0)).trans hw232_0), ((HB.out.cell (World.block_lt_of_cell? w _ hw232_1)).trans hw232_1), ((HB.out.cell (World.block_lt_of_cell? w _ hw232_2)).trans hw232_2), ((HB.out.cell (World.block_lt_of_cell? w _ hw233_0)).trans hw233_0), ((HB.out.cell (World.block_lt_of_cell? w _ hw233_1)).trans hw233_1), ((HB.out.cell (World.block_lt_of_cell? w _ hw233_2)).trans hw233_2)⟩ (fun hHeld => ?_); clear hK K; refine norm_ (a' := ?_) ?_ ?_; rotate_left
                · show Act.put _ (some 25) _ = _; simp only [Act.put, List.setIfInBounds_toArray, List.set_cons_zero, List.set_cons_succ, i64_w, i32_w]; rfl
                refine qp 9 26 ?_; refine done_ (done_of HT_.out (by kernel_rfl)) ?_; (try go_wp2); go_ret; exact ⟨qR, qB⟩
            · rw [if_neg c6] at H; exact absurd H (by simp)
          · rw [if_neg c5] at H; exact absurd H (by simp)
        · rw [if_neg c4] at H; have c4b0 : decide (x5_1 < (l0.length : Int)) = false := decide_eq_false c4; clear c4; obtain rfl := Option.some.inj H; go_wp2; go_ret; exact ⟨qR, qB⟩
  · rw [if_neg c3] at H; have c3b0 : ((l0.length : Int) == (l1.length : Int)) = false := beq_eq_false_iff_ne.mpr c3; have c3b1 : ((l0.length : Int) != (l1.length : Int)) = true := bne_iff_ne.mpr c3; (have c3b2 : (l0.length == l1.length) = false := by first | simpa using c3 | (simp at c3 ⊢; omega)); obtain rfl := Option.some.inj H; go_enter Tryz.func25, Tryz.ntmps25; go_wp2; go_ret; exact ⟨qR, qB⟩
def laws_eqFs.f (k : Nat) (l0_0 : List (S61)) (a0_1 : Int) (a0_2 : Int) (a0_3 : Int) (a0_4 : Int) (a0_5 : Bool) (l1_0 : List (S61)) (a1_1 : Int) (a1_2 : Int) (a1_3 : Int) (a1_4 : Int) (a1_5 : Bool) : Option (Bool) := (laws_eqFileS.f k l0_0 l1_0).bind fun t237 => (if t237 = true then (if a0_1 = a1_1 then (if a0_2 = a1_2 then (if a0_3 = a1_3 then (if a0_4 = a1_4 then (if (a0_5 != a1_5) = true then (some false) else (some true)) else (some false)) else (some false)) else (some false)) else (some false)) else (some false))
theorem laws_eqFs.mono : ∀ a0 a1 a2 a3 a4 a5 a6 a7 a8 a9 a10 a11 k, LeO (laws_eqFs.f k a0 a1 a2 a3 a4 a5 a6 a7 a8 a9 a10 a11) (laws_eqFs.f (k + 1) a0 a1 a2 a3 a4 a5 a6 a7 a8 a9 a10 a11) := by
  intro a0 a1 a2 a3 a4 a5 a6 a7 a8 a9 a10 a11 k
  unfold laws_eqFs.f
  repeat' first
      | (with_reducible exact laws_eqFileS.mono _ _ _)
      | (with_reducible exact LeO.refl _)
      | (with_reducible exact LeO.none _)
      | (with_reducible refine LeO.ite ?_ ?_)
      | (with_reducible refine LeO.bind ?_ (fun _ => ?_))
      | exact laws_eqFileS.mono _ _ _
      | exact LeO.none _
      | refine LeO.ite ?_ ?_
      | refine LeO.bind ?_ (fun _ => ?_)
set_option maxHeartbeats 8000000 in
set_option maxRecDepth 100000 in
theorem laws_eqFs.calls (k : Nat) (A0_0 : Option Addr) (c0_0 : Nat) (l0_0 : List (S61)) (a0_1 : Int) (a0_2 : Int) (a0_3 : Int) (a0_4 : Int) (a0_5 : Bool) (A1_0 : Option Addr) (c1_0 : Nat) (l1_0 : List (S61)) (a1_1 : Int) (a1_2 : Int) (a1_3 : Int) (a1_4 : Int) (a1_5 : Bool) (r : Bool) (w : World) (hr0_0 : Kd.C k61 w A0_0 l0_0.length l0_0) (hc0_0 : l0_0.length ≤ c0_0) (hr1_0 : Kd.C k61 w A1_0 l1_0.length l1_0) (hc1_0 : l1_0.length ≤ c1_0) (h : laws_eqFs.f k l0_0 a0_1 a0_2 a0_3 a0_4 a0_5 l1_0 a1_1 a1_2 a1_3 a1_4 a1_5 = some r) :
    Calls Tryz.prog 9 #[.agg #[.slice A0_0 l0_0.length c0_0, .int .i64 a0_1, .int .i64 a0_2, .int .i64 a0_3, .int .i64 a0_4, .bool a0_5], .agg #[.slice A1_0 l1_0.length c1_0, .int .i64 a1_1, .int .i64 a1_2, .int .i64 a1_3, .int .i64 a1_4, .bool a1_5]] w fun e w' => e = .returned (.bool r) ∧ Below w.heap.size w w' := by
  have hu30 := Tryz.underlying30; have HR0_0 := qK hr0_0; have HC0_0 := qK hc0_0; clear hr0_0 hc0_0; have HR1_0 := qK hr1_0; have HC1_0 := qK hc1_0; clear hr1_0 hc1_0; have HB := qK (Below.refl w.heap.size w); have H : ((laws_eqFileS.f k l0_0 l1_0).bind fun t237 => (if t237 = true then (if a0_1 = a1_1 then (if a0_2 = a1_2 then (if a0_3 = a1_3 then (if a0_4 = a1_4 then (if (a0_5 != a1_5) = true then (some false) else (some true)) else (some false)) else (some false)) else (some false)) else (some false)) else (some false))) = some r := h; clear h; replace H := Option.bind_eq_some_iff.mp H; obtain ⟨t237, A30, H⟩ := H; have A3 := qK A30; clear A30; by_cases c4 : t237 = true
  · subst c4; rw [if_pos rfl] at H; by_cases c5 : a0_1 = a1_1
    · rw [if_pos c5] at H; have c5b0 : (a0_1 == a1_1) = true := beq_iff_eq.mpr c5; have c5b1 : (a0_1 != a1_1) = false := bne_eq_false_iff_eq.mpr c5; clear c5; by_cases c6 : a0_2 = a1_2
      · rw [if_pos c6] at H; have c6b0 : (a0_2 == a1_2) = true := beq_iff_eq.mpr c6; have c6b1 : (a0_2 != a1_2) = false := bne_eq_false_iff_eq.mpr c6; clear c6; by_cases c7 : a0_3 = a1_3
        · rw [if_pos c7] at H; have c7b0 : (a0_3 == a1_3) = true := beq_iff_eq.mpr c7; have c7b1 : (a0_3 != a1_3) = false := bne_eq_false_iff_eq.mpr c7; clear c7; by_cases c8 : a0_4 = a1_4
          · rw [if_pos c8] at H; have c8b0 : (a0_4 == a1_4) = true := beq_iff_eq.mpr c8; have c8b1 : (a0_4 != a1_4) = false := bne_eq_false_iff_eq.mpr c8; clear c8; by_cases c9 : (a0_5 != a1_5) = true
            · rw [if_pos c9] at H; have c9b0 : (a0_5 != a1_5) = true := c9; (try (have c9b1 : decide (a0_5 = a1_5) = false := by simpa using c9)); (try (have c9b2 : (a0_5 == a1_5) = false := by simpa using c9)); (try (have c9b3 : ¬ (a0_5 = a1_5) := by simpa using c9)); clear c9; obtain rfl := Option.some.inj H; go_enter Tryz.func9, Tryz.ntmps9; go_wp2_with (first | ((with_reducible refine gds (N := 2) rfl ?_); refine qbx 2 #[.slice A0_0 l0_0.length c0_0, .int .i64 a0_1, .int .i64 a0_2, .int .i64 a0_3, .int .i64 a0_4, .bool a0_5] 30 ?_; intro gb235 hg w10 hbox hb; have BK235 := qK (hbox); have GW235 := qK ((qW : w.heap.size ≤ gb235)); have GE235 := GW235; replace HB := qHB HB hb; clear hb hbox hg) | ((with_reducible refine gds (N := 3) rfl ?_); refine qbx 3 #[.slice A1_0 l1_0.length c1_0, .int .i64 a1_1, .int .i64 a1_2, .int .i64 a1_3, .int .i64 a1_4, .bool a1_5] 30 ?_; intro gb236 hg w11 hbox hb; have BK236 := qK (hbox); have GW236 := qK ((qW : w.heap.size ≤ gb236)); have GE236 := GW236; replace HB := qHB HB hb; have NB235_236 := qK (qlt BK235 hg); have NB236_235 := qK (qgt BK235 hg); replace BK235 := qbb BK235 hb; clear hb hbox hg; have hnb12 := NB235_236.out; have hnc12 := NB236_235.out; have hz13 := qz6 BK235.out; have hz14 := qz6 BK236.out) | ((with_reducible refine gcl (f := 25) rfl ?_); refine goesL_ (some 9) rfl rfl Tryz.func25 (by kernel_rfl) rfl #[.slice A0_0 l0_0.length c0_0, .slice A1_0 l1_0.length c1_0] rfl qA ?_; (with_reducible refine (laws_eqFileS.calls k _ _ l0_0 _ _ l1_0 true _ ?side1 ?side2 ?side3 ?side4 A3.out).mono ?_); (case side1 => exact qC HR0_0); (case side2 => exact HC0_0.out); (case side3 => exact qC HR1_0); (case side4 => exact HC1_0.out); rintro e w15 ⟨rfl, hb⟩; refine ⟨_, rfl, ?_⟩; replace BK235 := qbb BK235 hb; replace BK236 := qbb BK236 hb; replace HB := qHB HB hb; (try clear hb); (try clear hb2); (try clear hk); (try clear hi); have hz16 := qz6 BK235.out; have hz17 := qz6 BK236.out)); go_ret; exact ⟨qR, qB⟩
            · rw [if_neg c9] at H; (have c9b0 : (a0_5 != a1_5) = false := by simpa using c9); (try (have c9b1 : decide (a0_5 = a1_5) = true := by simpa using c9)); (try (have c9b2 : (a0_5 == a1_5) = true := by simpa using c9)); clear c9; obtain rfl := Option.some.inj H; go_enter Tryz.func9, Tryz.ntmps9; go_wp2_with (first | ((with_reducible refine gds (N := 2) rfl ?_); refine qbx 2 #[.slice A0_0 l0_0.length c0_0, .int .i64 a0_1, .int .i64 a0_2, .int .i64 a0_3, .int .i64 a0_4, .bool a0_5] 30 ?_; intro gb235 hg w18 hbox hb; have BK235 := qK (hbox); have GW235 := qK ((qW : w.heap.size ≤ gb235)); have GE235 := GW235; replace HB := qHB HB hb; clear hb hbox hg) | ((with_reducible refine gds (N := 3) rfl ?_); refine qbx 3 #[.slice A1_0 l1_0.length c1_0, .int .i64 a1_1, .int .i64 a1_2, .int .i64 a1_3, .int .i64 a1_4, .bool a1_5] 30 ?_; intro gb236 hg w19 hbox hb; have BK236 := qK (hbox); have GW236 := qK ((qW : w.heap.size ≤ gb236)); have GE236 := GW236; replace HB := qHB HB hb; have NB235_236 := qK (qlt BK235 hg); have NB236_235 := qK (qgt BK235 hg); replace BK235 := qbb BK235 hb; clear hb hbox hg; have hnb20 := NB235_236.out; have hnc20 := NB236_235.out; have hz21 := qz6 BK235.out; have hz22 := qz6 BK236.out) | ((with_reducible refine gcl (f := 25) rfl ?_); refine goesL_ (some 9) rfl rfl Tryz.func25 (by kernel_rfl) rfl #[.slice A0_0 l0_0.length c0_0, .slice A1_0 l1_0.length c1_0] rfl qA ?_; (with_reducible refine (laws_eqFileS.calls k _ _ l0_0 _ _ l1_0 true _ ?side1 ?side2 ?side3 ?side4 A3.out).mono ?_); (case side1 => exact qC HR0_0); (case side2 => exact HC0_0.out); (case side3 => exact qC HR1_0); (case side4 => exact HC1_0.out); rintro e w23 ⟨rfl, hb⟩; refine ⟨_, rfl, ?_⟩; replace BK235 := qbb BK235 hb; replace BK236 := qbb BK236 hb; replace HB := qHB HB hb; (try clear hb); (try clear hb2); (try clear hk); (try clear hi); have hz24 := qz6 BK235.out; have hz25 := qz6 BK236.out)); go_ret; exact ⟨qR, qB⟩
          · rw [if_neg c8] at H; have c8b0 : (a0_4 == a1_4) = false := beq_eq_false_iff_ne.mpr c8; have c8b1 : (a0_4 != a1_4) = true := bne_iff_ne.mpr c8; obtain rfl := Option.some.inj H; go_enter Tryz.func9, Tryz.ntmps9; go_wp2_with (first | ((with_reducible refine gds (N := 2) rfl ?_); refine qbx 2 #[.slice A0_0 l0_0.length c0_0, .int .i64 a0_1, .int .i64 a0_2, .int .i64 a0_3, .int .i64 a0_4, .bool a0_5] 30 ?_; intro gb235 hg w26 hbox hb; have BK235 := qK (hbox); have GW235 := qK ((qW : w.heap.size ≤ gb235)); have GE235 := GW235; replace HB := qHB HB hb; clear hb hbox hg) | ((with_reducible refine gds (N := 3) rfl ?_); refine qbx 3 #[.slice A1_0 l1_0.length c1_0, .int .i64 a1_1, .int .i64 a1_2, .int .i64 a1_3, .int .i64 a1_4, .bool a1_5] 30 ?_; intro gb236 hg w27 hbox hb; have BK236 := qK (hbox); have GW236 := qK ((qW : w.heap.size ≤ gb236)); have GE236 := GW236; replace HB := qHB HB hb; have NB235_236 := qK (qlt BK235 hg); have NB236_235 := qK (qgt BK235 hg); replace BK235 := qbb BK235 hb; clear hb hbox hg; have hnb28 := NB235_236.out; have hnc28 := NB236_235.out; have hz29 := qz6 BK235.out; have hz30 := qz6 BK236.out) | ((with_reducible refine gcl (f := 25) rfl ?_); refine goesL_ (some 9) rfl rfl Tryz.func25 (by kernel_rfl) rfl #[.slice A0_0 l0_0.length c0_0, .slice A1_0 l1_0.length c1_0] rfl qA ?_; (with_reducible refine (laws_eqFileS.calls k _ _ l0_0 _ _ l1_0 true _ ?side1 ?side2 ?side3 ?side4 A3.out).mono ?_); (case side1 => exact qC HR0_0); (case side2 => exact HC0_0.out); (case side3 => exact qC HR1_0); (case side4 => exact HC1_0.out); rintro e w31 ⟨rfl, hb⟩; refine ⟨_, rfl, ?_⟩; replace BK235 := qbb BK235 hb; replace BK236 := qbb BK236 hb; replace HB := qHB HB hb; (try clear hb); (try clear hb2); (try clear hk); (try clear hi); have hz32 := qz6 BK235.out; have hz33 := qz6 BK236.out)); go_ret; exact ⟨qR, qB⟩
        · rw [if_neg c7] at H; have c7b0 : (a0_3 == a1_3) = false := beq_eq_false_iff_ne.mpr c7; have c7b1 : (a0_3 != a1_3) = true := bne_iff_ne.mpr c7; obtain rfl := Option.some.inj H; go_enter Tryz.func9, Tryz.ntmps9; go_wp2_with (first | ((with_reducible refine gds (N := 2) rfl ?_); refine qbx 2 #[.slice A0_0 l0_0.length c0_0, .int .i64 a0_1, .int .i64 a0_2, .int .i64 a0_3, .int .i64 a0_4, .bool a0_5] 30 ?_; intro gb235 hg w34 hbox hb; have BK235 := qK (hbox); have GW235 := qK ((qW : w.heap.size ≤ gb235)); have GE235 := GW235; replace HB := qHB HB hb; clear hb hbox hg) | ((with_reducible refine gds (N := 3) rfl ?_); refine qbx 3 #[.slice A1_0 l1_0.length c1_0, .int .i64 a1_1, .int .i64 a1_2, .int .i64 a1_3, .int .i64 a1_4, .bool a1_5] 30 ?_; intro gb236 hg w35 hbox hb; have BK236 := qK (hbox); have GW236 := qK ((qW : w.heap.size ≤ gb236)); have GE236 := GW236; replace HB := qHB HB hb; have NB235_236 := qK (qlt BK235 hg); have NB236_235 := qK (qgt BK235 hg); replace BK235 := qbb BK235 hb; clear hb hbox hg; have hnb36 := NB235_236.out; have hnc36 := NB236_235.out; have hz37 := qz6 BK235.out; have hz38 := qz6 BK236.out) | ((with_reducible refine gcl (f := 25) rfl ?_); refine goesL_ (some 9) rfl rfl Tryz.func25 (by kernel_rfl) rfl #[.slice A0_0 l0_0.length c0_0, .slice A1_0 l1_0.length c1_0] rfl qA ?_; (with_reducible refine (laws_eqFileS.calls k _ _ l0_0 _ _ l1_0 true _ ?side1 ?side2 ?side3 ?side4 A3.out).mono ?_); (case side1 => exact qC HR0_0); (case side2 => exact HC0_0.out); (case side3 => exact qC HR1_0); (case side4 => exact HC1_0.out); rintro e w39 ⟨rfl, hb⟩; refine ⟨_, rfl, ?_⟩; replace BK235 := qbb BK235 hb; replace BK236 := qbb BK236 hb; replace HB := qHB HB hb; (try clear hb); (try clear hb2); (try clear hk); (try clear hi); have hz40 := qz6 BK235.out; have hz41 := qz6 BK236.out)); go_ret; exact ⟨qR, qB⟩
      · rw [if_neg c6] at H; have c6b0 : (a0_2 == a1_2) = false := beq_eq_false_iff_ne.mpr c6; have c6b1 : (a0_2 != a1_2) = true := bne_iff_ne.mpr c6; obtain rfl := Option.some.inj H; go_enter Tryz.func9, Tryz.ntmps9; go_wp2_with (first | ((with_reducible refine gds (N := 2) rfl ?_); refine qbx 2 #[.slice A0_0 l0_0.length c0_0, .int .i64 a0_1, .int .i64 a0_2, .int .i64 a0_3, .int .i64 a0_4, .bool a0_5] 30 ?_; intro gb235 hg w42 hbox hb; have BK235 := qK (hbox); have GW235 := qK ((qW : w.heap.size ≤ gb235)); have GE235 := GW235; replace HB := qHB HB hb; clear hb hbox hg) | ((with_reducible refine gds (N := 3) rfl ?_); refine qbx 3 #[.slice A1_0 l1_0.length c1_0, .int .i64 a1_1, .int .i64 a1_2, .int .i64 a1_3, .int .i64 a1_4, .bool a1_5] 30 ?_; intro gb236 hg w43 hbox hb; have BK236 := qK (hbox); have GW236 := qK ((qW : w.heap.size ≤ gb236)); have GE236 := GW236; replace HB := qHB HB hb; have NB235_236 := qK (qlt BK235 hg); have NB236_235 := qK (qgt BK235 hg); replace BK235 := qbb BK235 hb; clear hb hbox hg; have hnb44 := NB235_236.out; have hnc44 := NB236_235.out; have hz45 := qz6 BK235.out; have hz46 := qz6 BK236.out) | ((with_reducible refine gcl (f := 25) rfl ?_); refine goesL_ (some 9) rfl rfl Tryz.func25 (by kernel_rfl) rfl #[.slice A0_0 l0_0.length c0_0, .slice A1_0 l1_0.length c1_0] rfl qA ?_; (with_reducible refine (laws_eqFileS.calls k _ _ l0_0 _ _ l1_0 true _ ?side1 ?side2 ?side3 ?side4 A3.out).mono ?_); (case side1 => exact qC HR0_0); (case side2 => exact HC0_0.out); (case side3 => exact qC HR1_0); (case side4 => exact HC1_0.out); rintro e w47 ⟨rfl, hb⟩; refine ⟨_, rfl, ?_⟩; replace BK235 := qbb BK235 hb; replace BK236 := qbb BK236 hb; replace HB := qHB HB hb; (try clear hb); (try clear hb2); (try clear hk); (try clear hi); have hz48 := qz6 BK235.out; have hz49 := qz6 BK236.out)); go_ret; exact ⟨qR, qB⟩
    · rw [if_neg c5] at H; have c5b0 : (a0_1 == a1_1) = false := beq_eq_false_iff_ne.mpr c5; have c5b1 : (a0_1 != a1_1) = true := bne_iff_ne.mpr c5; obtain rfl := Option.some.inj H; go_enter Tryz.func9, Tryz.ntmps9; go_wp2_with (first | ((with_reducible refine gds (N := 2) rfl ?_); refine qbx 2 #[.slice A0_0 l0_0.length c0_0, .int .i64 a0_1, .int .i64 a0_2, .int .i64 a0_3, .int .i64 a0_4, .bool a0_5] 30 ?_; intro gb235 hg w50 hbox hb; have BK235 := qK (hbox); have GW235 := qK ((qW : w.heap.size ≤ gb235)); have GE235 := GW235; replace HB := qHB HB hb; clear hb hbox hg) | ((with_reducible refine gds (N := 3) rfl ?_); refine qbx 3 #[.slice A1_0 l1_0.length c1_0, .int .i64 a1_1, .int .i64 a1_2, .int .i64 a1_3, .int .i64 a1_4, .bool a1_5] 30 ?_; intro gb236 hg w51 hbox hb; have BK236 := qK (hbox); have GW236 := qK ((qW : w.heap.size ≤ gb236)); have GE236 := GW236; replace HB := qHB HB hb; have NB235_236 := qK (qlt BK235 hg); have NB236_235 := qK (qgt BK235 hg); replace BK235 := qbb BK235 hb; clear hb hbox hg; have hnb52 := NB235_236.out; have hnc52 := NB236_235.out; have hz53 := qz6 BK235.out; have hz54 := qz6 BK236.out) | ((with_reducible refine gcl (f := 25) rfl ?_); refine goesL_ (some 9) rfl rfl Tryz.func25 (by kernel_rfl) rfl #[.slice A0_0 l0_0.length c0_0, .slice A1_0 l1_0.length c1_0] rfl qA ?_; (with_reducible refine (laws_eqFileS.calls k _ _ l0_0 _ _ l1_0 true _ ?side1 ?side2 ?side3 ?side4 A3.out).mono ?_); (case side1 => exact qC HR0_0); (case side2 => exact HC0_0.out); (case side3 => exact qC HR1_0); (case side4 => exact HC1_0.out); rintro e w55 ⟨rfl, hb⟩; refine ⟨_, rfl, ?_⟩; replace BK235 := qbb BK235 hb; replace BK236 := qbb BK236 hb; replace HB := qHB HB hb; (try clear hb); (try clear hb2); (try clear hk); (try clear hi); have hz56 := qz6 BK235.out; have hz57 := qz6 BK236.out)); go_ret; exact ⟨qR, qB⟩
  · replace c4 := Bool.eq_false_iff.mpr c4; subst c4; rw [if_neg qff] at H; obtain rfl := Option.some.inj H; go_enter Tryz.func9, Tryz.ntmps9; go_wp2_with (first | ((with_reducible refine gds (N := 2) rfl ?_); refine qbx 2 #[.slice A0_0 l0_0.length c0_0, .int .i64 a0_1, .int .i64 a0_2, .int .i64 a0_3, .int .i64 a0_4, .bool a0_5] 30 ?_; intro gb235 hg w58 hbox hb; have BK235 := qK (hbox); have GW235 := qK ((qW : w.heap.size ≤ gb235)); have GE235 := GW235; replace HB := qHB HB hb; clear hb hbox hg) | ((with_reducible refine gds (N := 3) rfl ?_); refine qbx 3 #[.slice A1_0 l1_0.length c1_0, .int .i64 a1_1, .int .i64 a1_2, .int .i64 a1_3, .int .i64 a1_4, .bool a1_5] 30 ?_; intro gb236 hg w59 hbox hb; have BK236 := qK (hbox); have GW236 := qK ((qW : w.heap.size ≤ gb236)); have GE236 := GW236; replace HB := qHB HB hb; have NB235_236 := qK (qlt BK235 hg); have NB236_235 := qK (qgt BK235 hg); replace BK235 := qbb BK235 hb; clear hb hbox hg; have hnb60 := NB235_236.out; have hnc60 := NB236_235.out; have hz61 := qz6 BK235.out; have hz62 := qz6 BK236.out) | ((with_reducible refine gcl (f := 25) rfl ?_); refine goesL_ (some 9) rfl rfl Tryz.func25 (by kernel_rfl) rfl #[.slice A0_0 l0_0.length c0_0, .slice A1_0 l1_0.length c1_0] rfl qA ?_; (with_reducible refine (laws_eqFileS.calls k _ _ l0_0 _ _ l1_0 false _ ?side1 ?side2 ?side3 ?side4 A3.out).mono ?_); (case side1 => exact qC HR0_0); (case side2 => exact HC0_0.out); (case side3 => exact qC HR1_0); (case side4 => exact HC1_0.out); rintro e w63 ⟨rfl, hb⟩; refine ⟨_, rfl, ?_⟩; replace BK235 := qbb BK235 hb; replace BK236 := qbb BK236 hb; replace HB := qHB HB hb; (try clear hb); (try clear hb2); (try clear hk); (try clear hi))); go_ret; exact ⟨qR, qB⟩
def laws_eqLog.f (a0_0 : Int) (a0_1 : Int) (a1_0 : Int) (a1_1 : Int) : Option (Bool) := if a0_0 = a1_0 then (if a0_1 = a1_1 then (some true) else (some false)) else (some false)
set_option maxHeartbeats 8000000 in
set_option maxRecDepth 100000 in
theorem laws_eqLog.calls (a0_0 : Int) (a0_1 : Int) (a1_0 : Int) (a1_1 : Int) (r : Bool) (w : World) (h : laws_eqLog.f a0_0 a0_1 a1_0 a1_1 = some r) :
    Calls Tryz.prog 10 #[.agg #[.int .i64 a0_0, .int .i64 a0_1], .agg #[.int .i64 a1_0, .int .i64 a1_1]] w fun e w' => e = .returned (.bool r) ∧ Below w.heap.size w w' := by
  have hu31 := Tryz.underlying31; have HB := qK (Below.refl w.heap.size w); have H : (if a0_0 = a1_0 then (if a0_1 = a1_1 then (some true) else (some false)) else (some false)) = some r := h; clear h; by_cases c3 : a0_0 = a1_0
  · rw [if_pos c3] at H; have c3b0 : (a0_0 == a1_0) = true := beq_iff_eq.mpr c3; have c3b1 : (a0_0 != a1_0) = false := bne_eq_false_iff_eq.mpr c3; clear c3; by_cases c4 : a0_1 = a1_1
    · rw [if_pos c4] at H; have c4b0 : (a0_1 == a1_1) = true := beq_iff_eq.mpr c4; have c4b1 : (a0_1 != a1_1) = false := bne_eq_false_iff_eq.mpr c4; clear c4; obtain rfl := Option.some.inj H; go_enter Tryz.func10, Tryz.ntmps10; go_wp2_with (first | ((with_reducible refine gds (N := 2) rfl ?_); refine qbx 2 #[.int .i64 a0_0, .int .i64 a0_1] 31 ?_; intro gb238 hg w5 hbox hb; have BK238 := qK (hbox); have GW238 := qK ((qW : w.heap.size ≤ gb238)); have GE238 := GW238; replace HB := qHB HB hb; clear hb hbox hg) | ((with_reducible refine gds (N := 3) rfl ?_); refine qbx 3 #[.int .i64 a1_0, .int .i64 a1_1] 31 ?_; intro gb239 hg w6 hbox hb; have BK239 := qK (hbox); have GW239 := qK ((qW : w.heap.size ≤ gb239)); have GE239 := GW239; replace HB := qHB HB hb; have NB238_239 := qK (qlt BK238 hg); have NB239_238 := qK (qgt BK238 hg); replace BK238 := qbb BK238 hb; clear hb hbox hg; have hnb7 := NB238_239.out; have hnc7 := NB239_238.out; have hz8 := qz2 BK238.out; have hz9 := qz2 BK239.out)); go_ret; exact ⟨qR, qB⟩
    · rw [if_neg c4] at H; have c4b0 : (a0_1 == a1_1) = false := beq_eq_false_iff_ne.mpr c4; have c4b1 : (a0_1 != a1_1) = true := bne_iff_ne.mpr c4; obtain rfl := Option.some.inj H; go_enter Tryz.func10, Tryz.ntmps10; go_wp2_with (first | ((with_reducible refine gds (N := 2) rfl ?_); refine qbx 2 #[.int .i64 a0_0, .int .i64 a0_1] 31 ?_; intro gb238 hg w10 hbox hb; have BK238 := qK (hbox); have GW238 := qK ((qW : w.heap.size ≤ gb238)); have GE238 := GW238; replace HB := qHB HB hb; clear hb hbox hg) | ((with_reducible refine gds (N := 3) rfl ?_); refine qbx 3 #[.int .i64 a1_0, .int .i64 a1_1] 31 ?_; intro gb239 hg w11 hbox hb; have BK239 := qK (hbox); have GW239 := qK ((qW : w.heap.size ≤ gb239)); have GE239 := GW239; replace HB := qHB HB hb; have NB238_239 := qK (qlt BK238 hg); have NB239_238 := qK (qgt BK238 hg); replace BK238 := qbb BK238 hb; clear hb hbox hg; have hnb12 := NB238_239.out; have hnc12 := NB239_238.out; have hz13 := qz2 BK238.out; have hz14 := qz2 BK239.out)); go_ret; exact ⟨qR, qB⟩
  · rw [if_neg c3] at H; have c3b0 : (a0_0 == a1_0) = false := beq_eq_false_iff_ne.mpr c3; have c3b1 : (a0_0 != a1_0) = true := bne_iff_ne.mpr c3; obtain rfl := Option.some.inj H; go_enter Tryz.func10, Tryz.ntmps10; go_wp2_with (first | ((with_reducible refine gds (N := 2) rfl ?_); refine qbx 2 #[.int .i64 a0_0, .int .i64 a0_1] 31 ?_; intro gb238 hg w15 hbox hb; have BK238 := qK (hbox); have GW238 := qK ((qW : w.heap.size ≤ gb238)); have GE238 := GW238; replace HB := qHB HB hb; clear hb hbox hg) | ((with_reducible refine gds (N := 3) rfl ?_); refine qbx 3 #[.int .i64 a1_0, .int .i64 a1_1] 31 ?_; intro gb239 hg w16 hbox hb; have BK239 := qK (hbox); have GW239 := qK ((qW : w.heap.size ≤ gb239)); have GE239 := GW239; replace HB := qHB HB hb; have NB238_239 := qK (qlt BK238 hg); have NB239_238 := qK (qgt BK238 hg); replace BK238 := qbb BK238 hb; clear hb hbox hg; have hnb17 := NB238_239.out; have hnc17 := NB239_238.out; have hz18 := qz2 BK238.out; have hz19 := qz2 BK239.out)); go_ret; exact ⟨qR, qB⟩
def laws_markText.l0 : Nat → Int → ByteArray → Option (ByteArray)
  | 0, _, _ => none
  | k + 1, x0, x3 => if x0 > 0 then ((some (([(wrap64 (48 + (Int.tmod x0 10))) % 256] : List Int) : List Int)).bind fun y240 => (if (strOfNums y240).size + x3.size ≤ 9223372036854775807 then (laws_markText.l0 k (wrap64 (Int.tdiv x0 10)) ((strOfNums y240) ++ x3)) else (none))) else (if 1 + x3.size ≤ 9223372036854775807 then (some ((⟨#[109]⟩ : ByteArray) ++ x3)) else (none))
def laws_markText.f (k : Nat) (a0 : Int) : Option (ByteArray) := if a0 ≤ 0 then (some (⟨#[109, 48]⟩ : ByteArray)) else (laws_markText.l0 k a0 (⟨#[]⟩ : ByteArray))
theorem laws_markText.mono_l : ∀ k, (∀ y0 y1, LeO (laws_markText.l0 k y0 y1) (laws_markText.l0 (k + 1) y0 y1))
  | 0 => fun _ _ r h => by simp [laws_markText.l0] at h
  | k + 1 => by
    have ih0 := laws_markText.mono_l k
    · intro y0 y1
      unfold laws_markText.l0
      repeat' first
      | (with_reducible exact ih0 _ _)
      | (with_reducible exact LeO.refl _)
      | (with_reducible exact LeO.none _)
      | (with_reducible refine LeO.ite ?_ ?_)
      | (with_reducible refine LeO.bind ?_ (fun _ => ?_))
      | exact ih0 _ _
      | exact LeO.none _
      | refine LeO.ite ?_ ?_
      | refine LeO.bind ?_ (fun _ => ?_)
theorem laws_markText.mono : ∀ a0 k, LeO (laws_markText.f k a0) (laws_markText.f (k + 1) a0) := by
  intro a0 k
  have ih0 := laws_markText.mono_l k
  unfold laws_markText.f
  repeat' first
      | (with_reducible exact ih0 _ _)
      | (with_reducible exact LeO.refl _)
      | (with_reducible exact LeO.none _)
      | (with_reducible refine LeO.ite ?_ ?_)
      | (with_reducible refine LeO.bind ?_ (fun _ => ?_))
      | exact ih0 _ _
      | exact LeO.none _
      | refine LeO.ite ?_ ?_
      | refine LeO.bind ?_ (fun _ => ?_)
set_option maxHeartbeats 8000000 in
set_option maxRecDepth 100000 in
theorem laws_markText.calls (k : Nat) (a0 : Int) (r : ByteArray) (w : World) (h : laws_markText.f k a0 = some r) :
    Calls Tryz.prog 45 #[.int .i64 a0] w fun e w' => e = .returned (.string r) ∧ Below w.heap.size w w' := by
  have HB := qK (Below.refl w.heap.size w); have H : (if a0 ≤ 0 then (some (⟨#[109, 48]⟩ : ByteArray)) else (laws_markText.l0 k a0 (⟨#[]⟩ : ByteArray))) = some r := h; clear h; by_cases c2 : a0 ≤ 0
  · rw [if_pos c2] at H; have c2b0 : decide (a0 ≤ 0) = true := decide_eq_true c2; clear c2; obtain rfl := Option.some.inj H; go_enter Tryz.func45, Tryz.ntmps45; go_wp2; go_ret; exact ⟨qR, qB⟩
  · rw [if_neg c2] at H; have c2b0 : decide (a0 ≤ 0) = false := decide_eq_false c2; clear c2; have H' := qK H; clear H; go_enter Tryz.func45, Tryz.ntmps45; go_wp2; go_loopg [0, 3] k (fun kq v0 v3 w' => ∃ (x0_1 : Int) (x3_1 : ByteArray), v0 = .int .i64 x0_1 ∧ v3 = .string x3_1 ∧ Aside0 (laws_markText.l0 kq x0_1 x3_1 = some r) ∧ Aside0 (kq ≤ k) ∧ Aside0 (Below w.heap.size w w'))
    case atStart => exact ⟨(a0), ((⟨#[]⟩ : ByteArray)), qS, qS, H', ⟨Nat.le_refl _⟩, ⟨qB⟩⟩
    case round =>
      clear H'; (try clear c2); (try clear c2b0); (try clear p2); obtain ⟨x0_1, x3_1, rfl, rfl, HA, HK1, HB⟩ := hrel
      cases gk with
      | zero => exact absurd HA.out (by simp [laws_markText.l0])
      | succ k1 =>
        have H := HA.out; clear HA; simp only [laws_markText.l0] at H; by_cases c3 : x0_1 > 0
        · rw [if_pos c3] at H; have c3b0 : decide (0 < x0_1) = true := decide_eq_true c3; clear c3; obtain ⟨y240, hy240⟩ : ∃ y_ : List Int, y_ = (([(wrap64 (48 + (Int.tmod x0_1 10))) % 256] : List Int)) := ⟨_, rfl⟩; (replace H : (if (strOfNums y240).size + x3_1.size ≤ 9223372036854775807 then (laws_markText.l0 k1 (wrap64 (Int.tdiv x0_1 10)) ((strOfNums y240) ++ x3_1)) else (none)) = some r := by first | (rw [hy240]; with_reducible exact H) | (have H2_ := (Option.bind_some _ _).symm.trans H; rw [hy240]; with_reducible exact H2_) | (have H2_ := (Option.bind_some _ _).symm.trans H; with_reducible exact H2_) | with_reducible exact H | (rw [hy240]; exact H) | exact H); have Ny240 := qK hy240; clear hy240; by_cases c4 : (strOfNums y240).size + x3_1.size ≤ 9223372036854775807
          · rw [if_pos c4] at H; have c4b0 := eq_true c4; have c4b1 : decide ((strOfNums y240).size + x3_1.size ≤ 9223372036854775807) = true := decide_eq_true c4; (try have c4b2 : (9223372036854775807 < (strOfNums y240).size + x3_1.size) = False := eq_false (Nat.not_lt.2 c4)); have H' := qK H; clear H; go_wp2_with (first | ((with_reducible refine gds (N := 12) rfl ?_); refine Kd.R_lit (Kd.int .u8) _ 5 ?hg (N := 12) ?hd (xs := ([(wrap64 (48 + (Int.tmod x0_1 10))) % 256] : List Int)) (inner := [.int .u8 ((wrap64 (48 + (Int.tmod x0_1 10))) % 256)]) (ok := fun _ => True) (okp := fun _ => True) ?hr ?hp (fun _ hk => hk) trivial (Below.refl _ _) (Nat.le_refl _) (by simp) ?_; (case hd => rfl); (case hg => rfl); (case hr => first | (go_simp; done) | (go_simp; rfl)); (case hp => exact (Reps.one (show Kd.M (Kd.int .u8) _ _ _ ((wrap64 (48 + (Int.tmod x0_1 10))) % 256) [.int .u8 ((wrap64 (48 + (Int.tmod x0_1 10))) % 256)] from rfl) (Reps.none _ _))); intro v241 w5 ho6 hb hg_ hnew_; clear hg_ hnew_; (first | rw [← Ny240.out] at ho6 | (simp only [Int.reduceToNat] at ho6; rw [← Ny240.out] at ho6)); have HO242 := qK (Kd.Rlo ho6 (bsz qB)); replace HB := qHB HB hb; clear hb ho6; have hcv7 := own_string (P := Tryz.prog) Tryz.underlying60 Tryz.underlying5 Tryz.underlying9 (Kd.own_of_R HO242.out))); go_roundg k1
            case measure => have := HK1.out; omega
            case rel => exact ⟨(wrap64 (Int.tdiv x0_1 10)), ((strOfNums y240) ++ x3_1), qS, qS, H', ⟨by have := HK1.out; omega⟩, ⟨qB⟩⟩
          · rw [if_neg c4] at H; exact absurd H (by simp)
        · rw [if_neg c3] at H; have c3b0 : decide (0 < x0_1) = false := decide_eq_false c3; clear c3; by_cases c8 : 1 + x3_1.size ≤ 9223372036854775807
          · rw [if_pos c8] at H; have c8b0 := eq_true c8; have c8b1 : decide (1 + x3_1.size ≤ 9223372036854775807) = true := decide_eq_true c8; (try have c8b2 : (9223372036854775807 < 1 + x3_1.size) = False := eq_false (Nat.not_lt.2 c8)); obtain rfl := Option.some.inj H; go_wp2; go_ret; exact ⟨qR, qB⟩
          · rw [if_neg c8] at H; exact absurd H (by simp)
def laws_markFileS.l0 : Nat → List (S61) → Int → Int → Option (Int × (List (S61)))
  | 0, _, _, _ => none
  | k + 1, x0, x1, x5 => if x5 < (x0.length : Int) then ((laws_markText.f k x1).bind fun t243 => (if 0 ≤ x5 then ((some (x0.set (x5 : Int).toNat (⟨t243, (rd_T61 x0 x5).f1, (rd_T61 x0 x5).f2⟩ : S61) : List (S61))).bind fun y244 => ((laws_markText.f k (wrap64 (x1 + 1))).bind fun t245 => ((some (y244.set (x5 : Int).toNat (⟨(rd_T61 y244 x5).f0, t245, (rd_T61 y244 x5).f2⟩ : S61) : List (S61))).bind fun y246 => (laws_markFileS.l0 k (y246.set (x5 : Int).toNat (⟨(rd_T61 y246 x5).f0, (rd_T61 y246 x5).f1, wrap64 ((wrap64 (x1 + 1)) + 1)⟩ : S61)) (wrap64 ((wrap64 ((wrap64 (x1 + 1)) + 1)) + 1)) (wrap64 (x5 + 1)))))) else (none))) else (some (x1, x0))
def laws_markFileS.f (k : Nat) (l0 : List (S61)) (a1 : Int) : Option (Int × (List (S61))) := laws_markFileS.l0 k l0 a1 0
theorem laws_markFileS.mono_l : ∀ k, (∀ y0 y1 y2, LeO (laws_markFileS.l0 k y0 y1 y2) (laws_markFileS.l0 (k + 1) y0 y1 y2))
  | 0 => fun _ _ _ r h => by simp [laws_markFileS.l0] at h
  | k + 1 => by
    have ih0 := laws_markFileS.mono_l k
    · intro y0 y1 y2
      unfold laws_markFileS.l0
      repeat' first
      | (with_reducible exact ih0 _ _ _)
      | (with_reducible exact laws_markText.mono _ _)
      | (with_reducible exact LeO.refl _)
      | (with_reducible exact LeO.none _)
      | (with_reducible refine LeO.ite ?_ ?_)
      | (with_reducible refine LeO.bind ?_ (fun _ => ?_))
      | exact ih0 _ _ _
      | exact laws_markText.mono _ _
      | exact LeO.none _
      | refine LeO.ite ?_ ?_
      | refine LeO.bind ?_ (fun _ => ?_)
theorem laws_markFileS.mono : ∀ a0 a1 k, LeO (laws_markFileS.f k a0 a1) (laws_markFileS.f (k + 1) a0 a1) := by
  intro a0 a1 k
  have ih0 := laws_markFileS.mono_l k
  unfold laws_markFileS.f
  repeat' first
      | (with_reducible exact ih0 _ _ _)
      | (with_reducible exact laws_markText.mono _ _)
      | (with_reducible exact LeO.refl _)
      | (with_reducible exact LeO.none _)
      | (with_reducible refine LeO.ite ?_ ?_)
      | (with_reducible refine LeO.bind ?_ (fun _ => ?_))
      | exact ih0 _ _ _
      | exact laws_markText.mono _ _
      | exact LeO.none _
      | refine LeO.ite ?_ ?_
      | refine LeO.bind ?_ (fun _ => ?_)
set_option maxHeartbeats 8000000 in
set_option maxRecDepth 100000 in
theorem laws_markFileS.calls (k : Nat) (P0_ : Nat → Prop) (u9000_ : Value) (l0 : List (S61)) (a1 : Int) (r1 : Int) (r2 : List (S61)) (w0 w : World) (hB : Below w0.heap.size w0 w) (ho0 : Kd.R k61 61 w w0.heap.size P0_ u9000_ l0) (h : laws_markFileS.f k l0 a1 = some (r1, r2)) :
    Calls Tryz.prog 26 #[u9000_, .int .i64 a1] w fun e w' => e = .returned (.int .i64 r1) ∧ Kd.R k61 61 w' w0.heap.size (fun k_ => (P0_ k_ ∨ w.heap.size ≤ k_)) u9000_ r2 ∧ Below w0.heap.size w0 w' ∧ Kept w w' (fun k_ => P0_ k_) := by
  have HO0 := qK (show Kd.R k61 61 w w0.heap.size (fun k_ => (P0_ k_ ∨ w.heap.size ≤ k_)) u9000_ l0 from Kd.Rmo ho0 (fun k_ hk => (.inl hk))); have HK := qK (Kept.refl w (fun k_ => P0_ k_)); have HW0 := qK hB.size; have HB := qK hB; clear hB; have H : (laws_markFileS.l0 k l0 a1 0) = some (r1, r2) := h; clear h; have H' := qK H; clear H; go_enter Tryz.func26, Tryz.ntmps26; go_wp2; go_loopg [1, 5] k (fun kq v1 v5 w' => ∃ (x0_1 : List (S61)) (x1_1 : Int) (x5_1 : Int), v1 = .int .i64 x1_1 ∧ v5 = .int .i64 x5_1 ∧ Aside0 (laws_markFileS.l0 kq x0_1 x1_1 x5_1 = some (r1, r2)) ∧ Aside0 (kq ≤ k) ∧ Aside0 (Kd.R k61 61 w' w0.heap.size (fun k_ => (P0_ k_ ∨ w.heap.size ≤ k_)) u9000_ x0_1) ∧ Aside0 (Kept w w' (fun k_ => P0_ k_)) ∧ Aside0 (Below w0.heap.size w0 w'))
  case atStart => exact ⟨(l0), (a1), (0), qS, qS, H', ⟨Nat.le_refl _⟩, ⟨by (with_reducible repeat (first | apply Kd.Ral | apply Kd.RdN | apply Kd.Rdr)); exact HO0.out⟩, ⟨by repeat (first | (with_reducible first | exact HK.out | apply Kept.alloc | apply Kept.drewN | apply Kept.drew) | exact HK.out)⟩, ⟨qB⟩⟩
  case round =>
    clear H'; (try clear c2); (try clear p2); obtain ⟨x0_1, x1_1, x5_1, rfl, rfl, HA, HK1, HO_0, HK, HB⟩ := hrel
    cases gk with
    | zero => exact absurd HA.out (by simp [laws_markFileS.l0])
    | succ k1 =>
      have H := HA.out; clear HA; simp only [laws_markFileS.l0] at H; by_cases c3 : x5_1 < (x0_1.length : Int)
      · rw [if_pos c3] at H; have c3b0 : decide (x5_1 < (x0_1.length : Int)) = true := decide_eq_true c3; clear c3; replace H := Option.bind_eq_some_iff.mp H; obtain ⟨t243, A40, H⟩ := H; have A4 := qK A40; clear A40; by_cases c5 : 0 ≤ x5_1
        · rw [if_pos c5] at H; have c5b0 : decide (0 ≤ x5_1) = true := decide_eq_true c5; clear c5; obtain ⟨y244, hy244⟩ : ∃ y_ : List (S61), y_ = (x0_1.set (x5_1 : Int).toNat (⟨t243, (rd_T61 x0_1 x5_1).f1, (rd_T61 x0_1 x5_1).f2⟩ : S61)) := ⟨_, rfl⟩; (replace H : ((laws_markText.f k1 (wrap64 (x1_1 + 1))).bind fun t245 => ((some (y244.set (x5_1 : Int).toNat (⟨(rd_T61 y244 x5_1).f0, t245, (rd_T61 y244 x5_1).f2⟩ : S61) : List (S61))).bind fun y246 => (laws_markFileS.l0 k1 (y246.set (x5_1 : Int).toNat (⟨(rd_T61 y246 x5_1).f0, (rd_T61 y246 x5_1).f1, wrap64 ((wrap64 (x1_1 + 1)) + 1)⟩ : S61)) (wrap64 ((wrap64 ((wrap64 (x1_1 + 1)) + 1)) + 1)) (wrap64 (x5_1 + 1))))) = some (r1, r2) := by first | (rw [hy244]; with_reducible exact H) | (have H2_ := (Option.bind_some _ _).symm.trans H; rw [hy244]; with_reducible exact H2_) | (have H2_ := (Option.bind_some _ _).symm.trans H; with_reducible exact H2_) | with_reducible exact H | (rw [hy244]; exact H) | exact H); have Ny244 := qK hy244; clear hy244; replace H := Option.bind_eq_some_iff.mp H; obtain ⟨t245, A70, H⟩ := H; have A7 := qK A70; clear A70; obtain ⟨y246, hy246⟩ : ∃ y_ : List (S61), y_ = (y244.set (x5_1 : Int).toNat (⟨(rd_T61 y244 x5_1).f0, t245, (rd_T61 y244 x5_1).f2⟩ : S61)) := ⟨_, rfl⟩; (replace H : (laws_markFileS.l0 k1 (y246.set (x5_1 : Int).toNat (⟨(rd_T61 y246 x5_1).f0, (rd_T61 y246 x5_1).f1, wrap64 ((wrap64 (x1_1 + 1)) + 1)⟩ : S61)) (wrap64 ((wrap64 ((wrap64 (x1_1 + 1)) + 1)) + 1)) (wrap64 (x5_1 + 1))) = some (r1, r2) := by first | (rw [hy246]; with_reducible exact H) | (have H2_ := (Option.bind_some _ _).symm.trans H; rw [hy246]; with_reducible exact H2_) | (have H2_ := (Option.bind_some _ _).symm.trans H; with_reducible exact H2_) | with_reducible exact H | (rw [hy246]; exact H) | exact H); have Ny246 := qK hy246; clear hy246; obtain ⟨y247, hy247⟩ : ∃ y_ : List (S61), y_ = (y246.set (x5_1 : Int).toNat (⟨(rd_T61 y246 x5_1).f0, (rd_T61 y246 x5_1).f1, wrap64 ((wrap64 (x1_1 + 1)) + 1)⟩ : S61)) := ⟨_, rfl⟩; (replace H : (laws_markFileS.l0 k1 y247 (wrap64 ((wrap64 ((wrap64 (x1_1 + 1)) + 1)) + 1)) (wrap64 (x5_1 + 1))) = some (r1, r2) := by first | (rw [hy247]; with_reducible exact H) | (have H2_ := (Option.bind_some _ _).symm.trans H; rw [hy247]; with_reducible exact H2_) | (have H2_ := (Option.bind_some _ _).symm.trans H; with_reducible exact H2_) | with_reducible exact H | (rw [hy247]; exact H) | exact H); have Ny247 := qK hy247; clear hy247; have H' := qK H; clear H; obtain ⟨Ao10, co10, eo10⟩ := Kd.R_slice HO_0.out; subst eo10; go_wp2_with (first | ((with_reducible refine gcl (f := 45) rfl ?_); refine goesL_ (some 15) rfl rfl Tryz.func45 (by kernel_rfl) rfl #[.int .i64 x1_1] rfl qA ?_; (with_reducible refine (laws_markText.calls k1 x1_1 t243 _ A4.out).mono ?_); rintro e w11 ⟨rfl, hb⟩; refine ⟨_, rfl, ?_⟩; replace HO_0 := qK (Kd.Rbe (qRb HO_0) hb); replace HK := qK (Kept.below (S := (fun k_ => P0_ k_)) (by repeat (first | (with_reducible first | exact HK.out | apply Kept.alloc | apply Kept.drewN | apply Kept.drew) | exact HK.out)) hb); replace HB := qHB HB hb; (try clear hb); (try clear hb2); (try clear hk); (try clear hi); have p6 : 0 ≤ (x5_1 : Int) := of_decide_eq_true qa; have q6 : (x5_1 : Int) < ((x0_1.length : Int) : Int) := of_decide_eq_true qa; obtain ⟨go6, co6, eo6, gb6, gl6, cl6, HG6⟩ := Kd.R_form HO_0.out (by omega); (first | cases eo6 | (injection eo6 with ea_ en_ ec_; (first | subst ea_ | (injection ea_ with ea_; subst ea_)); subst ec_; clear en_)); have GB6 := qK gb6; have GG6 := qK HG6; clear gb6 gl6 HG6; have HMgo6 := qK (show (P0_ go6 ∨ w.heap.size ≤ go6) from (HO_0.out.1 _ rfl)); obtain ⟨ce6, hcl6, hM6, hcc6, hfr6⟩ := Kd.R_elem HO_0.out z61 (x5_1 : Int) p6 q6; obtain rfl := k61_openM hM6; have hx6_0 : w11.cell? ⟨go6, (x5_1 : Int).toNat * 3, none⟩ = some (.string ((rd_T61 x0_1 x5_1).f0)) := hcc6 0 _ rfl; have hx6_1 : w11.cell? ⟨go6, (x5_1 : Int).toNat * 3 + 1, none⟩ = some (.string ((rd_T61 x0_1 x5_1).f1)) := hcc6 1 _ rfl; have hx6_2 : w11.cell? ⟨go6, (x5_1 : Int).toNat * 3 + 2, none⟩ = some (.int .i64 ((rd_T61 x0_1 x5_1).f2)) := hcc6 2 _ rfl; have hf6_0 : w11.frozen? ⟨go6, (x5_1 : Int).toNat * 3, none⟩ = false := hfr6 0; have hf6_1 : w11.frozen? ⟨go6, (x5_1 : Int).toNat * 3 + 1, none⟩ = false := hfr6 1; have hf6_2 : w11.frozen? ⟨go6, (x5_1 : Int).toNat * 3 + 2, none⟩ = false := hfr6 2; clear hcl6 hcc6 hfr6; (try clear hM6); replace p6 := eq_true p6; replace q6 := eq_true q6; have HX12 := qK (show Kd.R k61 61 w11 w0.heap.size (fun k_ => (P0_ k_ ∨ w.heap.size ≤ k_)) (.slice (some ⟨go6, 0, none⟩) x0_1.length co10) x0_1 from (qRb HO_0)); obtain ⟨ce12, hcl12, hM12, hcc12, hfr12⟩ := Kd.R_elem HX12.out z61 (x5_1 : Int) (of_decide_eq_true qa) (by have h_ : (x5_1 : Int) < ((x0_1.length : Int) : Int) := of_decide_eq_true qa; first | exact h_ | (have e_ := (Kd.R_reads' HO_0.out).1; omega) | simpa using h_); obtain rfl := k61_openM hM12; have HP12 := Kd.R_seg HX12.out (x5_1 : Int) (of_decide_eq_true qa) (by have h_ : (x5_1 : Int) < ((x0_1.length : Int) : Int) := of_decide_eq_true qa; first | exact h_ | (have e_ := (Kd.R_reads' HO_0.out).1; omega) | simpa using h_) (seg := [.string t243]) (j := 0) hcl12 hcc12 (show 1 ≤ 3 from by decide) (x' := (⟨t243, (rd_T61 x0_1 x5_1).f1, (rd_T61 x0_1 x5_1).f2⟩ : S61)) (k61_mkM _ _ _ (⟨t243, (rd_T61 x0_1 x5_1).f1, (rd_T61 x0_1 x5_1).f2⟩ : S61) ) (fun _ hk => hk); have hx12_0 := hcc12 0 _ rfl; (try simp only [show (k61).sz = 3 from rfl, Nat.mul_one, Nat.add_zero] at hx12_0); have hf12_0 := hfr12 0; (try simp only [show (k61).sz = 3 from rfl, Nat.mul_one, Nat.add_zero] at hf12_0); clear hcl12 hcc12 hfr12; (try clear hM12)) | ((with_reducible refine gst (t := 9) (p := 17) rfl ?_); refine ste (t := 9) (p := 17) (v := ?vo_w13) (w1 := (w11.setCell ⟨go6, (x5_1 : Int).toNat * 3, none⟩ (.string t243))) ?hg ?ho ?hn ?hr ?_; (case ho => rfl); (case hg => rfl); (case hn => rfl); (case hr => first | (go_simp; done) | (go_simp; rfl)); intro w13 hw; have hg : w11.grownBy w13 (some go6) := (by rw [hw]; exact HP12.2); have hp_ : Kd.R k61 61 w13 w0.heap.size (fun k_ => (P0_ k_ ∨ w.heap.size ≤ k_)) (.slice (some ⟨go6, 0, none⟩) x0_1.length co10) y244 := (by rw [hw, Ny244.out]; exact HP12.1); clear HP12; replace HB := qK ((by rw [hw]; exact bse (HB.out) GB6.out : Below w0.heap.size w0 w13)); replace HK := qK (Kept.of_grown (S := (fun k_ => P0_ k_)) hg (by repeat (first | (with_reducible first | exact HK.out | apply Kept.alloc | apply Kept.drewN | apply Kept.drew) | exact HK.out)) (fun k_ e_ => (HO_0.out.1 k_ e_))); replace HO_0 := qK (hp_); clear hg hw hp_) | ((with_reducible refine gcl (f := 45) rfl ?_); refine goesL_ (some 23) rfl rfl Tryz.func45 (by kernel_rfl) rfl #[.int .i64 (wrap64 (x1_1 + 1))] rfl qA ?_; (with_reducible refine (laws_markText.calls k1 (wrap64 (x1_1 + 1)) t245 _ A7.out).mono ?_); rintro e w14 ⟨rfl, hb⟩; refine ⟨_, rfl, ?_⟩; replace HO_0 := qK (Kd.Rbe (qRb HO_0) hb); replace HK := qK (Kept.below (S := (fun k_ => P0_ k_)) (by repeat (first | (with_reducible first | exact HK.out | apply Kept.alloc | apply Kept.drewN | apply Kept.drew) | exact HK.out)) hb); replace HB := qHB HB hb; (try clear hb); (try clear hb2); (try clear hk); (try clear hi); have p8 : 0 ≤ (x5_1 : Int) := of_decide_eq_true qa; have q8 : (x5_1 : Int) < ((x0_1.length : Int) : Int) := of_decide_eq_true qa; obtain ⟨ce8, hcl8, hM8, hcc8, hfr8⟩ := Kd.R_elem HO_0.out z61 (x5_1 : Int) p8 q8; obtain rfl := k61_openM hM8; have hx8_0 : w14.cell? ⟨go6, (x5_1 : Int).toNat * 3, none⟩ = some (.string ((rd_T61 y244 x5_1).f0)) := hcc8 0 _ rfl; have hx8_1 : w14.cell? ⟨go6, (x5_1 : Int).toNat * 3 + 1, none⟩ = some (.string ((rd_T61 y244 x5_1).f1)) := hcc8 1 _ rfl; have hx8_2 : w14.cell? ⟨go6, (x5_1 : Int).toNat * 3 + 2, none⟩ = some (.int .i64 ((rd_T61 y244 x5_1).f2)) := hcc8 2 _ rfl; have hf8_0 : w14.frozen? ⟨go6, (x5_1 : Int).toNat * 3, none⟩ = false := hfr8 0; have hf8_1 : w14.frozen? ⟨go6, (x5_1 : Int).toNat * 3 + 1, none⟩ = false := hfr8 1; have hf8_2 : w14.frozen? ⟨go6, (x5_1 : Int).toNat * 3 + 2, none⟩ = false := hfr8 2; clear hcl8 hcc8 hfr8; (try clear hM8); replace p8 := eq_true p8; replace q8 := eq_true q8; have HX15 := qK (show Kd.R k61 61 w14 w0.heap.size (fun k_ => (P0_ k_ ∨ w.heap.size ≤ k_)) (.slice (some ⟨go6, 0, none⟩) x0_1.length co10) y244 from (qRb HO_0)); obtain ⟨ce15, hcl15, hM15, hcc15, hfr15⟩ := Kd.R_elem HX15.out z61 (x5_1 : Int) (of_decide_eq_true qa) (by have h_ : (x5_1 : Int) < ((x0_1.length : Int) : Int) := of_decide_eq_true qa; first | exact h_ | (have e_ := (Kd.R_reads' HO_0.out).1; omega) | simpa using h_); obtain rfl := k61_openM hM15; have HP15 := Kd.R_seg HX15.out (x5_1 : Int) (of_decide_eq_true qa) (by have h_ : (x5_1 : Int) < ((x0_1.length : Int) : Int) := of_decide_eq_true qa; first | exact h_ | (have e_ := (Kd.R_reads' HO_0.out).1; omega) | simpa using h_) (seg := [.string t245]) (j := 1) hcl15 hcc15 (show 2 ≤ 3 from by decide) (x' := (⟨(rd_T61 y244 x5_1).f0, t245, (rd_T61 y244 x5_1).f2⟩ : S61)) (k61_mkM _ _ _ (⟨(rd_T61 y244 x5_1).f0, t245, (rd_T61 y244 x5_1).f2⟩ : S61) ) (fun _ hk => hk); have hx15_1 := hcc15 1 _ rfl; (try simp only [show (k61).sz = 3 from rfl, Nat.mul_one, Nat.add_zero] at hx15_1); have hf15_1 := hfr15 1; (try simp only [show (k61).sz = 3 from rfl, Nat.mul_one, Nat.add_zero] at hf15_1); clear hcl15 hcc15 hfr15; (try clear hM15)) | ((with_reducible refine gst (t := 9) (p := 25) rfl ?_); refine ste (t := 9) (p := 25) (v := ?vo_w16) (w1 := (w14.setCell ⟨go6, (x5_1 : Int).toNat * 3 + 1, none⟩ (.string t245))) ?hg ?ho ?hn ?hr ?_; (case ho => rfl); (case hg => rfl); (case hn => rfl); (case hr => first | (go_simp; done) | (go_simp; rfl)); intro w16 hw; have hg : w14.grownBy w16 (some go6) := (by rw [hw]; exact HP15.2); have hp_ : Kd.R k61 61 w16 w0.heap.size (fun k_ => (P0_ k_ ∨ w.heap.size ≤ k_)) (.slice (some ⟨go6, 0, none⟩) x0_1.length co10) y246 := (by rw [hw, Ny246.out]; exact HP15.1); clear HP15; replace HB := qK ((by rw [hw]; exact bse (HB.out) GB6.out : Below w0.heap.size w0 w16)); replace HK := qK (Kept.of_grown (S := (fun k_ => P0_ k_)) hg (by repeat (first | (with_reducible first | exact HK.out | apply Kept.alloc | apply Kept.drewN | apply Kept.drew) | exact HK.out)) (fun k_ e_ => (HO_0.out.1 k_ e_))); replace HO_0 := qK (hp_); clear hg hw hp_; have p9 : 0 ≤ (x5_1 : Int) := of_decide_eq_true qa; have q9 : (x5_1 : Int) < ((x0_1.length : Int) : Int) := of_decide_eq_true qa; obtain ⟨ce9, hcl9, hM9, hcc9, hfr9⟩ := Kd.R_elem HO_0.out z61 (x5_1 : Int) p9 q9; obtain rfl := k61_openM hM9; have hx9_0 : w16.cell? ⟨go6, (x5_1 : Int).toNat * 3, none⟩ = some (.string ((rd_T61 y246 x5_1).f0)) := hcc9 0 _ rfl; have hx9_1 : w16.cell? ⟨go6, (x5_1 : Int).toNat * 3 + 1, none⟩ = some (.string ((rd_T61 y246 x5_1).f1)) := hcc9 1 _ rfl; have hx9_2 : w16.cell? ⟨go6, (x5_1 : Int).toNat * 3 + 2, none⟩ = some (.int .i64 ((rd_T61 y246 x5_1).f2)) := hcc9 2 _ rfl; have hf9_0 : w16.frozen? ⟨go6, (x5_1 : Int).toNat * 3, none⟩ = false := hfr9 0; have hf9_1 : w16.frozen? ⟨go6, (x5_1 : Int).toNat * 3 + 1, none⟩ = false := hfr9 1; have hf9_2 : w16.frozen? ⟨go6, (x5_1 : Int).toNat * 3 + 2, none⟩ = false := hfr9 2; clear hcl9 hcc9 hfr9; (try clear hM9); replace p9 := eq_true p9; replace q9 := eq_true q9; have HX17 := qK (show Kd.R k61 61 w16 w0.heap.size (fun k_ => (P0_ k_ ∨ w.heap.size ≤ k_)) (.slice (some ⟨go6, 0, none⟩) x0_1.length co10) y246 from (qRb HO_0)); obtain ⟨ce17, hcl17, hM17, hcc17, hfr17⟩ := Kd.R_elem HX17.out z61 (x5_1 : Int) (of_decide_eq_true qa) (by have h_ : (x5_1 : Int) < ((x0_1.length : Int) : Int) := of_decide_eq_true qa; first | exact h_ | (have e_ := (Kd.R_reads' HO_0.out).1; omega) | simpa using h_); obtain rfl := k61_openM hM17; have HP17 := Kd.R_seg HX17.out (x5_1 : Int) (of_decide_eq_true qa) (by have h_ : (x5_1 : Int) < ((x0_1.length : Int) : Int) := of_decide_eq_true qa; first | exact h_ | (have e_ := (Kd.R_reads' HO_0.out).1; omega) | simpa using h_) (seg := [.int .i64 (wrap64 ((wrap64 (x1_1 + 1)) + 1))]) (j := 2) hcl17 hcc17 (show 3 ≤ 3 from by decide) (x' := (⟨(rd_T61 y246 x5_1).f0, (rd_T61 y246 x5_1).f1, wrap64 ((wrap64 (x1_1 + 1)) + 1)⟩ : S61)) (k61_mkM _ _ _ (⟨(rd_T61 y246 x5_1).f0, (rd_T61 y246 x5_1).f1, wrap64 ((wrap64 (x1_1 + 1)) + 1)⟩ : S61) ) (fun _ hk => hk); have hx17_2 := hcc17 2 _ rfl; (try simp only [show (k61).sz = 3 from rfl, Nat.mul_one, Nat.add_zero] at hx17_2); have hf17_2 := hfr17 2; (try simp only [show (k61).sz = 3 from rfl, Nat.mul_one, Nat.add_zero] at hf17_2); clear hcl17 hcc17 hfr17; (try clear hM17)) | ((with_reducible refine gst (t := 3) (p := 32) rfl ?_); refine ste (t := 3) (p := 32) (v := ?vo_w18) (w1 := (w16.setCell ⟨go6, (x5_1 : Int).toNat * 3 + 2, none⟩ (.int .i64 (wrap64 ((wrap64 (x1_1 + 1)) + 1))))) ?hg ?ho ?hn ?hr ?_; (case ho => rfl); (case hg => rfl); (case hn => rfl); (case hr => first | (go_simp; done) | (go_simp; rfl)); intro w18 hw; have hg : w16.grownBy w18 (some go6) := (by rw [hw]; exact HP17.2); have hp_ : Kd.R k61 61 w18 w0.heap.size (fun k_ => (P0_ k_ ∨ w.heap.size ≤ k_)) (.slice (some ⟨go6, 0, none⟩) x0_1.length co10) y247 := (by rw [hw, Ny247.out]; exact HP17.1); clear HP17; replace HB := qK ((by rw [hw]; exact bse (HB.out) GB6.out : Below w0.heap.size w0 w18)); replace HK := qK (Kept.of_grown (S := (fun k_ => P0_ k_)) hg (by repeat (first | (with_reducible first | exact HK.out | apply Kept.alloc | apply Kept.drewN | apply Kept.drew) | exact HK.out)) (fun k_ e_ => (HO_0.out.1 k_ e_))); replace HO_0 := qK (hp_); clear hg hw hp_)); go_roundg k1
          case measure => have := HK1.out; omega
          case rel => exact ⟨(y247), (wrap64 ((wrap64 ((wrap64 (x1_1 + 1)) + 1)) + 1)), (wrap64 (x5_1 + 1)), qS, qS, H', ⟨by have := HK1.out; omega⟩, ⟨by (with_reducible repeat (first | apply Kd.Ral | apply Kd.RdN | apply Kd.Rdr)); exact HO_0.out⟩, ⟨by repeat (first | (with_reducible first | exact HK.out | apply Kept.alloc | apply Kept.drewN | apply Kept.drew) | exact HK.out)⟩, ⟨qB⟩⟩
        · rw [if_neg c5] at H; exact absurd H (by simp)
      · rw [if_neg c3] at H; have c3b0 : decide (x5_1 < (x0_1.length : Int)) = false := decide_eq_false c3; clear c3; simp only [Option.some.injEq, Prod.mk.injEq] at H; obtain ⟨rfl, rfl⟩ := H; obtain ⟨Ao19, co19, eo19⟩ := Kd.R_slice HO_0.out; subst eo19; go_wp2; go_ret; exact ⟨qR, by (with_reducible repeat (first | apply Kd.Ral | apply Kd.RdN | apply Kd.Rdr)); exact HO_0.out, qB, by repeat (first | (with_reducible first | exact HK.out | apply Kept.alloc | apply Kept.drewN | apply Kept.drew) | exact HK.out)⟩
def laws_markFs.f (k : Nat) (l0_0 : List (S61)) (a0_1 : Int) (a0_2 : Int) (a0_3 : Int) (a0_4 : Int) (a0_5 : Bool) (a1 : Int) : Option (Int × (List (S61))) := (laws_markFileS.f k l0_0 a1).bind fun bt249 => (some (bt249.1, bt249.2))
theorem laws_markFs.mono : ∀ a0 a1 a2 a3 a4 a5 a6 k, LeO (laws_markFs.f k a0 a1 a2 a3 a4 a5 a6) (laws_markFs.f (k + 1) a0 a1 a2 a3 a4 a5 a6) := by
  intro a0 a1 a2 a3 a4 a5 a6 k
  unfold laws_markFs.f
  repeat' first
      | (with_reducible exact laws_markFileS.mono _ _ _)
      | (with_reducible exact LeO.refl _)
      | (with_reducible exact LeO.none _)
      | (with_reducible refine LeO.ite ?_ ?_)
      | (with_reducible refine LeO.bind ?_ (fun _ => ?_))
      | exact laws_markFileS.mono _ _ _
      | exact LeO.none _
      | refine LeO.ite ?_ ?_
      | refine LeO.bind ?_ (fun _ => ?_)
set_option maxHeartbeats 8000000 in
set_option maxRecDepth 100000 in
theorem laws_markFs.calls (k : Nat) (P0_0_ : Nat → Prop) (u9000_ : Value) (l0_0 : List (S61)) (a0_1 : Int) (a0_2 : Int) (a0_3 : Int) (a0_4 : Int) (a0_5 : Bool) (a1 : Int) (r1 : Int) (r2 : List (S61)) (w0 w : World) (hB : Below w0.heap.size w0 w) (ho0_0 : Kd.R k61 61 w w0.heap.size P0_0_ u9000_ l0_0) (h : laws_markFs.f k l0_0 a0_1 a0_2 a0_3 a0_4 a0_5 a1 = some (r1, r2)) :
    Calls Tryz.prog 11 #[.agg #[u9000_, .int .i64 a0_1, .int .i64 a0_2, .int .i64 a0_3, .int .i64 a0_4, .bool a0_5], .int .i64 a1] w fun e w' => e = .returned (.int .i64 r1) ∧ Kd.R k61 61 w' w0.heap.size (fun k_ => (P0_0_ k_ ∨ w.heap.size ≤ k_)) u9000_ r2 ∧ Below w0.heap.size w0 w' ∧ Kept w w' (fun k_ => P0_0_ k_) := by
  have hu30 := Tryz.underlying30; have HO0_0 := qK (show Kd.R k61 61 w w0.heap.size (fun k_ => (P0_0_ k_ ∨ w.heap.size ≤ k_)) u9000_ l0_0 from Kd.Rmo ho0_0 (fun k_ hk => (.inl hk))); have HK := qK (Kept.refl w (fun k_ => P0_0_ k_)); have HW0 := qK hB.size; have HB := qK hB; clear hB; have H : ((laws_markFileS.f k l0_0 a1).bind fun bt249 => (some (bt249.1, bt249.2))) = some (r1, r2) := h; clear h; replace H := Option.bind_eq_some_iff.mp H; obtain ⟨⟨t249, t250⟩, A30, H⟩ := H; have A3 := qK A30; clear A30; simp only [Option.some.injEq, Prod.mk.injEq] at H; obtain ⟨rfl, rfl⟩ := H; obtain ⟨Ao4, co4, eo4⟩ := Kd.R_slice HO0_0.out; subst eo4; go_enter Tryz.func11, Tryz.ntmps11; go_wp2_with (first | ((with_reducible refine gds (N := 2) rfl ?_); refine qbx 2 #[.slice Ao4 l0_0.length co4, .int .i64 a0_1, .int .i64 a0_2, .int .i64 a0_3, .int .i64 a0_4, .bool a0_5] 30 ?_; intro gb248 hg w5 hbox hb; replace HO0_0 := qK (Kd.Rbe (qRb HO0_0) hb); have BK248 := qK (hbox); have GW248 := qK ((by rw [hg]; exact (by first | exact HK.out.1 | exact (show Kept w _ (fun k_ => P0_0_ k_) from by repeat (first | (with_reducible first | exact HK.out | apply Kept.alloc | apply Kept.drewN | apply Kept.drew) | exact HK.out)).1) : w.heap.size ≤ gb248)); replace HK := qK (Kept.below (S := (fun k_ => P0_0_ k_)) (by repeat (first | (with_reducible first | exact HK.out | apply Kept.alloc | apply Kept.drewN | apply Kept.drew) | exact HK.out)) hb); have GE248 := qK ((qW : w0.heap.size ≤ gb248)); replace HB := qHB HB hb; clear hb hbox hg; have hz6 := qz6 BK248.out) | ((with_reducible refine gcl (f := 26) rfl ?_); refine goesL_ (some 8) rfl rfl Tryz.func26 (by kernel_rfl) rfl #[.slice Ao4 l0_0.length co4, .int .i64 a1] rfl qA ?_; (with_reducible refine (laws_markFileS.calls k (fun k_ => some k_ = (.slice Ao4 l0_0.length co4 : Value).ownBlock) (.slice Ao4 l0_0.length co4) l0_0 a1 t249 t250 w0 _ ?side1 ?side2 A3.out).mono ?_); (case side1 => repeat (first | (with_reducible first | exact HB.out | apply bal | apply pbd | apply bd1 | refine bse ?_ GE248.out) | exact HB.out)); (case side2 => exact Kd.R_tight rfl HO0_0.out); rintro e w7 ⟨rfl, hy0, hb, hkp⟩; refine ⟨_, rfl, ?_⟩; replace BK248 := qK (blk_kept (qpk BK248) hkp (fun hs_ => (fun e_ => (Kd.R_ne HO0_0.out BK248.out (by decide)) e_) hs_)); replace HK := qK (Kept.then_ (S := (fun k_ => P0_0_ k_)) (by repeat (first | (with_reducible first | exact HK.out | apply Kept.alloc | apply Kept.drewN | apply Kept.drew | refine Kept.setCell ?_ (.inr GW248.out) _) | exact HK.out)) hkp (fun k_ hs_ => (fun e_ => (HO0_0.out.1 k_ e_.symm)) hs_)); replace HO0_0 := qK (Kd.R_reok rfl hy0 (fun k_ e_ => HO0_0.out.1 k_ e_)); replace HB := qK (hb); (try clear hb); (try clear hkp); (try clear hy0))); go_ret; exact ⟨qR, by (with_reducible repeat (first | apply Kd.Ral | apply Kd.RdN | apply Kd.Rdr)); exact HO0_0.out, qB, by repeat (first | (with_reducible first | exact HK.out | apply Kept.alloc | apply Kept.drewN | apply Kept.drew | refine Kept.setCell ?_ (.inr GW248.out) _) | exact HK.out)⟩
end Go.Proofs.YtfknmohedlfmfaaGreatDoor.L
end
