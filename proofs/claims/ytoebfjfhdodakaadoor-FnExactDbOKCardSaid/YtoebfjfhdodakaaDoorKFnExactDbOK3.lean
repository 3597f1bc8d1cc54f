/- The texts that the proof of the law FnExactDbOK rests on, part 3: printed functions with their contracts, words, plain laws; the last part ends in the statement itself. No condition but those that each theorem states. -/
import Derived.Test.YtoebfjfhdodakaaDoorKFnExactDbOK2
set_option linter.unusedVariables false
set_option linter.unusedSimpArgs false
section
namespace Go.Proofs.YtoebfjfhdodakaaDoor.L
open Go.RowKit Go.Proofs.YtoebfjfhdodakaaDoorW.PrintWords Go.Proofs.YtoebfjfhdodakaaDoorW.PrintLast Go.Proofs.YtoebfjfhdodakaaDoorW.PrintMore
attribute [local go_sem] max2_int min2_int max_two min_two max_three min_three max_four min_four
set_option linter.unusedVariables false
set_option linter.unusedSimpArgs false
def laws_toColumn.f (a0_0 : ByteArray) (a0_1 : Int) : Option (ByteArray × Int) := some (a0_0, a0_1)
set_option maxHeartbeats 8000000 in
set_option maxRecDepth 100000 in
theorem laws_toColumn.calls (a0_0 : ByteArray) (a0_1 : Int) (r1 : ByteArray) (r2 : Int) (w : World) (h : laws_toColumn.f a0_0 a0_1 = some (r1, r2)) :
    Calls Tryd.prog 46 #[.agg #[.string a0_0, .int .i64 a0_1]] w fun e w' => e = .returned (.agg #[.string r1, .int .i64 r2]) ∧ Below w.heap.size w w' := by
  have hu79 := Tryd.underlying79; have hu52 := Tryd.underlying52; have HB := qK (Below.refl w.heap.size w); have H : (some (a0_0, a0_1)) = some (r1, r2) := h; clear h; simp only [Option.some.injEq, Prod.mk.injEq] at H; obtain ⟨rfl, rfl⟩ := H; go_enter Tryd.func46, Tryd.ntmps46; go_wp2_with (first | ((with_reducible refine gds (N := 1) rfl ?_); refine qbx 1 #[.string a0_0, .int .i64 a0_1] 79 ?_; intro gb161 hg w2 hbox hb; have BK161 := qK (hbox); have GW161 := qK ((qW : w.heap.size ≤ gb161)); have GE161 := GW161; replace HB := qHB HB hb; clear hb hbox hg) | ((with_reducible refine gds (N := 2) rfl ?_); refine qbx 2 #[.string (⟨#[]⟩ : ByteArray), .int .i64 0] 52 ?_; intro gb162 hg w3 hbox hb; have BK162 := qK (hbox); have GW162 := qK ((qW : w.heap.size ≤ gb162)); have GE162 := GW162; replace HB := qHB HB hb; have NB161_162 := qK (qlt BK161 hg); have NB162_161 := qK (qgt BK161 hg); replace BK161 := qbb BK161 hb; clear hb hbox hg) | ((with_reducible refine gds (N := 3) rfl ?_); refine qbx 3 #[.string (⟨#[]⟩ : ByteArray), .int .i64 0] 52 ?_; intro gb163 hg w4 hbox hb; have BK163 := qK (hbox); have GW163 := qK ((qW : w.heap.size ≤ gb163)); have GE163 := GW163; replace HB := qHB HB hb; have NB161_163 := qK (qlt BK161 hg); have NB163_161 := qK (qgt BK161 hg); replace BK161 := qbb BK161 hb; have NB162_163 := qK (qlt BK162 hg); have NB163_162 := qK (qgt BK162 hg); replace BK162 := qbb BK162 hb; clear hb hbox hg; have hnb5 := NB161_162.out; have hnc5 := NB162_161.out; have hnb6 := NB161_163.out; have hnc6 := NB163_161.out; have hz7 := qz2 BK161.out; have hnb8 := NB163_162.out; have hnc8 := NB162_163.out; have hz9 := qz2 BK163.out; have hz10 := qz2 BK162.out)); refine bodyPost_ret (results_cell_row rfl _ _ gb162 52 #[.string a0_0, .int .i64 a0_1] (0, 0) _ rfl (by (with_reducible repeat (first | refine bdN ?_ _ | refine bkD ?_ | refine bkA ?_ _)); refine bpu (cs := #[.string a0_0, .int .i64 0]) ?_ 1 _ rfl; (with_reducible repeat (first | refine bdN ?_ _ | refine bkD ?_ | refine bkA ?_ _)); refine bpu (cs := #[.string (⟨#[]⟩ : ByteArray), .int .i64 0]) ?_ 0 _ rfl; (with_reducible repeat (first | refine bdN ?_ _ | refine bkD ?_ | refine bkA ?_ _)); refine bfa ?_ NB162_163.out _; (with_reducible repeat (first | refine bdN ?_ _ | refine bkD ?_ | refine bkA ?_ _)); refine bfa ?_ NB162_163.out _; (with_reducible repeat (first | refine bdN ?_ _ | refine bkD ?_ | refine bkA ?_ _)); exact BK162.out) Tryd.underlying52 rfl (by kernel_rfl)) rfl ?_; exact ⟨qR, qB⟩
def laws_toColumnS.l0 : Nat → List (S79) → List (S52) → Int → Option ((List (S52)))
  | 0, _, _, _ => none
  | k + 1, x0, x3, x4 => if x4 < (x0.length : Int) then (if 0 ≤ x4 then ((laws_toColumn.f ((rd_T79 x0 x4).f0) ((rd_T79 x0 x4).f1)).bind fun bt168 => (if x4 < (x3.length : Int) then (laws_toColumnS.l0 k x0 (x3.set (x4 : Int).toNat (⟨bt168.1, bt168.2⟩ : S52)) (wrap64 (x4 + 1))) else (none))) else (none)) else (some x3)
def laws_toColumnS.f (k : Nat) (l0 : List (S79)) : Option ((List (S52))) := if 0 ≤ (l0.length : Int) then (if ((l0.length : Int) : Int).toNat ≤ 11728124029610 then (laws_toColumnS.l0 k l0 (List.replicate ((l0.length : Int) : Int).toNat z52) 0) else (none)) else (none)
theorem laws_toColumnS.mono_l : ∀ k, (∀ y0 y1 y2, LeO (laws_toColumnS.l0 k y0 y1 y2) (laws_toColumnS.l0 (k + 1) y0 y1 y2))
  | 0 => fun _ _ _ r h => by simp [laws_toColumnS.l0] at h
  | k + 1 => by
    have ih0 := laws_toColumnS.mono_l k
    · intro y0 y1 y2
      unfold laws_toColumnS.l0
      repeat' first
      | (with_reducible exact ih0 _ _ _)
      | (with_reducible exact LeO.refl _)
      | (with_reducible exact LeO.none _)
      | (with_reducible refine LeO.ite ?_ ?_)
      | (with_reducible refine LeO.bind ?_ (fun _ => ?_))
      | exact ih0 _ _ _
      | exact LeO.none _
      | refine LeO.ite ?_ ?_
      | refine LeO.bind ?_ (fun _ => ?_)
theorem laws_toColumnS.mono : ∀ a0 k, LeO (laws_toColumnS.f k a0) (laws_toColumnS.f (k + 1) a0) := by
  intro a0 k
  have ih0 := laws_toColumnS.mono_l k
  unfold laws_toColumnS.f
  repeat' first
      | (with_reducible exact ih0 _ _ _)
      | (with_reducible exact LeO.refl _)
      | (with_reducible exact LeO.none _)
      | (with_reducible refine LeO.ite ?_ ?_)
      | (with_reducible refine LeO.bind ?_ (fun _ => ?_))
      | exact ih0 _ _ _
      | exact LeO.none _
      | refine LeO.ite ?_ ?_
      | refine LeO.bind ?_ (fun _ => ?_)
set_option maxHeartbeats 8000000 in
set_option maxRecDepth 100000 in
theorem laws_toColumnS.calls (k : Nat) (A0 : Option Addr) (c0 : Nat) (l0 : List (S79)) (r : List (S52)) (w : World) (hr0 : Kd.C k79 w A0 l0.length l0) (hc0 : l0.length ≤ c0) (h : laws_toColumnS.f k l0 = some r) :
    Calls Tryd.prog 35 #[.slice A0 l0.length c0] w fun e w' => ∃ v0_ : Value, e = .returned (v0_) ∧ Kd.R k52 52 w' w.heap.size (fun _ => True) v0_ r ∧ Below w.heap.size w w' := by
  have hu79 := Tryd.underlying79; have hu52 := Tryd.underlying52; have HR0 := qK hr0; have HC0 := qK hc0; clear hr0 hc0; have HB := qK (Below.refl w.heap.size w); have H : (if 0 ≤ (l0.length : Int) then (if ((l0.length : Int) : Int).toNat ≤ 11728124029610 then (laws_toColumnS.l0 k l0 (List.replicate ((l0.length : Int) : Int).toNat z52) 0) else (none)) else (none)) = some r := h; clear h; by_cases c2 : 0 ≤ (l0.length : Int)
  · rw [if_pos c2] at H; have c2b0 := eq_true c2; have c2b1 : decide (0 ≤ (l0.length : Int)) = true := decide_eq_true c2; clear c2; by_cases c3 : ((l0.length : Int) : Int).toNat ≤ 11728124029610
    · rw [if_pos c3] at H; have c3b0 := eq_true c3; have c3b1 : decide (((l0.length : Int) : Int).toNat ≤ 11728124029610) = true := decide_eq_true c3; clear c3; obtain ⟨y164, hy164⟩ : ∃ y_ : List (S52), y_ = (List.replicate ((l0.length : Int) : Int).toNat z52) := ⟨_, rfl⟩; (replace H : (laws_toColumnS.l0 k l0 y164 0) = some r := by first | (rw [hy164]; with_reducible exact H) | (have H2_ := (Option.bind_some _ _).symm.trans H; rw [hy164]; with_reducible exact H2_) | (have H2_ := (Option.bind_some _ _).symm.trans H; with_reducible exact H2_) | with_reducible exact H | (rw [hy164]; exact H) | exact H); have Ny164 := qK hy164; clear hy164; have H' := qK H; clear H; go_enter Tryd.func35, Tryd.ntmps35; go_wp2_with (first | ((with_reducible refine gds (N := 7) rfl ?_); refine Kd.R_make k52 _ 52 rfl (N := 7) rfl 34 _ _ rfl (l0.length : Int) rfl rfl Tryd.underlying34 (.agg #[(.string ⟨#[]⟩), (.int .i64 0)]) 24 info52 rfl (by decide) (by omega) z52 (ok := fun _ => True) (okp := fun _ => True) (k52_mkM _ _ _ z52 ) (fun _ hk => hk) trivial (of_decide_eq_true qa) (Nat.le_trans (Nat.mul_le_mul_right _ (of_decide_eq_true qa : (l0.length : Int).toNat ≤ 11728124029610)) (by omega)) (Below.refl _ _) (Nat.le_refl _) ?_; intro v165 w4 ho5 hb hg_ hnew_; clear hg_ hnew_; (first | rw [← Ny164.out] at ho5 | (simp only [Int.reduceToNat] at ho5; rw [← Ny164.out] at ho5)); have HO166 := qK (Kd.Rlo ho5 (bsz qB)); replace HB := qHB HB hb; clear hb ho5)); go_loopg [4] k (fun kq v4 w' => ∃ (x3_1 : List (S52)) (x4_1 : Int), v4 = .int .i64 x4_1 ∧ Aside0 (laws_toColumnS.l0 kq l0 x3_1 x4_1 = some r) ∧ Aside0 (kq ≤ k) ∧ Aside0 (Kd.R k52 52 w' w.heap.size (fun _ => True) v165 x3_1) ∧ Aside0 (Below w.heap.size w w'))
      case atStart => exact ⟨(y164), (0), qS, H', ⟨Nat.le_refl _⟩, ⟨by (with_reducible repeat (first | apply Kd.Ral | apply Kd.RdN | apply Kd.Rdr)); exact HO166.out⟩, ⟨qB⟩⟩
      case round =>
        clear H'; (try clear c2); (try clear c2b0); (try clear c2b1); (try clear p2); (try clear c3); (try clear c3b0); (try clear c3b1); obtain ⟨x3_1, x4_1, rfl, HA, HK1, HO_3, HB⟩ := hrel
        cases gk with
        | zero => exact absurd HA.out (by simp [laws_toColumnS.l0])
        | succ k1 =>
          have H := HA.out; clear HA; simp only [laws_toColumnS.l0] at H; by_cases c6 : x4_1 < (l0.length : Int)
          · rw [if_pos c6] at H; have c6b0 : decide (x4_1 < (l0.length : Int)) = true := decide_eq_true c6; clear c6; by_cases c7 : 0 ≤ x4_1
            · rw [if_pos c7] at H; have c7b0 : decide (0 ≤ x4_1) = true := decide_eq_true c7; clear c7; replace H := Option.bind_eq_some_iff.mp H; obtain ⟨⟨t168, t169⟩, A80, H⟩ := H; have A8 := qK A80; clear A80; by_cases c9 : x4_1 < (x3_1.length : Int)
              · rw [if_pos c9] at H; have c9b0 : decide (x4_1 < (x3_1.length : Int)) = true := decide_eq_true c9; clear c9; obtain ⟨y170, hy170⟩ : ∃ y_ : List (S52), y_ = (x3_1.set (x4_1 : Int).toNat (⟨t168, t169⟩ : S52)) := ⟨_, rfl⟩; (replace H : (laws_toColumnS.l0 k1 l0 y170 (wrap64 (x4_1 + 1))) = some r := by first | (rw [hy170]; with_reducible exact H) | (have H2_ := (Option.bind_some _ _).symm.trans H; rw [hy170]; with_reducible exact H2_) | (have H2_ := (Option.bind_some _ _).symm.trans H; with_reducible exact H2_) | with_reducible exact H | (rw [hy170]; exact H) | exact H); have Ny170 := qK hy170; clear hy170; have H' := qK H; clear H; have p167 : 0 ≤ (x4_1 : Int) := of_decide_eq_true qa; have q167 : x4_1 < (l0.length : Int) := of_decide_eq_true qa; obtain ⟨ad167, e167, hx167_0, hx167_1⟩ := at_T79 HR0.out x4_1 p167 q167; cases e167; replace hx167_0 := (HB.out.cell (World.block_lt_of_cell? w _ hx167_0)).trans hx167_0; replace hx167_1 := (HB.out.cell (World.block_lt_of_cell? w _ hx167_1)).trans hx167_1; replace p167 := eq_true p167; replace q167 := eq_true q167; go_wp2_with (first | ((with_reducible refine gcl (f := 46) rfl ?_); refine goesL_ (some 20) rfl rfl Tryd.func46 (by kernel_rfl) rfl #[.agg #[.string ((rd_T79 l0 x4_1).f0), .int .i64 ((rd_T79 l0 x4_1).f1)]] rfl qA ?_; (with_reducible refine (laws_toColumn.calls ((rd_T79 l0 x4_1).f0) ((rd_T79 l0 x4_1).f1) t168 t169 _ A8.out).mono ?_); rintro e w11 ⟨rfl, hb⟩; refine ⟨_, rfl, ?_⟩; replace HO_3 := qK (Kd.Rbe (by (with_reducible repeat (first | apply Kd.Ral | apply Kd.RdN | apply Kd.Rdr)); exact HO_3.out) hb); replace HB := qHB HB hb; (try clear hb); (try clear hb2); (try clear hk); (try clear hi); have p10 : 0 ≤ (x4_1 : Int) := of_decide_eq_true qa; have q10 : (x4_1 : Int) < ((x3_1.length : Int) : Int) := of_decide_eq_true qa; obtain ⟨go10, co10, eo10, gb10, gl10, cl10, HG10⟩ := Kd.R_form HO_3.out (by omega); (first | cases eo10 | (injection eo10 with ea_ en_ ec_; (first | subst ea_ | (injection ea_ with ea_; subst ea_)); subst ec_; clear en_)); have GB10 := qK gb10; have GG10 := qK HG10; clear gb10 gl10 HG10; obtain ⟨ce10, hcl10, hM10, hcc10, hfr10⟩ := Kd.R_elem HO_3.out z52 (x4_1 : Int) p10 q10; obtain rfl := k52_openM hM10; have hx10_0 : w11.cell? ⟨go10, (x4_1 : Int).toNat * 2, none⟩ = some (.string ((rd_T52 x3_1 x4_1).f0)) := hcc10 0 _ rfl; have hx10_1 : w11.cell? ⟨go10, (x4_1 : Int).toNat * 2 + 1, none⟩ = some (.int .i64 ((rd_T52 x3_1 x4_1).f1)) := hcc10 1 _ rfl; have hf10_0 : w11.frozen? ⟨go10, (x4_1 : Int).toNat * 2, none⟩ = false := hfr10 0; have hf10_1 : w11.frozen? ⟨go10, (x4_1 : Int).toNat * 2 + 1, none⟩ = false := hfr10 1; clear hcl10 hcc10 hfr10; (try clear hM10); replace p10 := eq_true p10; replace q10 := eq_true q10; have HX12 := qK (show Kd.R k52 52 w11 w.heap.size (fun _ => True) (.slice (some ⟨go10, 0, none⟩) x3_1.length co10) x3_1 from (by (with_reducible repeat (first | apply Kd.Ral | apply Kd.RdN | apply Kd.Rdr)); exact HO_3.out)); obtain ⟨ce12, hcl12, hM12, hcc12, hfr12⟩ := Kd.R_elem HX12.out z52 (x4_1 : Int) (of_decide_eq_true qa) (by have h_ : (x4_1 : Int) < ((x3_1.length : Int) : Int) := of_decide_eq_true qa; first | exact h_ | (have e_ := (Kd.R_reads' HO_3.out).1; omega) | simpa using h_); obtain rfl := k52_openM hM12; have HP12 := Kd.R_seg HX12.out (x4_1 : Int) (of_decide_eq_true qa) (by have h_ : (x4_1 : Int) < ((x3_1.length : Int) : Int) := of_decide_eq_true qa; first | exact h_ | (have e_ := (Kd.R_reads' HO_3.out).1; omega) | simpa using h_) (seg := [.string t168, .int .i64 t169]) (j := 0) hcl12 hcc12 (show 2 ≤ 2 from by decide) (x' := (⟨t168, t169⟩ : S52)) (k52_mkM _ _ _ (⟨t168, t169⟩ : S52) ) (fun _ hk => hk); have hx12_0 := hcc12 0 _ rfl; (try simp only [show (k52).sz = 2 from rfl, Nat.mul_one, Nat.add_zero] at hx12_0); have hf12_0 := hfr12 0; (try simp only [show (k52).sz = 2 from rfl, Nat.mul_one, Nat.add_zero] at hf12_0); have hx12_1 := hcc12 1 _ rfl; (try simp only [show (k52).sz = 2 from rfl, Nat.mul_one, Nat.add_zero] at hx12_1); have hf12_1 := hfr12 1; (try simp only [show (k52).sz = 2 from rfl, Nat.mul_one, Nat.add_zero] at hf12_1); clear hcl12 hcc12 hfr12; (try clear hM12)) | ((with_reducible refine gst (t := 52) (p := 21) rfl ?_); refine ste (t := 52) (p := 21) (v := ?vo_w13) (w1 := ((w11.setCell ⟨go10, (x4_1 : Int).toNat * 2, none⟩ (.string t168)).setCell ⟨go10, (x4_1 : Int).toNat * 2 + 1, none⟩ (.int .i64 t169))) ?hg ?ho ?hn ?hr ?_; (case ho => rfl); (case hg => rfl); (case hn => rfl); (case hr => first | (go_simp; done) | (go_simp; rfl)); intro w13 hw; have hg : w11.grownBy w13 (some go10) := (by rw [hw]; exact HP12.2); have hp_ : Kd.R k52 52 w13 w.heap.size (fun _ => True) (.slice (some ⟨go10, 0, none⟩) x3_1.length co10) y170 := (by rw [hw, Ny170.out]; exact HP12.1); clear HP12; replace HO_3 := qK (hp_); replace HB := qK ((by rw [hw]; exact bse (bse (HB.out) GB10.out) GB10.out : Below w.heap.size w w13)); clear hg hw hp_)); go_roundg k1
                case measure => have := HK1.out; omega
                case rel => exact ⟨(y170), (wrap64 (x4_1 + 1)), qS, H', ⟨by have := HK1.out; omega⟩, ⟨by (with_reducible repeat (first | apply Kd.Ral | apply Kd.RdN | apply Kd.Rdr)); exact HO_3.out⟩, ⟨qB⟩⟩
              · rw [if_neg c9] at H; exact absurd H (by simp)
            · rw [if_neg c7] at H; exact absurd H (by simp)
          · rw [if_neg c6] at H; have c6b0 : decide (x4_1 < (l0.length : Int)) = false := decide_eq_false c6; clear c6; obtain rfl := Option.some.inj H; go_wp2; go_ret; exact ⟨_, qR, by (with_reducible repeat (first | apply Kd.Ral | apply Kd.RdN | apply Kd.Rdr)); exact HO_3.out, qB⟩
    · rw [if_neg c3] at H; exact absurd H (by simp)
  · rw [if_neg c2] at H; exact absurd H (by simp)
def laws_toValue.f (a0_0 : Int) (a0_1 : Int) (a0_2 : ByteArray) : Option (Int × Int × ByteArray) := some (a0_0, a0_1, a0_2)
set_option maxHeartbeats 8000000 in
set_option maxRecDepth 100000 in
theorem laws_toValue.calls (a0_0 : Int) (a0_1 : Int) (a0_2 : ByteArray) (r1 : Int) (r2 : Int) (r3 : ByteArray) (w : World) (h : laws_toValue.f a0_0 a0_1 a0_2 = some (r1, r2, r3)) :
    Calls Tryd.prog 53 #[.agg #[.int .i64 a0_0, .int .i64 a0_1, .string a0_2]] w fun e w' => e = .returned (.agg #[.int .i64 r1, .int .i64 r2, .string r3]) ∧ Below w.heap.size w w' := by
  have hu87 := Tryd.underlying87; have hu57 := Tryd.underlying57; have HB := qK (Below.refl w.heap.size w); have H : (some (a0_0, a0_1, a0_2)) = some (r1, r2, r3) := h; clear h; simp only [Option.some.injEq, Prod.mk.injEq] at H; obtain ⟨rfl, rfl, rfl⟩ := H; go_enter Tryd.func53, Tryd.ntmps53; go_wp2_with (first | ((with_reducible refine gds (N := 1) rfl ?_); refine qbx 1 #[.int .i64 a0_0, .int .i64 a0_1, .string a0_2] 87 ?_; intro gb171 hg w2 hbox hb; have BK171 := qK (hbox); have GW171 := qK ((qW : w.heap.size ≤ gb171)); have GE171 := GW171; replace HB := qHB HB hb; clear hb hbox hg) | ((with_reducible refine gds (N := 2) rfl ?_); refine qbx 2 #[.int .i64 0, .int .i64 0, .string (⟨#[]⟩ : ByteArray)] 57 ?_; intro gb172 hg w3 hbox hb; have BK172 := qK (hbox); have GW172 := qK ((qW : w.heap.size ≤ gb172)); have GE172 := GW172; replace HB := qHB HB hb; have NB171_172 := qK (qlt BK171 hg); have NB172_171 := qK (qgt BK171 hg); replace BK171 := qbb BK171 hb; clear hb hbox hg) | ((with_reducible refine gds (N := 3) rfl ?_); refine qbx 3 #[.int .i64 0, .int .i64 0, .string (⟨#[]⟩ : ByteArray)] 57 ?_; intro gb173 hg w4 hbox hb; have BK173 := qK (hbox); have GW173 := qK ((qW : w.heap.size ≤ gb173)); have GE173 := GW173; replace HB := qHB HB hb; have NB171_173 := qK (qlt BK171 hg); have NB173_171 := qK (qgt BK171 hg); replace BK171 := qbb BK171 hb; have NB172_173 := qK (qlt BK172 hg); have NB173_172 := qK (qgt BK172 hg); replace BK172 := qbb BK172 hb; clear hb hbox hg; have hnb5 := NB171_172.out; have hnc5 := NB172_171.out; have hnb6 := NB171_173.out; have hnc6 := NB173_171.out; have hz7 := qz3 BK171.out; have hnb8 := NB173_172.out; have hnc8 := NB172_173.out; have hz9 := qz3 BK173.out; have hz10 := qz3 BK172.out)); refine bodyPost_ret (results_cell_row rfl _ _ gb172 57 #[.int .i64 a0_0, .int .i64 a0_1, .string a0_2] (0, 0) _ rfl (by (with_reducible repeat (first | refine bdN ?_ _ | refine bkD ?_ | refine bkA ?_ _)); refine bpu (cs := #[.int .i64 a0_0, .int .i64 a0_1, .string (⟨#[]⟩ : ByteArray)]) ?_ 2 _ rfl; (with_reducible repeat (first | refine bdN ?_ _ | refine bkD ?_ | refine bkA ?_ _)); refine bpu (cs := #[.int .i64 a0_0, .int .i64 0, .string (⟨#[]⟩ : ByteArray)]) ?_ 1 _ rfl; (with_reducible repeat (first | refine bdN ?_ _ | refine bkD ?_ | refine bkA ?_ _)); refine bpu (cs := #[.int .i64 0, .int .i64 0, .string (⟨#[]⟩ : ByteArray)]) ?_ 0 _ rfl; (with_reducible repeat (first | refine bdN ?_ _ | refine bkD ?_ | refine bkA ?_ _)); refine bfa ?_ NB172_173.out _; (with_reducible repeat (first | refine bdN ?_ _ | refine bkD ?_ | refine bkA ?_ _)); refine bfa ?_ NB172_173.out _; (with_reducible repeat (first | refine bdN ?_ _ | refine bkD ?_ | refine bkA ?_ _)); refine bfa ?_ NB172_173.out _; (with_reducible repeat (first | refine bdN ?_ _ | refine bkD ?_ | refine bkA ?_ _)); exact BK172.out) Tryd.underlying57 rfl (by kernel_rfl)) rfl ?_; exact ⟨qR, qB⟩
def laws_toValueS.l0 : Nat → List (S87) → List (S57) → Int → Option ((List (S57)))
  | 0, _, _, _ => none
  | k + 1, x0, x3, x4 => if x4 < (x0.length : Int) then (if 0 ≤ x4 then ((laws_toValue.f ((rd_T87 x0 x4).f0) ((rd_T87 x0 x4).f1) ((rd_T87 x0 x4).f2)).bind fun bt178 => (if x4 < (x3.length : Int) then (laws_toValueS.l0 k x0 (x3.set (x4 : Int).toNat (⟨bt178.1, bt178.2.1, bt178.2.2⟩ : S57)) (wrap64 (x4 + 1))) else (none))) else (none)) else (some x3)
def laws_toValueS.f (k : Nat) (l0 : List (S87)) : Option ((List (S57))) := if 0 ≤ (l0.length : Int) then (if ((l0.length : Int) : Int).toNat ≤ 8796093022208 then (laws_toValueS.l0 k l0 (List.replicate ((l0.length : Int) : Int).toNat z57) 0) else (none)) else (none)
theorem laws_toValueS.mono_l : ∀ k, (∀ y0 y1 y2, LeO (laws_toValueS.l0 k y0 y1 y2) (laws_toValueS.l0 (k + 1) y0 y1 y2))
  | 0 => fun _ _ _ r h => by simp [laws_toValueS.l0] at h
  | k + 1 => by
    have ih0 := laws_toValueS.mono_l k
    · intro y0 y1 y2
      unfold laws_toValueS.l0
      repeat' first
      | (with_reducible exact ih0 _ _ _)
      | (with_reducible exact LeO.refl _)
      | (with_reducible exact LeO.none _)
      | (with_reducible refine LeO.ite ?_ ?_)
      | (with_reducible refine LeO.bind ?_ (fun _ => ?_))
      | exact ih0 _ _ _
      | exact LeO.none _
      | refine LeO.ite ?_ ?_
      | refine LeO.bind ?_ (fun _ => ?_)
theorem laws_toValueS.mono : ∀ a0 k, LeO (laws_toValueS.f k a0) (laws_toValueS.f (k + 1) a0) := by
  intro a0 k
  have ih0 := laws_toValueS.mono_l k
  unfold laws_toValueS.f
  repeat' first
      | (with_reducible exact ih0 _ _ _)
      | (with_reducible exact LeO.refl _)
      | (with_reducible exact LeO.none _)
      | (with_reducible refine LeO.ite ?_ ?_)
      | (with_reducible refine LeO.bind ?_ (fun _ => ?_))
      | exact ih0 _ _ _
      | exact LeO.none _
      | refine LeO.ite ?_ ?_
      | refine LeO.bind ?_ (fun _ => ?_)
set_option maxHeartbeats 8000000 in
set_option maxRecDepth 100000 in
theorem laws_toValueS.calls (k : Nat) (A0 : Option Addr) (c0 : Nat) (l0 : List (S87)) (r : List (S57)) (w : World) (hr0 : Kd.C k87 w A0 l0.length l0) (hc0 : l0.length ≤ c0) (h : laws_toValueS.f k l0 = some r) :
    Calls Tryd.prog 47 #[.slice A0 l0.length c0] w fun e w' => ∃ v0_ : Value, e = .returned (v0_) ∧ Kd.R k57 57 w' w.heap.size (fun _ => True) v0_ r ∧ Below w.heap.size w w' := by
  have hu87 := Tryd.underlying87; have hu57 := Tryd.underlying57; have HR0 := qK hr0; have HC0 := qK hc0; clear hr0 hc0; have HB := qK (Below.refl w.heap.size w); have H : (if 0 ≤ (l0.length : Int) then (if ((l0.length : Int) : Int).toNat ≤ 8796093022208 then (laws_toValueS.l0 k l0 (List.replicate ((l0.length : Int) : Int).toNat z57) 0) else (none)) else (none)) = some r := h; clear h; by_cases c2 : 0 ≤ (l0.length : Int)
  · rw [if_pos c2] at H; have c2b0 := eq_true c2; have c2b1 : decide (0 ≤ (l0.length : Int)) = true := decide_eq_true c2; clear c2; by_cases c3 : ((l0.length : Int) : Int).toNat ≤ 8796093022208
    · rw [if_pos c3] at H; have c3b0 := eq_true c3; have c3b1 : decide (((l0.length : Int) : Int).toNat ≤ 8796093022208) = true := decide_eq_true c3; clear c3; obtain ⟨y174, hy174⟩ : ∃ y_ : List (S57), y_ = (List.replicate ((l0.length : Int) : Int).toNat z57) := ⟨_, rfl⟩; (replace H : (laws_toValueS.l0 k l0 y174 0) = some r := by first | (rw [hy174]; with_reducible exact H) | (have H2_ := (Option.bind_some _ _).symm.trans H; rw [hy174]; with_reducible exact H2_) | (have H2_ := (Option.bind_some _ _).symm.trans H; with_reducible exact H2_) | with_reducible exact H | (rw [hy174]; exact H) | exact H); have Ny174 := qK hy174; clear hy174; have H' := qK H; clear H; go_enter Tryd.func47, Tryd.ntmps47; go_wp2_with (first | ((with_reducible refine gds (N := 7) rfl ?_); refine Kd.R_make k57 _ 57 rfl (N := 7) rfl 55 _ _ rfl (l0.length : Int) rfl rfl Tryd.underlying55 (.agg #[(.int .i64 0), (.int .i64 0), (.string ⟨#[]⟩)]) 32 info57 rfl (by decide) (by omega) z57 (ok := fun _ => True) (okp := fun _ => True) (k57_mkM _ _ _ z57 ) (fun _ hk => hk) trivial (of_decide_eq_true qa) (Nat.le_trans (Nat.mul_le_mul_right _ (of_decide_eq_true qa : (l0.length : Int).toNat ≤ 8796093022208)) (by omega)) (Below.refl _ _) (Nat.le_refl _) ?_; intro v175 w4 ho5 hb hg_ hnew_; clear hg_ hnew_; (first | rw [← Ny174.out] at ho5 | (simp only [Int.reduceToNat] at ho5; rw [← Ny174.out] at ho5)); have HO176 := qK (Kd.Rlo ho5 (bsz qB)); replace HB := qHB HB hb; clear hb ho5)); go_loopg [4] k (fun kq v4 w' => ∃ (x3_1 : List (S57)) (x4_1 : Int), v4 = .int .i64 x4_1 ∧ Aside0 (laws_toValueS.l0 kq l0 x3_1 x4_1 = some r) ∧ Aside0 (kq ≤ k) ∧ Aside0 (Kd.R k57 57 w' w.heap.size (fun _ => True) v175 x3_1) ∧ Aside0 (Below w.heap.size w w'))
      case atStart => exact ⟨(y174), (0), qS, H', ⟨Nat.le_refl _⟩, ⟨by (with_reducible repeat (first | apply Kd.Ral | apply Kd.RdN | apply Kd.Rdr)); exact HO176.out⟩, ⟨qB⟩⟩
      case round =>
        clear H'; (try clear c2); (try clear c2b0); (try clear c2b1); (try clear p2); (try clear c3); (try clear c3b0); (try clear c3b1); (try clear c4); obtain ⟨x3_1, x4_1, rfl, HA, HK1, HO_3, HB⟩ := hrel
        cases gk with
        | zero => exact absurd HA.out (by simp [laws_toValueS.l0])
        | succ k1 =>
          have H := HA.out; clear HA; simp only [laws_toValueS.l0] at H; by_cases c6 : x4_1 < (l0.length : Int)
          · rw [if_pos c6] at H; have c6b0 : decide (x4_1 < (l0.length : Int)) = true := decide_eq_true c6; clear c6; by_cases c7 : 0 ≤ x4_1
            · rw [if_pos c7] at H; have c7b0 : decide (0 ≤ x4_1) = true := decide_eq_true c7; clear c7; replace H := Option.bind_eq_some_iff.mp H; obtain ⟨⟨t178, t179, t180⟩, A80, H⟩ := H; have A8 := qK A80; clear A80; by_cases c9 : x4_1 < (x3_1.length : Int)
              · rw [if_pos c9] at H; have c9b0 : decide (x4_1 < (x3_1.length : Int)) = true := decide_eq_true c9; clear c9; obtain ⟨y181, hy181⟩ : ∃ y_ : List (S57), y_ = (x3_1.set (x4_1 : Int).toNat (⟨t178, t179, t180⟩ : S57)) := ⟨_, rfl⟩; (replace H : (laws_toValueS.l0 k1 l0 y181 (wrap64 (x4_1 + 1))) = some r := by first | (rw [hy181]; with_reducible exact H) | (have H2_ := (Option.bind_some _ _).symm.trans H; rw [hy181]; with_reducible exact H2_) | (have H2_ := (Option.bind_some _ _).symm.trans H; with_reducible exact H2_) | with_reducible exact H | (rw [hy181]; exact H) | exact H); have Ny181 := qK hy181; clear hy181; have H' := qK H; clear H; have p177 : 0 ≤ (x4_1 : Int) := of_decide_eq_true qa; have q177 : x4_1 < (l0.length : Int) := of_decide_eq_true qa; obtain ⟨ad177, e177, hx177_0, hx177_1, hx177_2⟩ := at_T87 HR0.out x4_1 p177 q177; cases e177; replace hx177_0 := (HB.out.cell (World.block_lt_of_cell? w _ hx177_0)).trans hx177_0; replace hx177_1 := (HB.out.cell (World.block_lt_of_cell? w _ hx177_1)).trans hx177_1; replace hx177_2 := (HB.out.cell (World.block_lt_of_cell? w _ hx177_2)).trans hx177_2; replace p177 := eq_true p177; replace q177 := eq_true q177; go_wp2_with (first | ((with_reducible refine gcl (f := 53) rfl ?_); refine goesL_ (some 20) rfl rfl Tryd.func53 (by kernel_rfl) rfl #[.agg #[.int .i64 ((rd_T87 l0 x4_1).f0), .int .i64 ((rd_T87 l0 x4_1).f1), .string ((rd_T87 l0 x4_1).f2)]] rfl qA ?_; (with_reducible refine (laws_toValue.calls ((rd_T87 l0 x4_1).f0) ((rd_T87 l0 x4_1).f1) ((rd_T87 l0 x4_1).f2) t178 t179 t180 _ A8.out).mono ?_); rintro e w11 ⟨rfl, hb⟩; refine ⟨_, rfl, ?_⟩; replace HO_3 := qK (Kd.Rbe (by (with_reducible repeat (first | apply Kd.Ral | apply Kd.RdN | apply Kd.Rdr)); exact HO_3.out) hb); replace HB := qHB HB hb; (try clear hb); (try clear hb2); (try clear hk); (try clear hi); have p10 : 0 ≤ (x4_1 : Int) := of_decide_eq_true qa; have q10 : (x4_1 : Int) < ((x3_1.length : Int) : Int) := of_decide_eq_true qa; obtain ⟨go10, co10, eo10, gb10, gl10, cl10, HG10⟩ := Kd.R_form HO_3.out (by omega); (first | cases eo10 | (injection eo10 with ea_ en_ ec_; (first | subst ea_ | (injection ea_ with ea_; subst ea_)); subst ec_; clear en_)); have GB10 := qK gb10; have GG10 := qK HG10; clear gb10 gl10 HG10; obtain ⟨ce10, hcl10, hM10, hcc10, hfr10⟩ := Kd.R_elem HO_3.out z57 (x4_1 : Int) p10 q10; obtain rfl := k57_openM hM10; have hx10_0 : w11.cell? ⟨go10, (x4_1 : Int).toNat * 3, none⟩ = some (.int .i64 ((rd_T57 x3_1 x4_1).f0)) := hcc10 0 _ rfl; have hx10_1 : w11.cell? ⟨go10, (x4_1 : Int).toNat * 3 + 1, none⟩ = some (.int .i64 ((rd_T57 x3_1 x4_1).f1)) := hcc10 1 _ rfl; have hx10_2 : w11.cell? ⟨go10, (x4_1 : Int).toNat * 3 + 2, none⟩ = some (.string ((rd_T57 x3_1 x4_1).f2)) := hcc10 2 _ rfl; have hf10_0 : w11.frozen? ⟨go10, (x4_1 : Int).toNat * 3, none⟩ = false := hfr10 0; have hf10_1 : w11.frozen? ⟨go10, (x4_1 : Int).toNat * 3 + 1, none⟩ = false := hfr10 1; have hf10_2 : w11.frozen? ⟨go10, (x4_1 : Int).toNat * 3 + 2, none⟩ = false := hfr10 2; clear hcl10 hcc10 hfr10; (try clear hM10); replace p10 := eq_true p10; replace q10 := eq_true q10; have HX12 := qK (show Kd.R k57 57 w11 w.heap.size (fun _ => True) (.slice (some ⟨go10, 0, none⟩) x3_1.length co10) x3_1 from (by (with_reducible repeat (first | apply Kd.Ral | apply Kd.RdN | apply Kd.Rdr)); exact HO_3.out)); obtain ⟨ce12, hcl12, hM12, hcc12, hfr12⟩ := Kd.R_elem HX12.out z57 (x4_1 : Int) (of_decide_eq_true qa) (by have h_ : (x4_1 : Int) < ((x3_1.length : Int) : Int) := of_decide_eq_true qa; first | exact h_ | (have e_ := (Kd.R_reads' HO_3.out).1; omega) | simpa using h_); obtain rfl := k57_openM hM12; have HP12 := Kd.R_seg HX12.out (x4_1 : Int) (of_decide_eq_true qa) (by have h_ : (x4_1 : Int) < ((x3_1.length : Int) : Int) := of_decide_eq_true qa; first | exact h_ | (have e_ := (Kd.R_reads' HO_3.out).1; omega) | simpa using h_) (seg := [.int .i64 t178, .int .i64 t179, .string t180]) (j := 0) hcl12 hcc12 (show 3 ≤ 3 from by decide) (x' := (⟨t178, t179, t180⟩ : S57)) (k57_mkM _ _ _ (⟨t178, t179, t180⟩ : S57) ) (fun _ hk => hk); have hx12_0 := hcc12 0 _ rfl; (try simp only [show (k57).sz = 3 from rfl, Nat.mul_one, Nat.add_zero] at hx12_0); have hf12_0 := hfr12 0; (try simp only [show (k57).sz = 3 from rfl, Nat.mul_one, Nat.add_zero] at hf12_0); have hx12_1 := hcc12 1 _ rfl; (try simp only [show (k57).sz = 3 from rfl, Nat.mul_one, Nat.add_zero] at hx12_1); have hf12_1 := hfr12 1; (try simp only [show (k57).sz = 3 from rfl, Nat.mul_one, Nat.add_zero] at hf12_1); have hx12_2 := hcc12 2 _ rfl; (try simp only [show (k57).sz = 3 from rfl, Nat.mul_one, Nat.add_zero] at hx12_2); have hf12_2 := hfr12 2; (try simp only [show (k57).sz = 3 from rfl, Nat.mul_one, Nat.add_zero] at hf12_2); clear hcl12 hcc12 hfr12; (try clear hM12)) | ((with_reducible refine gst (t := 57) (p := 21) rfl ?_); refine ste (t := 57) (p := 21) (v := ?vo_w13) (w1 := (((w11.setCell ⟨go10, (x4_1 : Int).toNat * 3, none⟩ (.int .i64 t178)).setCell ⟨go10, (x4_1 : Int).toNat * 3 + 1, none⟩ (.int .i64 t179)).setCell ⟨go10, (x4_1 : Int).toNat * 3 + 2, none⟩ (.string t180))) ?hg ?ho ?hn ?hr ?_; (case ho => rfl); (case hg => rfl); (case hn => rfl); (case hr => first | (go_simp; done) | (go_simp; rfl)); intro w13 hw; have hg : w11.grownBy w13 (some go10) := (by rw [hw]; exact HP12.2); have hp_ : Kd.R k57 57 w13 w.heap.size (fun _ => True) (.slice (some ⟨go10, 0, none⟩) x3_1.length co10) y181 := (by rw [hw, Ny181.out]; exact HP12.1); clear HP12; replace HO_3 := qK (hp_); replace HB := qK ((by rw [hw]; exact bse (bse (bse (HB.out) GB10.out) GB10.out) GB10.out : Below w.heap.size w w13)); clear hg hw hp_)); go_roundg k1
                case measure => have := HK1.out; omega
                case rel => exact ⟨(y181), (wrap64 (x4_1 + 1)), qS, H', ⟨by have := HK1.out; omega⟩, ⟨by (with_reducible repeat (first | apply Kd.Ral | apply Kd.RdN | apply Kd.Rdr)); exact HO_3.out⟩, ⟨qB⟩⟩
              · rw [if_neg c9] at H; exact absurd H (by simp)
            · rw [if_neg c7] at H; exact absurd H (by simp)
          · rw [if_neg c6] at H; have c6b0 : decide (x4_1 < (l0.length : Int)) = false := decide_eq_false c6; clear c6; obtain rfl := Option.some.inj H; go_wp2; go_ret; exact ⟨_, qR, by (with_reducible repeat (first | apply Kd.Ral | apply Kd.RdN | apply Kd.Rdr)); exact HO_3.out, qB⟩
    · rw [if_neg c3] at H; exact absurd H (by simp)
  · rw [if_neg c2] at H; exact absurd H (by simp)
def laws_toValueSS.l0 : Nat → List (List (S87)) → List (List (S57)) → Int → Option ((List (List (S57))))
  | 0, _, _, _ => none
  | k + 1, x0, x3, x4 => if x4 < (x0.length : Int) then (if 0 ≤ x4 then ((laws_toValueS.f k (rd_L4 x0 x4)).bind fun t186 => (if x4 < (x3.length : Int) then (laws_toValueSS.l0 k x0 (x3.set (x4 : Int).toNat t186) (wrap64 (x4 + 1))) else (none))) else (none)) else (some x3)
def laws_toValueSS.f (k : Nat) (l0 : List (List (S87))) : Option ((List (List (S57)))) := if 0 ≤ (l0.length : Int) then (if ((l0.length : Int) : Int).toNat ≤ 11728124029610 then (laws_toValueSS.l0 k l0 (List.replicate ((l0.length : Int) : Int).toNat []) 0) else (none)) else (none)
theorem laws_toValueSS.mono_l : ∀ k, (∀ y0 y1 y2, LeO (laws_toValueSS.l0 k y0 y1 y2) (laws_toValueSS.l0 (k + 1) y0 y1 y2))
  | 0 => fun _ _ _ r h => by simp [laws_toValueSS.l0] at h
  | k + 1 => by
    have ih0 := laws_toValueSS.mono_l k
    · intro y0 y1 y2
      unfold laws_toValueSS.l0
      repeat' first
      | (with_reducible exact ih0 _ _ _)
      | (with_reducible exact laws_toValueS.mono _ _)
      | (with_reducible exact LeO.refl _)
      | (with_reducible exact LeO.none _)
      | (with_reducible refine LeO.ite ?_ ?_)
      | (with_reducible refine LeO.bind ?_ (fun _ => ?_))
      | exact ih0 _ _ _
      | exact laws_toValueS.mono _ _
      | exact LeO.none _
      | refine LeO.ite ?_ ?_
      | refine LeO.bind ?_ (fun _ => ?_)
theorem laws_toValueSS.mono : ∀ a0 k, LeO (laws_toValueSS.f k a0) (laws_toValueSS.f (k + 1) a0) := by
  intro a0 k
  have ih0 := laws_toValueSS.mono_l k
  unfold laws_toValueSS.f
  repeat' first
      | (with_reducible exact ih0 _ _ _)
      | (with_reducible exact laws_toValueS.mono _ _)
      | (with_reducible exact LeO.refl _)
      | (with_reducible exact LeO.none _)
      | (with_reducible refine LeO.ite ?_ ?_)
      | (with_reducible refine LeO.bind ?_ (fun _ => ?_))
      | exact ih0 _ _ _
      | exact laws_toValueS.mono _ _
      | exact LeO.none _
      | refine LeO.ite ?_ ?_
      | refine LeO.bind ?_ (fun _ => ?_)
set_option maxHeartbeats 8000000 in
set_option maxRecDepth 100000 in
theorem laws_toValueSS.calls (k : Nat) (A0 : Option Addr) (c0 : Nat) (l0 : List (List (S87))) (r : List (List (S57))) (w : World) (hr0 : Kd.C (Kd.slice 87 k87) w A0 l0.length l0) (hc0 : l0.length ≤ c0) (h : laws_toValueSS.f k l0 = some r) :
    Calls Tryd.prog 36 #[.slice A0 l0.length c0] w fun e w' => ∃ v0_ : Value, e = .returned (v0_) ∧ Kd.S (Kd.slice 57 k57) 55 w' w.heap.size (fun _ => True) v0_ r ∧ Below w.heap.size w w' := by
  have HR0 := qK hr0; have HC0 := qK hc0; clear hr0 hc0; have HB := qK (Below.refl w.heap.size w); have H : (if 0 ≤ (l0.length : Int) then (if ((l0.length : Int) : Int).toNat ≤ 11728124029610 then (laws_toValueSS.l0 k l0 (List.replicate ((l0.length : Int) : Int).toNat []) 0) else (none)) else (none)) = some r := h; clear h; by_cases c2 : 0 ≤ (l0.length : Int)
  · rw [if_pos c2] at H; have c2b0 := eq_true c2; have c2b1 : decide (0 ≤ (l0.length : Int)) = true := decide_eq_true c2; clear c2; by_cases c3 : ((l0.length : Int) : Int).toNat ≤ 11728124029610
    · rw [if_pos c3] at H; have c3b0 := eq_true c3; have c3b1 : decide (((l0.length : Int) : Int).toNat ≤ 11728124029610) = true := decide_eq_true c3; clear c3; obtain ⟨y182, hy182⟩ : ∃ y_ : List (List (S57)), y_ = (List.replicate ((l0.length : Int) : Int).toNat []) := ⟨_, rfl⟩; (replace H : (laws_toValueSS.l0 k l0 y182 0) = some r := by first | (rw [hy182]; with_reducible exact H) | (have H2_ := (Option.bind_some _ _).symm.trans H; rw [hy182]; with_reducible exact H2_) | (have H2_ := (Option.bind_some _ _).symm.trans H; with_reducible exact H2_) | with_reducible exact H | (rw [hy182]; exact H) | exact H); have Ny182 := qK hy182; clear hy182; have H' := qK H; clear H; go_enter Tryd.func36, Tryd.ntmps36; go_wp2_with (first | ((with_reducible refine gds (N := 7) rfl ?_); refine Kd.S_make (Kd.slice 57 k57) _ 55 rfl (N := 7) rfl 35 _ _ rfl (l0.length : Int) rfl rfl Tryd.underlying35 (.slice none 0 0) 24 info55 rfl (by decide) (by omega) [] (ok := fun _ => True) (okp := fun _ => True) ⟨_, rfl, Kd.R_nil _ _ _ _ _⟩ (fun _ hk => hk) trivial (of_decide_eq_true qa) (Nat.le_trans (Nat.mul_le_mul_right _ (of_decide_eq_true qa : (l0.length : Int).toNat ≤ 11728124029610)) (by omega)) (Below.refl _ _) (Nat.le_refl _) ?_; intro v183 w4 ho5 hb hg_ hnew_; clear hg_ hnew_; (first | rw [← Ny182.out] at ho5 | (simp only [Int.reduceToNat] at ho5; rw [← Ny182.out] at ho5)); have HO184 := qK (Kd.S_lower ho5 (bsz qB)); replace HB := qHB HB hb; clear hb ho5)); go_loopg [4] k (fun kq v4 w' => ∃ (x3_1 : List (List (S57))) (x4_1 : Int), v4 = .int .i64 x4_1 ∧ Aside0 (laws_toValueSS.l0 kq l0 x3_1 x4_1 = some r) ∧ Aside0 (kq ≤ k) ∧ Aside0 (Kd.S (Kd.slice 57 k57) 55 w' w.heap.size (fun _ => True) v183 x3_1) ∧ Aside0 (Below w.heap.size w w'))
      case atStart => exact ⟨(y182), (0), qS, H', ⟨Nat.le_refl _⟩, ⟨by (with_reducible repeat (first | apply Kd.Sal | apply Kd.SdN | apply Kd.Sdr)); exact HO184.out⟩, ⟨qB⟩⟩
      case round =>
        clear H'; (try clear c2); (try clear c2b0); (try clear c2b1); (try clear p2); (try clear c3); (try clear c3b0); (try clear c3b1); obtain ⟨x3_1, x4_1, rfl, HA, HK1, HO_3, HB⟩ := hrel
        cases gk with
        | zero => exact absurd HA.out (by simp [laws_toValueSS.l0])
        | succ k1 =>
          have H := HA.out; clear HA; simp only [laws_toValueSS.l0] at H; by_cases c6 : x4_1 < (l0.length : Int)
          · rw [if_pos c6] at H; have c6b0 : decide (x4_1 < (l0.length : Int)) = true := decide_eq_true c6; clear c6; by_cases c7 : 0 ≤ x4_1
            · rw [if_pos c7] at H; have c7b0 : decide (0 ≤ x4_1) = true := decide_eq_true c7; clear c7; replace H := Option.bind_eq_some_iff.mp H; obtain ⟨t186, A80, H⟩ := H; have A8 := qK A80; clear A80; by_cases c9 : x4_1 < (x3_1.length : Int)
              · rw [if_pos c9] at H; have c9b0 : decide (x4_1 < (x3_1.length : Int)) = true := decide_eq_true c9; clear c9; obtain ⟨y189, hy189⟩ : ∃ y_ : List (List (S57)), y_ = (x3_1.set (x4_1 : Int).toNat t186) := ⟨_, rfl⟩; (replace H : (laws_toValueSS.l0 k1 l0 y189 (wrap64 (x4_1 + 1))) = some r := by first | (rw [hy189]; with_reducible exact H) | (have H2_ := (Option.bind_some _ _).symm.trans H; rw [hy189]; with_reducible exact H2_) | (have H2_ := (Option.bind_some _ _).symm.trans H; with_reducible exact H2_) | with_reducible exact H | (rw [hy189]; exact H) | exact H); have Ny189 := qK hy189; clear hy189; have H' := qK H; clear H; have p185 : 0 ≤ (x4_1 : Int) := of_decide_eq_true qa; have q185 : x4_1 < (l0.length : Int) := of_decide_eq_true qa; obtain ⟨ad185, A185_0, c185_0, e185, hx185_0, hl185_0, hi185_0⟩ := at_L4 HR0.out x4_1 p185 q185; cases e185; replace hx185_0 := (HB.out.cell (World.block_lt_of_cell? w _ hx185_0)).trans hx185_0; have HR185_0 := qK hi185_0; have HC185_0 := qK hl185_0; clear hi185_0 hl185_0; replace p185 := eq_true p185; replace q185 := eq_true q185; go_wp2_with (first | ((with_reducible refine gcl (f := 47) rfl ?_); refine goesL_ (some 20) rfl rfl Tryd.func47 (by kernel_rfl) rfl #[.slice A185_0 (rd_L4 l0 x4_1).length c185_0] rfl qA ?_; (with_reducible refine (laws_toValueS.calls k1 _ _ (rd_L4 l0 x4_1) t186 _ ?side1 ?side2 A8.out).mono ?_); (case side1 => exact qC HR185_0); (case side2 => exact HC185_0.out); rintro e w11 ⟨v187, rfl, ho0, hb⟩; refine ⟨_, rfl, ?_⟩; replace HO_3 := qK (Kd.S_elder' (by (with_reducible repeat (first | apply Kd.Sal | apply Kd.SdN | apply Kd.Sdr)); exact HO_3.out) (Kd.R_base ho0) hb); have HO188 := qK (Kd.Rlo ho0 (bsz qB)); replace HB := qHB HB hb; (try clear hb); (try clear hb2); (try clear hk); (try clear hi); (try clear ho0); have p10 : 0 ≤ (x4_1 : Int) := of_decide_eq_true qa; have q10 : (x4_1 : Int) < ((x3_1.length : Int) : Int) := of_decide_eq_true qa; obtain ⟨go10, co10, eo10, gb10, gl10, cl10, HG10⟩ := Kd.S_form HO_3.out (by omega); (first | cases eo10 | (injection eo10 with ea_ en_ ec_; (first | subst ea_ | (injection ea_ with ea_; subst ea_)); subst ec_; clear en_)); have GB10 := qK gb10; have GG10 := qK HG10; clear gb10 gl10 HG10; obtain ⟨_, ce10, hcl10, hM10, hcc10, hfr10, _, _⟩ := Kd.S_elem HO_3.out [] (x4_1 : Int) p10 q10; obtain ⟨ve10_0, rfl, ge10_0⟩ := hM10; have hx10_0 := hcc10 0 _ rfl; have hf10_0 := hfr10 0; (try simp only [show ((Kd.slice 57 k57)).sz = 1 from rfl, Nat.mul_one, Nat.add_zero] at hx10_0); (try simp only [show ((Kd.slice 57 k57)).sz = 1 from rfl, Nat.mul_one, Nat.add_zero] at hf10_0); clear hcl10 hcc10 hfr10; (try clear hM10); replace p10 := eq_true p10; replace q10 := eq_true q10; have n_ := qK (Kd.Smo (ok' := (fun k_ => some k_ ≠ (v187 : Value).ownBlock)) HO_3.out (fun k_ hk => hk.2)); clear HO_3; have HO_3 := n_; clear n_; have HX12 := qK (show Kd.S (Kd.slice 57 k57) 55 w11 w.heap.size (fun k_ => ((fun _ => True)) k_ ∧ ¬ ((fun k_ => some k_ = (v187 : Value).ownBlock)) k_) (.slice (some ⟨go10, 0, none⟩) x3_1.length co10) x3_1 from (by (with_reducible repeat (first | apply Kd.Sal | apply Kd.SdN | apply Kd.Sdr)); exact Kd.Smo HO_3.out (fun k_ hk => ⟨trivial, fun e_ => hk e_⟩))); obtain ⟨oki12, ce12, hcl12, hM12, hcc12, hfr12, hoki12, hH12⟩ := Kd.S_elem HX12.out [] (x4_1 : Int) (of_decide_eq_true qa) (by have h_ : (x4_1 : Int) < ((x3_1.length : Int) : Int) := of_decide_eq_true qa; first | exact h_ | (have e_ := (Kd.S_reads' HO_3.out).1; omega) | simpa using h_); obtain ⟨ve12_0, rfl, ge12_0⟩ := hM12; have HP12 := Kd.S_seg hH12 (of_decide_eq_true qa) (by have h_ : (x4_1 : Int) < ((x3_1.length : Int) : Int) := of_decide_eq_true qa; first | exact h_ | (have e_ := (Kd.S_reads' HO_3.out).1; omega) | simpa using h_) (seg := [v187]) (j := 0) (show 1 ≤ 1 from by decide) (x' := t186) (Kd.M_row (Kd.Rmo (Kd.R_tight rfl (Kd.Rmo (ok' := fun k_ => ((fun _ => True)) k_ ∧ k_ ≠ go10) (Kd.R_apart' (HO188.out) (Kd.S_typed HO_3.out) (by decide)) (fun k_ hk => ⟨trivial, fun e_ => (hk.2) (by rw [e_]; rfl)⟩))) (fun _ h_ => Or.inr (h_)))) (fun _ hk => hk) (fun k_ hk_ => ((Kd.Rmo (ok' := fun k_ => ((fun _ => True)) k_ ∧ k_ ≠ go10) (Kd.R_apart' (HO188.out) (Kd.S_typed HO_3.out) (by decide)) (fun k_ hk => ⟨trivial, fun e_ => (hk.2) (by rw [e_]; rfl)⟩))).1 k_ hk_.symm); have hx12_0 := hcc12 0 _ rfl; (try simp only [show ((Kd.slice 57 k57)).sz = 1 from rfl, Nat.mul_one, Nat.add_zero] at hx12_0); have hf12_0 := hfr12 0; (try simp only [show ((Kd.slice 57 k57)).sz = 1 from rfl, Nat.mul_one, Nat.add_zero] at hf12_0); clear hcl12 hcc12 hfr12; (try clear hM12); (try clear hoki12 hH12); (try simp only [show ((Kd.slice 57 k57)).sz = 1 from rfl, Nat.mul_one, Nat.add_zero] at HP12)) | ((with_reducible refine gst (t := 55) (p := 21) rfl ?_); refine ste (t := 55) (p := 21) (v := ?vo_w13) (w1 := (w11.setCell ⟨go10, (x4_1 : Int).toNat, none⟩ (v187))) ?hg ?ho ?hn ?hr ?_; (case ho => rfl); (case hg => rfl); (case hn => rfl); (case hr => (try (obtain ⟨Av_, cv_, ev_⟩ := Kd.R_slice HO188.out; subst ev_)); (try (obtain ⟨Av_, cv_, ev_⟩ := Kd.R_slice (Kd.S_R HO188.out); subst ev_)); first | (go_simp; done) | (go_simp; rfl)); intro w13 hw; have hg : w11.grownBy w13 (some go10) := (by rw [hw]; exact HP12.2); have hp_ : Kd.S (Kd.slice 57 k57) 55 w13 w.heap.size (fun _ => True) (.slice (some ⟨go10, 0, none⟩) x3_1.length co10) y189 := (by rw [hw, Ny189.out]; exact HP12.1); clear HP12; replace HO_3 := qK (hp_); replace HB := qK ((by rw [hw]; exact bse (HB.out) GB10.out : Below w.heap.size w w13)); clear HO188; clear hg hw hp_)); go_roundg k1
                case measure => have := HK1.out; omega
                case rel => exact ⟨(y189), (wrap64 (x4_1 + 1)), qS, H', ⟨by have := HK1.out; omega⟩, ⟨by (with_reducible repeat (first | apply Kd.Sal | apply Kd.SdN | apply Kd.Sdr)); exact HO_3.out⟩, ⟨qB⟩⟩
              · rw [if_neg c9] at H; exact absurd H (by simp)
            · rw [if_neg c7] at H; exact absurd H (by simp)
          · rw [if_neg c6] at H; have c6b0 : decide (x4_1 < (l0.length : Int)) = false := decide_eq_false c6; clear c6; obtain rfl := Option.some.inj H; go_wp2; go_ret; exact ⟨_, qR, by (with_reducible repeat (first | apply Kd.Sal | apply Kd.SdN | apply Kd.Sdr)); exact HO_3.out, qB⟩
    · rw [if_neg c3] at H; exact absurd H (by simp)
  · rw [if_neg c2] at H; exact absurd H (by simp)
def laws_toTableData.f (k : Nat) (a0_0 : ByteArray) (l0_1 : List (S79)) (l0_2 : List (List (S87))) : Option (ByteArray × (List (S52)) × (List (List (S57)))) := (laws_toColumnS.f k l0_1).bind fun t193 => ((laws_toValueSS.f k l0_2).bind fun t196 => (some (a0_0, t193, t196)))
theorem laws_toTableData.mono : ∀ a0 a1 a2 k, LeO (laws_toTableData.f k a0 a1 a2) (laws_toTableData.f (k + 1) a0 a1 a2) := by
  intro a0 a1 a2 k
  unfold laws_toTableData.f
  repeat' first
      | (with_reducible exact laws_toColumnS.mono _ _)
      | (with_reducible exact laws_toValueSS.mono _ _)
      | (with_reducible exact LeO.refl _)
      | (with_reducible exact LeO.none _)
      | (with_reducible refine LeO.ite ?_ ?_)
      | (with_reducible refine LeO.bind ?_ (fun _ => ?_))
      | exact laws_toColumnS.mono _ _
      | exact laws_toValueSS.mono _ _
      | exact LeO.none _
      | refine LeO.ite ?_ ?_
      | refine LeO.bind ?_ (fun _ => ?_)
set_option maxHeartbeats 8000000 in
set_option maxRecDepth 100000 in
theorem laws_toTableData.calls (k : Nat) (a0_0 : ByteArray) (A0_1 : Option Addr) (c0_1 : Nat) (l0_1 : List (S79)) (A0_2 : Option Addr) (c0_2 : Nat) (l0_2 : List (List (S87))) (r1 : ByteArray) (r2 : List (S52)) (r3 : List (List (S57))) (w : World) (hr0_1 : Kd.C k79 w A0_1 l0_1.length l0_1) (hc0_1 : l0_1.length ≤ c0_1) (hr0_2 : Kd.C (Kd.slice 87 k87) w A0_2 l0_2.length l0_2) (hc0_2 : l0_2.length ≤ c0_2) (h : laws_toTableData.f k a0_0 l0_1 l0_2 = some (r1, r2, r3)) :
    Calls Tryd.prog 22 #[.agg #[.string a0_0, .slice A0_1 l0_1.length c0_1, .slice A0_2 l0_2.length c0_2]] w fun e w' => ∃ v1_ v2_ : Value, e = .returned (.agg #[.string r1, v1_, v2_]) ∧ Kd.R k52 52 w' w.heap.size (fun _ => True) v1_ r2 ∧ Kd.S (Kd.slice 57 k57) 55 w' w.heap.size (fun _ => True) v2_ r3 ∧ Below w.heap.size w w' := by
  have hu48 := Tryd.underlying48; have hu37 := Tryd.underlying37; have HR0_1 := qK hr0_1; have HC0_1 := qK hc0_1; clear hr0_1 hc0_1; have HR0_2 := qK hr0_2; have HC0_2 := qK hc0_2; clear hr0_2 hc0_2; have HB := qK (Below.refl w.heap.size w); have H : ((laws_toColumnS.f k l0_1).bind fun t193 => ((laws_toValueSS.f k l0_2).bind fun t196 => (some (a0_0, t193, t196)))) = some (r1, r2, r3) := h; clear h; replace H := Option.bind_eq_some_iff.mp H; obtain ⟨t193, A20, H⟩ := H; have A2 := qK A20; clear A20; replace H := Option.bind_eq_some_iff.mp H; obtain ⟨t196, A30, H⟩ := H; have A3 := qK A30; clear A30; simp only [Option.some.injEq, Prod.mk.injEq] at H; obtain ⟨rfl, rfl, rfl⟩ := H; go_enter Tryd.func22, Tryd.ntmps22; go_wp2_with (first | ((with_reducible refine gds (N := 1) rfl ?_); refine qbx 1 #[.string a0_0, .slice A0_1 l0_1.length c0_1, .slice A0_2 l0_2.length c0_2] 48 ?_; intro gb190 hg w4 hbox hb; have BK190 := qK (hbox); have GW190 := qK ((qW : w.heap.size ≤ gb190)); have GE190 := GW190; replace HB := qHB HB hb; clear hb hbox hg) | ((with_reducible refine gds (N := 2) rfl ?_); refine qbx 2 #[.string (⟨#[]⟩ : ByteArray), .slice none 0 0, .slice none 0 0] 37 ?_; intro gb191 hg w5 hbox hb; have BK191 := qK (hbox); have GW191 := qK ((qW : w.heap.size ≤ gb191)); have GE191 := GW191; replace HB := qHB HB hb; have NB190_191 := qK (qlt BK190 hg); have NB191_190 := qK (qgt BK190 hg); replace BK190 := qbb BK190 hb; clear hb hbox hg) | ((with_reducible refine gds (N := 3) rfl ?_); refine qbx 3 #[.string (⟨#[]⟩ : ByteArray), .slice none 0 0, .slice none 0 0] 37 ?_; intro gb192 hg w6 hbox hb; have BK192 := qK (hbox); have GW192 := qK ((qW : w.heap.size ≤ gb192)); have GE192 := GW192; replace HB := qHB HB hb; have NB190_192 := qK (qlt BK190 hg); have NB192_190 := qK (qgt BK190 hg); replace BK190 := qbb BK190 hb; have NB191_192 := qK (qlt BK191 hg); have NB192_191 := qK (qgt BK191 hg); replace BK191 := qbb BK191 hb; clear hb hbox hg; have hnb7 := NB190_191.out; have hnc7 := NB191_190.out; have hnb8 := NB190_192.out; have hnc8 := NB192_190.out; have hz9 := qz3 BK190.out; have hnb10 := NB192_191.out; have hnc10 := NB191_192.out; have hz11 := qz3 BK192.out) | ((with_reducible refine gcl (f := 35) rfl ?_); refine goesL_ (some 9) rfl rfl Tryd.func35 (by kernel_rfl) rfl #[.slice A0_1 l0_1.length c0_1] rfl qA ?_; (with_reducible refine (laws_toColumnS.calls k _ _ l0_1 t193 _ ?side1 ?side2 A2.out).mono ?_); (case side1 => exact Kd.Cbe HR0_1.out qB); (case side2 => exact HC0_1.out); rintro e w12 ⟨v194, rfl, ho0, hb⟩; refine ⟨_, rfl, ?_⟩; have HO195 := qK (Kd.Rlo ho0 (bsz qB)); replace BK190 := qK (bbe (g := gb190) (o := .cells #[.string a0_0, .slice A0_1 l0_1.length c0_1, .slice A0_2 l0_2.length c0_2] 48 (0, 0)) (by (with_reducible repeat (first | refine bdN ?_ _ | refine bkD ?_ | refine bkA ?_ _)); refine bfa ?_ NB190_192.out _; (with_reducible repeat (first | refine bdN ?_ _ | refine bkD ?_ | refine bkA ?_ _)); exact BK190.out) hb); replace BK191 := qK (bbe (g := gb191) (o := .cells #[.string (⟨#[]⟩ : ByteArray), .slice none 0 0, .slice none 0 0] 37 (0, 0)) (by (with_reducible repeat (first | refine bdN ?_ _ | refine bkD ?_ | refine bkA ?_ _)); refine bfa ?_ NB191_192.out _; (with_reducible repeat (first | refine bdN ?_ _ | refine bkD ?_ | refine bkA ?_ _)); exact BK191.out) hb); replace BK192 := qK (bbe (g := gb192) (o := .cells #[.string a0_0, .slice none 0 0, .slice none 0 0] 37 (0, 0)) (by (with_reducible repeat (first | refine bdN ?_ _ | refine bkD ?_ | refine bkA ?_ _)); refine bpu (cs := #[.string (⟨#[]⟩ : ByteArray), .slice none 0 0, .slice none 0 0]) ?_ 0 _ rfl; (with_reducible repeat (first | refine bdN ?_ _ | refine bkD ?_ | refine bkA ?_ _)); exact BK192.out) hb); replace HB := qHB HB hb; (try clear hb); (try clear hb2); (try clear hk); (try clear hi); (try clear ho0); obtain ⟨Ao13, co13, eo13⟩ := Kd.R_slice HO195.out; subst eo13; have hz14 := qz3 BK192.out; have hz15 := qz3 BK190.out) | ((with_reducible refine gcl (f := 36) rfl ?_); refine goesL_ (some 13) rfl rfl Tryd.func36 (by kernel_rfl) rfl #[.slice A0_2 l0_2.length c0_2] rfl qA ?_; (with_reducible refine (laws_toValueSS.calls k _ _ l0_2 t196 _ ?side1 ?side2 A3.out).mono ?_); (case side1 => exact Kd.Cbe HR0_2.out qB); (case side2 => exact HC0_2.out); rintro e w16 ⟨v197, rfl, ho0, hb⟩; refine ⟨_, rfl, ?_⟩; replace HO195 := qK (Kd.Rbe (by (with_reducible repeat (first | apply Kd.Ral | apply Kd.RdN | apply Kd.Rdr)); exact (Kd.Rmo (Kd.Rfa (p := ⟨gb192, 1, none⟩) (Kd.Rty HO195.out BK192.out (by decide)) (fun _ hk => hk.2) (.slice Ao13 t193.length co13)) (fun _ h_ => h_.1))) hb); have HO198 := qK (Kd.S_lower ho0 (bsz qB)); replace BK190 := qK (bbe (g := gb190) (o := .cells #[.string a0_0, .slice A0_1 l0_1.length c0_1, .slice A0_2 l0_2.length c0_2] 48 (0, 0)) (by (with_reducible repeat (first | refine bdN ?_ _ | refine bkD ?_ | refine bkA ?_ _)); refine bfa ?_ NB190_192.out _; (with_reducible repeat (first | refine bdN ?_ _ | refine bkD ?_ | refine bkA ?_ _)); exact BK190.out) hb); replace BK191 := qK (bbe (g := gb191) (o := .cells #[.string (⟨#[]⟩ : ByteArray), .slice none 0 0, .slice none 0 0] 37 (0, 0)) (by (with_reducible repeat (first | refine bdN ?_ _ | refine bkD ?_ | refine bkA ?_ _)); refine bfa ?_ NB191_192.out _; (with_reducible repeat (first | refine bdN ?_ _ | refine bkD ?_ | refine bkA ?_ _)); exact BK191.out) hb); replace BK192 := qK (bbe (g := gb192) (o := .cells #[.string a0_0, .slice Ao13 t193.length co13, .slice none 0 0] 37 (0, 0)) (by (with_reducible repeat (first | refine bdN ?_ _ | refine bkD ?_ | refine bkA ?_ _)); refine bpu (cs := #[.string a0_0, .slice none 0 0, .slice none 0 0]) ?_ 1 _ rfl; (with_reducible repeat (first | refine bdN ?_ _ | refine bkD ?_ | refine bkA ?_ _)); exact BK192.out) hb); replace HB := qHB HB hb; (try clear hb); (try clear hb2); (try clear hk); (try clear hi); (try clear ho0); obtain ⟨Ao17, co17, eo17⟩ := Kd.S_slice HO198.out; subst eo17; have hz18 := qz3 BK192.out; have hz19 := qz3 BK191.out)); refine bodyPost_ret (results_cell_row rfl _ _ gb191 37 #[.string a0_0, .slice Ao13 t193.length co13, .slice Ao17 t196.length co17] (0, 0) _ rfl (by (with_reducible repeat (first | refine bdN ?_ _ | refine bkD ?_ | refine bkA ?_ _)); refine bpu (cs := #[.string a0_0, .slice Ao13 t193.length co13, .slice none 0 0]) ?_ 2 _ rfl; (with_reducible repeat (first | refine bdN ?_ _ | refine bkD ?_ | refine bkA ?_ _)); refine bpu (cs := #[.string a0_0, .slice none 0 0, .slice none 0 0]) ?_ 1 _ rfl; (with_reducible repeat (first | refine bdN ?_ _ | refine bkD ?_ | refine bkA ?_ _)); refine bpu (cs := #[.string (⟨#[]⟩ : ByteArray), .slice none 0 0, .slice none 0 0]) ?_ 0 _ rfl; (with_reducible repeat (first | refine bdN ?_ _ | refine bkD ?_ | refine bkA ?_ _)); refine bfa ?_ NB191_192.out _; (with_reducible repeat (first | refine bdN ?_ _ | refine bkD ?_ | refine bkA ?_ _)); exact BK191.out) Tryd.underlying37 rfl (by kernel_rfl)) rfl ?_; exact ⟨_, _, qR, by (with_reducible repeat (first | apply Kd.Ral | apply Kd.RdN | apply Kd.Rdr)); exact Kd.Rmo (Kd.Rfa (p := ⟨gb191, 2, none⟩) (Kd.Rfa (p := ⟨gb191, 1, none⟩) (Kd.Rfa (p := ⟨gb191, 0, none⟩) (Kd.Rfa (p := ⟨gb192, 2, none⟩) (Kd.Rty (Kd.Rty HO195.out BK192.out (by decide)) BK191.out (by decide)) (fun _ hk => hk.1.2) (.slice Ao17 t196.length co17)) (fun _ hk => hk.2) (.string a0_0)) (fun _ hk => hk.2) (.slice Ao13 t193.length co13)) (fun _ hk => hk.2) (.slice Ao17 t196.length co17)) (fun _ hk => trivial), by (with_reducible repeat (first | apply Kd.Sal | apply Kd.SdN | apply Kd.Sdr)); exact Kd.Smo (Kd.Sfa (p := ⟨gb191, 2, none⟩) (Kd.Sfa (p := ⟨gb191, 1, none⟩) (Kd.Sfa (p := ⟨gb191, 0, none⟩) (Kd.Sfa (p := ⟨gb192, 2, none⟩) (Kd.Sty (Kd.Sty HO198.out BK192.out (by decide)) BK191.out (by decide)) (fun _ hk => hk.1.2) (.slice Ao17 t196.length co17)) (fun _ hk => hk.2) (.string a0_0)) (fun _ hk => hk.2) (.slice Ao13 t193.length co13)) (fun _ hk => hk.2) (.slice Ao17 t196.length co17)) (fun _ hk => trivial), qB⟩
def laws_toTableDataS.l0 : Nat → List (S48) → List (S37) → Int → Option ((List (S37)))
  | 0, _, _, _ => none
  | k + 1, x0, x3, x4 => if x4 < (x0.length : Int) then (if 0 ≤ x4 then ((laws_toTableData.f k ((rd_T48 x0 x4).f0) ((rd_T48 x0 x4).f1) ((rd_T48 x0 x4).f2)).bind fun bt203 => (if x4 < (x3.length : Int) then (laws_toTableDataS.l0 k x0 (x3.set (x4 : Int).toNat (⟨bt203.1, bt203.2.1, bt203.2.2⟩ : S37)) (wrap64 (x4 + 1))) else (none))) else (none)) else (some x3)
def laws_toTableDataS.f (k : Nat) (l0 : List (S48)) : Option ((List (S37))) := if 0 ≤ (l0.length : Int) then (if ((l0.length : Int) : Int).toNat ≤ 4398046511104 then (laws_toTableDataS.l0 k l0 (List.replicate ((l0.length : Int) : Int).toNat z37) 0) else (none)) else (none)
theorem laws_toTableDataS.mono_l : ∀ k, (∀ y0 y1 y2, LeO (laws_toTableDataS.l0 k y0 y1 y2) (laws_toTableDataS.l0 (k + 1) y0 y1 y2))
  | 0 => fun _ _ _ r h => by simp [laws_toTableDataS.l0] at h
  | k + 1 => by
    have ih0 := laws_toTableDataS.mono_l k
    · intro y0 y1 y2
      unfold laws_toTableDataS.l0
      repeat' first
      | (with_reducible exact ih0 _ _ _)
      | (with_reducible exact laws_toTableData.mono _ _ _ _)
      | (with_reducible exact LeO.refl _)
      | (with_reducible exact LeO.none _)
      | (with_reducible refine LeO.ite ?_ ?_)
      | (with_reducible refine LeO.bind ?_ (fun _ => ?_))
      | exact ih0 _ _ _
      | exact laws_toTableData.mono _ _ _ _
      | exact LeO.none _
      | refine LeO.ite ?_ ?_
      | refine LeO.bind ?_ (fun _ => ?_)
theorem laws_toTableDataS.mono : ∀ a0 k, LeO (laws_toTableDataS.f k a0) (laws_toTableDataS.f (k + 1) a0) := by
  intro a0 k
  have ih0 := laws_toTableDataS.mono_l k
  unfold laws_toTableDataS.f
  repeat' first
      | (with_reducible exact ih0 _ _ _)
      | (with_reducible exact laws_toTableData.mono _ _ _ _)
      | (with_reducible exact LeO.refl _)
      | (with_reducible exact LeO.none _)
      | (with_reducible refine LeO.ite ?_ ?_)
      | (with_reducible refine LeO.bind ?_ (fun _ => ?_))
      | exact ih0 _ _ _
      | exact laws_toTableData.mono _ _ _ _
      | exact LeO.none _
      | refine LeO.ite ?_ ?_
      | refine LeO.bind ?_ (fun _ => ?_)
set_option maxHeartbeats 8000000 in
set_option maxRecDepth 100000 in
theorem laws_toTableDataS.calls (k : Nat) (A0 : Option Addr) (c0 : Nat) (l0 : List (S48)) (r : List (S37)) (w : World) (hr0 : Kd.C k48 w A0 l0.length l0) (hc0 : l0.length ≤ c0) (h : laws_toTableDataS.f k l0 = some r) :
    Calls Tryd.prog 11 #[.slice A0 l0.length c0] w fun e w' => ∃ v0_ : Value, e = .returned (v0_) ∧ Kd.R k37 37 w' w.heap.size (fun _ => True) v0_ r ∧ Below w.heap.size w w' := by
  have hu48 := Tryd.underlying48; have hu37 := Tryd.underlying37; have HR0 := qK hr0; have HC0 := qK hc0; clear hr0 hc0; have HB := qK (Below.refl w.heap.size w); have H : (if 0 ≤ (l0.length : Int) then (if ((l0.length : Int) : Int).toNat ≤ 4398046511104 then (laws_toTableDataS.l0 k l0 (List.replicate ((l0.length : Int) : Int).toNat z37) 0) else (none)) else (none)) = some r := h; clear h; by_cases c2 : 0 ≤ (l0.length : Int)
  · rw [if_pos c2] at H; have c2b0 := eq_true c2; have c2b1 : decide (0 ≤ (l0.length : Int)) = true := decide_eq_true c2; clear c2; by_cases c3 : ((l0.length : Int) : Int).toNat ≤ 4398046511104
    · rw [if_pos c3] at H; have c3b0 := eq_true c3; have c3b1 : decide (((l0.length : Int) : Int).toNat ≤ 4398046511104) = true := decide_eq_true c3; clear c3; obtain ⟨y199, hy199⟩ : ∃ y_ : List (S37), y_ = (List.replicate ((l0.length : Int) : Int).toNat z37) := ⟨_, rfl⟩; (replace H : (laws_toTableDataS.l0 k l0 y199 0) = some r := by first | (rw [hy199]; with_reducible exact H) | (have H2_ := (Option.bind_some _ _).symm.trans H; rw [hy199]; with_reducible exact H2_) | (have H2_ := (Option.bind_some _ _).symm.trans H; with_reducible exact H2_) | with_reducible exact H | (rw [hy199]; exact H) | exact H); have Ny199 := qK hy199; clear hy199; have H' := qK H; clear H; go_enter Tryd.func11, Tryd.ntmps11; go_wp2_with (first | ((with_reducible refine gds (N := 7) rfl ?_); refine Kd.R_make k37 _ 37 rfl (N := 7) rfl 27 _ _ rfl (l0.length : Int) rfl rfl Tryd.underlying27 (.agg #[(.string ⟨#[]⟩), (.slice none 0 0), (.slice none 0 0)]) 64 info37 rfl (by decide) (by omega) z37 (ok := fun _ => True) (okp := fun _ => True) (k37_mkM _ _ _ z37 (Kd.R_nil _ _ _ _ _) (Kd.R_nil _ _ _ _ _)) (fun _ hk => hk) trivial (of_decide_eq_true qa) (Nat.le_trans (Nat.mul_le_mul_right _ (of_decide_eq_true qa : (l0.length : Int).toNat ≤ 4398046511104)) (by omega)) (Below.refl _ _) (Nat.le_refl _) ?_; intro v200 w4 ho5 hb hg_ hnew_; clear hg_ hnew_; (first | rw [← Ny199.out] at ho5 | (simp only [Int.reduceToNat] at ho5; rw [← Ny199.out] at ho5)); have HO201 := qK (Kd.Rlo ho5 (bsz qB)); replace HB := qHB HB hb; clear hb ho5)); go_loopg [4] k (fun kq v4 w' => ∃ (x3_1 : List (S37)) (x4_1 : Int), v4 = .int .i64 x4_1 ∧ Aside0 (laws_toTableDataS.l0 kq l0 x3_1 x4_1 = some r) ∧ Aside0 (kq ≤ k) ∧ Aside0 (Kd.R k37 37 w' w.heap.size (fun _ => True) v200 x3_1) ∧ Aside0 (Below w.heap.size w w'))
      case atStart => exact ⟨(y199), (0), qS, H', ⟨Nat.le_refl _⟩, ⟨by (with_reducible repeat (first | apply Kd.Ral | apply Kd.RdN | apply Kd.Rdr)); exact HO201.out⟩, ⟨qB⟩⟩
      case round =>
        clear H'; (try clear c1); (try clear c2); (try clear c2b0); (try clear c2b1); (try clear p2); (try clear c3); (try clear c3b0); (try clear c3b1); obtain ⟨x3_1, x4_1, rfl, HA, HK1, HO_3, HB⟩ := hrel
        cases gk with
        | zero => exact absurd HA.out (by simp [laws_toTableDataS.l0])
        | succ k1 =>
          have H := HA.out; clear HA; simp only [laws_toTableDataS.l0] at H; by_cases c6 : x4_1 < (l0.length : Int)
          · rw [if_pos c6] at H; have c6b0 : decide (x4_1 < (l0.length : Int)) = true := decide_eq_true c6; clear c6; by_cases c7 : 0 ≤ x4_1
            · rw [if_pos c7] at H; have c7b0 : decide (0 ≤ x4_1) = true := decide_eq_true c7; clear c7; replace H := Option.bind_eq_some_iff.mp H; obtain ⟨⟨t203, t204, t207⟩, A80, H⟩ := H; have A8 := qK A80; clear A80; by_cases c9 : x4_1 < (x3_1.length : Int)
              · rw [if_pos c9] at H; have c9b0 : decide (x4_1 < (x3_1.length : Int)) = true := decide_eq_true c9; clear c9; obtain ⟨y210, hy210⟩ : ∃ y_ : List (S37), y_ = (x3_1.set (x4_1 : Int).toNat (⟨t203, t204, t207⟩ : S37)) := ⟨_, rfl⟩; (replace H : (laws_toTableDataS.l0 k1 l0 y210 (wrap64 (x4_1 + 1))) = some r := by first | (rw [hy210]; with_reducible exact H) | (have H2_ := (Option.bind_some _ _).symm.trans H; rw [hy210]; with_reducible exact H2_) | (have H2_ := (Option.bind_some _ _).symm.trans H; with_reducible exact H2_) | with_reducible exact H | (rw [hy210]; exact H) | exact H); have Ny210 := qK hy210; clear hy210; have H' := qK H; clear H; have p202 : 0 ≤ (x4_1 : Int) := of_decide_eq_true qa; have q202 : x4_1 < (l0.length : Int) := of_decide_eq_true qa; obtain ⟨ad202, A202_1, c202_1, A202_2, c202_2, e202, hx202_0, hx202_1, hx202_2, hl202_1, hi202_1, hl202_2, hi202_2⟩ := at_T48 HR0.out x4_1 p202 q202; cases e202; replace hx202_0 := (HB.out.cell (World.block_lt_of_cell? w _ hx202_0)).trans hx202_0; replace hx202_1 := (HB.out.cell (World.block_lt_of_cell? w _ hx202_1)).trans hx202_1; replace hx202_2 := (HB.out.cell (World.block_lt_of_cell? w _ hx202_2)).trans hx202_2; have HR202_1 := qK hi202_1; have HC202_1 := qK hl202_1; clear hi202_1 hl202_1; have HR202_2 := qK hi202_2; have HC202_2 := qK hl202_2; clear hi202_2 hl202_2; replace p202 := eq_true p202; replace q202 := eq_true q202; go_wp2_with (first | ((with_reducible refine gcl (f := 22) rfl ?_); refine goesL_ (some 20) rfl rfl Tryd.func22 (by kernel_rfl) rfl #[.agg #[.string ((rd_T48 l0 x4_1).f0), .slice A202_1 ((rd_T48 l0 x4_1).f1).length c202_1, .slice A202_2 ((rd_T48 l0 x4_1).f2).length c202_2]] rfl qA ?_; (with_reducible refine (laws_toTableData.calls k1 ((rd_T48 l0 x4_1).f0) _ _ ((rd_T48 l0 x4_1).f1) _ _ ((rd_T48 l0 x4_1).f2) t203 t204 t207 _ ?side1 ?side2 ?side3 ?side4 A8.out).mono ?_); (case side1 => exact qC HR202_1); (case side2 => exact HC202_1.out); (case side3 => exact qC HR202_2); (case side4 => exact HC202_2.out); rintro e w11 ⟨v205, v208, rfl, ho0, ho1, hb⟩; refine ⟨_, rfl, ?_⟩; replace HO_3 := qK (Kd.Rmo (Kd.R_told (Kd.R_told (Kd.R_old (by (with_reducible repeat (first | apply Kd.Ral | apply Kd.RdN | apply Kd.Rdr)); exact HO_3.out) hb) (Kd.R_base ho0)) (Kd.S_base ho1)) (fun _ h_ => h_.1)); have HO206 := qK (Kd.Rlo ho0 (bsz qB)); have HO209 := qK (Kd.S_lower ho1 (bsz qB)); replace HB := qHB HB hb; (try clear hb); (try clear hb2); (try clear hk); (try clear hi); (try clear ho0); (try clear ho1); have p10 : 0 ≤ (x4_1 : Int) := of_decide_eq_true qa; have q10 : (x4_1 : Int) < ((x3_1.length : Int) : Int) := of_decide_eq_true qa; obtain ⟨go10, co10, eo10, gb10, gl10, cl10, HG10⟩ := Kd.R_form HO_3.out (by omega); (first | cases eo10 | (injection eo10 with ea_ en_ ec_; (first | subst ea_ | (injection ea_ with ea_; subst ea_)); subst ec_; clear en_)); have GB10 := qK gb10; have GG10 := qK HG10; clear gb10 gl10 HG10; obtain ⟨ce10, hcl10, hM10, hcc10, hfr10⟩ := Kd.R_elem HO_3.out z37 (x4_1 : Int) p10 q10; obtain ⟨ve10_1, ve10_2, rfl, ge10_1, ge10_2⟩ := k37_openM hM10; have hx10_0 : w11.cell? ⟨go10, (x4_1 : Int).toNat * 3, none⟩ = some (.string ((rd_T37 x3_1 x4_1).f0)) := hcc10 0 _ rfl; have hx10_1 : w11.cell? ⟨go10, (x4_1 : Int).toNat * 3 + 1, none⟩ = some (ve10_1) := hcc10 1 _ rfl; have hx10_2 : w11.cell? ⟨go10, (x4_1 : Int).toNat * 3 + 2, none⟩ = some (ve10_2) := hcc10 2 _ rfl; have hf10_0 : w11.frozen? ⟨go10, (x4_1 : Int).toNat * 3, none⟩ = false := hfr10 0; have hf10_1 : w11.frozen? ⟨go10, (x4_1 : Int).toNat * 3 + 1, none⟩ = false := hfr10 1; have hf10_2 : w11.frozen? ⟨go10, (x4_1 : Int).toNat * 3 + 2, none⟩ = false := hfr10 2; clear hcl10 hcc10 hfr10; (try clear hM10); replace p10 := eq_true p10; replace q10 := eq_true q10; have n_ := qK (Kd.Rmo (ok' := (fun k_ => some k_ ≠ (v205 : Value).ownBlock ∧ some k_ ≠ (v208 : Value).ownBlock)) HO_3.out (fun k_ hk => ⟨hk.1.2, hk.2⟩)); clear HO_3; have HO_3 := n_; clear n_; have HX12 := qK (show Kd.R k37 37 w11 w.heap.size (fun _ => True) (.slice (some ⟨go10, 0, none⟩) x3_1.length co10) x3_1 from (by (with_reducible repeat (first | apply Kd.Ral | apply Kd.RdN | apply Kd.Rdr)); exact Kd.Rmo HO_3.out (fun _ hk => trivial))); obtain ⟨ce12, hcl12, hM12, hcc12, hfr12⟩ := Kd.R_elem HX12.out z37 (x4_1 : Int) (of_decide_eq_true qa) (by have h_ : (x4_1 : Int) < ((x3_1.length : Int) : Int) := of_decide_eq_true qa; first | exact h_ | (have e_ := (Kd.R_reads' HO_3.out).1; omega) | simpa using h_); obtain ⟨ve12_1, ve12_2, rfl, ge12_1, ge12_2⟩ := k37_openM hM12; have HP12 := Kd.R_seg HX12.out (x4_1 : Int) (of_decide_eq_true qa) (by have h_ : (x4_1 : Int) < ((x3_1.length : Int) : Int) := of_decide_eq_true qa; first | exact h_ | (have e_ := (Kd.R_reads' HO_3.out).1; omega) | simpa using h_) (seg := [.string t203, v205, v208]) (j := 0) hcl12 hcc12 (show 3 ≤ 3 from by decide) (x' := (⟨t203, t204, t207⟩ : S37)) (k37_mkM _ _ _ (⟨t203, t204, t207⟩ : S37) (Kd.Rmo (Kd.R_apart' (HO206.out) (Kd.R_typed HO_3.out) (by decide)) (fun k_ hk => ⟨trivial, fun e_ => (hk.2) (by rw [e_]; rfl)⟩)) (Kd.Rmo (Kd.R_apart' ((Kd.S_R HO209.out)) (Kd.R_typed HO_3.out) (by decide)) (fun k_ hk => ⟨trivial, fun e_ => (hk.2) (by rw [e_]; rfl)⟩))) (fun _ hk => hk); have hx12_0 := hcc12 0 _ rfl; (try simp only [show (k37).sz = 3 from rfl, Nat.mul_one, Nat.add_zero] at hx12_0); have hf12_0 := hfr12 0; (try simp only [show (k37).sz = 3 from rfl, Nat.mul_one, Nat.add_zero] at hf12_0); have hx12_1 := hcc12 1 _ rfl; (try simp only [show (k37).sz = 3 from rfl, Nat.mul_one, Nat.add_zero] at hx12_1); have hf12_1 := hfr12 1; (try simp only [show (k37).sz = 3 from rfl, Nat.mul_one, Nat.add_zero] at hf12_1); have hx12_2 := hcc12 2 _ rfl; (try simp only [show (k37).sz = 3 from rfl, Nat.mul_one, Nat.add_zero] at hx12_2); have hf12_2 := hfr12 2; (try simp only [show (k37).sz = 3 from rfl, Nat.mul_one, Nat.add_zero] at hf12_2); clear hcl12 hcc12 hfr12; (try clear hM12)) | ((with_reducible refine gst (t := 37) (p := 21) rfl ?_); refine ste (t := 37) (p := 21) (v := ?vo_w13) (w1 := (((w11.setCell ⟨go10, (x4_1 : Int).toNat * 3, none⟩ (.string t203)).setCell ⟨go10, (x4_1 : Int).toNat * 3 + 1, none⟩ (v205)).setCell ⟨go10, (x4_1 : Int).toNat * 3 + 2, none⟩ (v208))) ?hg ?ho ?hn ?hr ?_; (case ho => rfl); (case hg => rfl); (case hn => rfl); (case hr => (try (obtain ⟨Av_, cv_, ev_⟩ := Kd.R_slice HO206.out; subst ev_)); (try (obtain ⟨Av_, cv_, ev_⟩ := Kd.R_slice (Kd.S_R HO206.out); subst ev_)); (try (obtain ⟨Av_, cv_, ev_⟩ := Kd.R_slice HO209.out; subst ev_)); (try (obtain ⟨Av_, cv_, ev_⟩ := Kd.R_slice (Kd.S_R HO209.out); subst ev_)); first | (go_simp; done) | (go_simp; rfl)); intro w13 hw; have hg : w11.grownBy w13 (some go10) := (by rw [hw]; exact HP12.2); have hp_ : Kd.R k37 37 w13 w.heap.size (fun _ => True) (.slice (some ⟨go10, 0, none⟩) x3_1.length co10) y210 := (by rw [hw, Ny210.out]; exact HP12.1); clear HP12; replace HO_3 := qK (hp_); replace HB := qK ((by rw [hw]; exact bse (bse (bse (HB.out) GB10.out) GB10.out) GB10.out : Below w.heap.size w w13)); clear HO206; clear HO209; clear hg hw hp_)); go_roundg k1
                case measure => have := HK1.out; omega
                case rel => exact ⟨(y210), (wrap64 (x4_1 + 1)), qS, H', ⟨by have := HK1.out; omega⟩, ⟨by (with_reducible repeat (first | apply Kd.Ral | apply Kd.RdN | apply Kd.Rdr)); exact HO_3.out⟩, ⟨qB⟩⟩
              · rw [if_neg c9] at H; exact absurd H (by simp)
            · rw [if_neg c7] at H; exact absurd H (by simp)
          · rw [if_neg c6] at H; have c6b0 : decide (x4_1 < (l0.length : Int)) = false := decide_eq_false c6; clear c6; obtain rfl := Option.some.inj H; go_wp2; go_ret; exact ⟨_, qR, by (with_reducible repeat (first | apply Kd.Ral | apply Kd.RdN | apply Kd.Rdr)); exact HO_3.out, qB⟩
    · rw [if_neg c3] at H; exact absurd H (by simp)
  · rw [if_neg c2] at H; exact absurd H (by simp)
def laws_toDb.f (k : Nat) (l0_0 : List (S48)) : Option ((List (S37))) := (laws_toTableDataS.f k l0_0).bind fun t214 => (some t214)
theorem laws_toDb.mono : ∀ a0 k, LeO (laws_toDb.f k a0) (laws_toDb.f (k + 1) a0) := by
  intro a0 k
  unfold laws_toDb.f
  repeat' first
      | (with_reducible exact laws_toTableDataS.mono _ _)
      | (with_reducible exact LeO.refl _)
      | (with_reducible exact LeO.none _)
      | (with_reducible refine LeO.ite ?_ ?_)
      | (with_reducible refine LeO.bind ?_ (fun _ => ?_))
      | exact laws_toTableDataS.mono _ _
      | exact LeO.none _
      | refine LeO.ite ?_ ?_
      | refine LeO.bind ?_ (fun _ => ?_)
set_option maxHeartbeats 8000000 in
set_option maxRecDepth 100000 in
theorem laws_toDb.calls (k : Nat) (A0_0 : Option Addr) (c0_0 : Nat) (l0_0 : List (S48)) (r : List (S37)) (w : World) (hr0_0 : Kd.C k48 w A0_0 l0_0.length l0_0) (hc0_0 : l0_0.length ≤ c0_0) (h : laws_toDb.f k l0_0 = some r) :
    Calls Tryd.prog 6 #[.agg #[.slice A0_0 l0_0.length c0_0]] w fun e w' => ∃ v0_ : Value, e = .returned (.agg #[v0_]) ∧ Kd.R k37 37 w' w.heap.size (fun _ => True) v0_ r ∧ Below w.heap.size w w' := by
  have hu24 := Tryd.underlying24; have hu29 := Tryd.underlying29; have HR0_0 := qK hr0_0; have HC0_0 := qK hc0_0; clear hr0_0 hc0_0; have HB := qK (Below.refl w.heap.size w); have H : ((laws_toTableDataS.f k l0_0).bind fun t214 => (some t214)) = some r := h; clear h; replace H := Option.bind_eq_some_iff.mp H; obtain ⟨t214, A20, H⟩ := H; have A2 := qK A20; clear A20; obtain rfl := Option.some.inj H; go_enter Tryd.func6, Tryd.ntmps6; go_wp2_with (first | ((with_reducible refine gds (N := 1) rfl ?_); refine qbx 1 #[.slice A0_0 l0_0.length c0_0] 24 ?_; intro gb211 hg w3 hbox hb; have BK211 := qK (hbox); have GW211 := qK ((qW : w.heap.size ≤ gb211)); have GE211 := GW211; replace HB := qHB HB hb; clear hb hbox hg) | ((with_reducible refine gds (N := 2) rfl ?_); refine qbx 2 #[.slice none 0 0] 29 ?_; intro gb212 hg w4 hbox hb; have BK212 := qK (hbox); have GW212 := qK ((qW : w.heap.size ≤ gb212)); have GE212 := GW212; replace HB := qHB HB hb; have NB211_212 := qK (qlt BK211 hg); have NB212_211 := qK (qgt BK211 hg); replace BK211 := qbb BK211 hb; clear hb hbox hg) | ((with_reducible refine gds (N := 3) rfl ?_); refine qbx 3 #[.slice none 0 0] 29 ?_; intro gb213 hg w5 hbox hb; have BK213 := qK (hbox); have GW213 := qK ((qW : w.heap.size ≤ gb213)); have GE213 := GW213; replace HB := qHB HB hb; have NB211_213 := qK (qlt BK211 hg); have NB213_211 := qK (qgt BK211 hg); replace BK211 := qbb BK211 hb; have NB212_213 := qK (qlt BK212 hg); have NB213_212 := qK (qgt BK212 hg); replace BK212 := qbb BK212 hb; clear hb hbox hg; have hnb6 := NB211_212.out; have hnc6 := NB212_211.out; have hnb7 := NB211_213.out; have hnc7 := NB213_211.out; have hz8 := qz1 BK211.out) | ((with_reducible refine gcl (f := 11) rfl ?_); refine goesL_ (some 6) rfl rfl Tryd.func11 (by kernel_rfl) rfl #[.slice A0_0 l0_0.length c0_0] rfl qA ?_; (with_reducible refine (laws_toTableDataS.calls k _ _ l0_0 t214 _ ?side1 ?side2 A2.out).mono ?_); (case side1 => exact qC HR0_0); (case side2 => exact HC0_0.out); rintro e w9 ⟨v215, rfl, ho0, hb⟩; refine ⟨_, rfl, ?_⟩; have HO216 := qK (Kd.Rlo ho0 (bsz qB)); replace BK211 := qbb BK211 hb; replace BK212 := qbb BK212 hb; replace BK213 := qbb BK213 hb; replace HB := qHB HB hb; (try clear hb); (try clear hb2); (try clear hk); (try clear hi); (try clear ho0); obtain ⟨Ao10, co10, eo10⟩ := Kd.R_slice HO216.out; subst eo10; have hnb11 := NB213_212.out; have hnc11 := NB212_213.out; have hz12 := qz1 BK213.out; have hz13 := qz1 BK212.out)); refine bodyPost_ret (results_cell_row rfl _ _ gb212 29 #[.slice Ao10 t214.length co10] (0, 0) _ rfl (by (with_reducible repeat (first | refine bdN ?_ _ | refine bkD ?_ | refine bkA ?_ _)); refine bpu (cs := #[.slice none 0 0]) ?_ 0 _ rfl; (with_reducible repeat (first | refine bdN ?_ _ | refine bkD ?_ | refine bkA ?_ _)); refine bfa ?_ NB212_213.out _; (with_reducible repeat (first | refine bdN ?_ _ | refine bkD ?_ | refine bkA ?_ _)); exact BK212.out) Tryd.underlying29 rfl (by kernel_rfl)) rfl ?_; exact ⟨_, qR, by (with_reducible repeat (first | apply Kd.Ral | apply Kd.RdN | apply Kd.Rdr)); exact Kd.Rmo (Kd.Rfa (p := ⟨gb212, 0, none⟩) (Kd.Rfa (p := ⟨gb213, 0, none⟩) (Kd.Rty (Kd.Rty HO216.out BK213.out (by decide)) BK212.out (by decide)) (fun _ hk => hk.1.2) (.slice Ao10 t214.length co10)) (fun _ hk => hk.2) (.slice Ao10 t214.length co10)) (fun _ hk => trivial), qB⟩
def impl_isLetter.f (a0 : Int) : Option (Bool) := if a0 ≥ 97 then (some (decide (a0 ≤ 122))) else (some false)
set_option maxHeartbeats 8000000 in
set_option maxRecDepth 100000 in
theorem impl_isLetter.calls (a0 : Int) (r : Bool) (w : World) (h : impl_isLetter.f a0 = some r) :
    Calls Tryd.prog 37 #[.int .u8 a0] w fun e w' => e = .returned (.bool r) ∧ Drawn0 w w' := by
  have H : (if a0 ≥ 97 then (some (decide (a0 ≤ 122))) else (some false)) = some r := h; clear h; by_cases c2 : a0 ≥ 97
  · rw [if_pos c2] at H; have c2b0 : decide (97 ≤ a0) = true := decide_eq_true c2; clear c2; obtain rfl := Option.some.inj H; go_enter Tryd.func37, Tryd.ntmps37; go_wp2; go_ret; exact ⟨by first | rfl | (simp; done) | (simp [*]; done), by repeat (first | exact Drawn0.refl _ | apply Drawn0.step)⟩
  · rw [if_neg c2] at H; have c2b0 : decide (97 ≤ a0) = false := decide_eq_false c2; clear c2; obtain rfl := Option.some.inj H; go_enter Tryd.func37, Tryd.ntmps37; go_wp2; go_ret; exact ⟨by first | rfl | (simp; done) | (simp [*]; done), by repeat (first | exact Drawn0.refl _ | apply Drawn0.step)⟩
set_option maxHeartbeats 400000 in
theorem all_any (F : Nat) (p : Int → Bool) (hF : ∀ (b : Int) (w : World), 0 ≤ b → b ≤ 255 → Calls Tryd.prog F #[.int .u8 b] w fun e w' => e = .returned (.bool (p b)) ∧ Drawn0 w w')
    (hE : ∀ args w, (callFunc F args).run Tryd.prog w = .ok (.enter F args) w) (s : ByteArray) (w : World) (hs : s.size ≤ 9223372036854775807) :
    Calls Tryd.prog 38 #[.string s, .func (.func F) #[] #[]] w fun e w' => e = .returned (.bool (allFrom p s s.size 0)) ∧ Drawn0 w w' := by
  have HF := Aside0.mk hF
  clear hF
  go_enter Tryd.func38, Tryd.ntmps38
  go_wp2
  go_loopg [8, 5] s.size (fun g s8 _ wx => ∃ i : Nat, i + g = s.size ∧ s8 = .int .i64 i ∧ Aside0 (allFrom p s s.size 0 = allFrom p s g i) ∧ Drawn0 w wx)
  case atStart => exact ⟨0, by omega, rfl, ⟨rfl⟩, Drawn0.refl _⟩
  case round =>
    obtain ⟨i, hig, rfl, HR, ⟨m, rfl⟩⟩ := hrel
    cases gk with
    | zero =>
      obtain rfl : i = s.size := by omega
      go_wp2
      go_ret
      exact ⟨by rw [HR.out]; rfl, ⟨⟨m, rfl⟩⟩⟩
    | succ g =>
      have hi : i < s.size := by omega
      have hiz : (i : Int) < s.size := by omega
      have hb : ((s[i]'hi).toNat : Int) = bt s i := by simp [bt, hi]
      obtain ⟨b, hbe⟩ : ∃ b, bt s i = b := ⟨_, rfl⟩
      have hbr := bt_range s i
      rw [hbe] at hb hbr
      have HS : Aside0 (allFrom p s s.size 0 = (p b && allFrom p s g (i + 1))) := ⟨by rw [HR.out, ← hbe]; rfl⟩
      clear hbe HR
      cases hp : p b
      · go_wp2_with ((with_reducible refine (HF.out b _ hbr.1 hbr.2).mono ?_); rintro e w' ⟨rfl, ⟨n, rfl⟩⟩; rw [hp])
        go_ret
        exact ⟨by rw [HS.out, hp]; rfl, ⟨⟨_, rfl⟩⟩⟩
      · go_wp2_with ((with_reducible refine (HF.out b _ hbr.1 hbr.2).mono ?_); rintro e w' ⟨rfl, ⟨n, rfl⟩⟩; rw [hp])
        go_roundg g
        case measure => omega
        case rel => exact ⟨i + 1, by omega, by first | rfl | simp, ⟨by rw [HS.out, hp]; rfl⟩, ⟨⟨_, rfl⟩⟩⟩
def impl_isDigit.f (a0 : Int) : Option (Bool) := if a0 ≥ 48 then (some (decide (a0 ≤ 57))) else (some false)
set_option maxHeartbeats 8000000 in
set_option maxRecDepth 100000 in
theorem impl_isDigit.calls (a0 : Int) (r : Bool) (w : World) (h : impl_isDigit.f a0 = some r) :
    Calls Tryd.prog 48 #[.int .u8 a0] w fun e w' => e = .returned (.bool r) ∧ Drawn0 w w' := by
  have H : (if a0 ≥ 48 then (some (decide (a0 ≤ 57))) else (some false)) = some r := h; clear h; by_cases c2 : a0 ≥ 48
  · rw [if_pos c2] at H; have c2b0 : decide (48 ≤ a0) = true := decide_eq_true c2; clear c2; obtain rfl := Option.some.inj H; go_enter Tryd.func48, Tryd.ntmps48; go_wp2; go_ret; exact ⟨by first | rfl | (simp; done) | (simp [*]; done), by repeat (first | exact Drawn0.refl _ | apply Drawn0.step)⟩
  · rw [if_neg c2] at H; have c2b0 : decide (48 ≤ a0) = false := decide_eq_false c2; clear c2; obtain rfl := Option.some.inj H; go_enter Tryd.func48, Tryd.ntmps48; go_wp2; go_ret; exact ⟨by first | rfl | (simp; done) | (simp [*]; done), by repeat (first | exact Drawn0.refl _ | apply Drawn0.step)⟩
def impl_isWordByte.f (a0 : Int) : Option (Bool) := (impl_isLetter.f a0).bind fun t217 => (if t217 = true then (some true) else ((impl_isDigit.f a0).bind fun t218 => (if t218 = true then (some true) else (some (a0 == 95)))))
set_option maxHeartbeats 8000000 in
set_option maxRecDepth 100000 in
theorem impl_isWordByte.calls (a0 : Int) (r : Bool) (w : World) (h : impl_isWordByte.f a0 = some r) :
    Calls Tryd.prog 39 #[.int .u8 a0] w fun e w' => e = .returned (.bool r) ∧ Drawn0 w w' := by
  have H : ((impl_isLetter.f a0).bind fun t217 => (if t217 = true then (some true) else ((impl_isDigit.f a0).bind fun t218 => (if t218 = true then (some true) else (some (a0 == 95)))))) = some r := h; clear h; replace H := Option.bind_eq_some_iff.mp H; obtain ⟨t217, A20, H⟩ := H; have A2 := qK A20; clear A20; by_cases c3 : t217 = true
  · subst c3; rw [if_pos rfl] at H; obtain rfl := Option.some.inj H; go_enter Tryd.func39, Tryd.ntmps39; go_wp2_with (first | ((with_reducible refine gcl (f := 37) rfl ?_); refine goesL_ (some 4) rfl rfl Tryd.func37 (by kernel_rfl) rfl #[.int .u8 a0] rfl qA ?_; (with_reducible refine (impl_isLetter.calls a0 true _ A2.out).mono ?_); rintro e w' ⟨rfl, ⟨nd, rfl⟩⟩; refine ⟨_, rfl, ?_⟩)); go_ret; exact ⟨by first | rfl | (simp; done) | (simp [*]; done), by repeat (first | exact Drawn0.refl _ | apply Drawn0.step)⟩
  · replace c3 := Bool.eq_false_iff.mpr c3; subst c3; rw [if_neg qff] at H; replace H := Option.bind_eq_some_iff.mp H; obtain ⟨t218, A40, H⟩ := H; have A4 := qK A40; clear A40; by_cases c5 : t218 = true
    · subst c5; rw [if_pos rfl] at H; obtain rfl := Option.some.inj H; go_enter Tryd.func39, Tryd.ntmps39; go_wp2_with (first | ((with_reducible refine gcl (f := 37) rfl ?_); refine goesL_ (some 4) rfl rfl Tryd.func37 (by kernel_rfl) rfl #[.int .u8 a0] rfl qA ?_; (with_reducible refine (impl_isLetter.calls a0 false _ A2.out).mono ?_); rintro e w' ⟨rfl, ⟨nd, rfl⟩⟩; refine ⟨_, rfl, ?_⟩) | (go_at_call 48; (with_reducible refine (impl_isDigit.calls a0 true _ A4.out).mono ?_); rintro e w' ⟨rfl, ⟨nd, rfl⟩⟩)); go_ret; exact ⟨by first | rfl | (simp; done) | (simp [*]; done), by repeat (first | exact Drawn0.refl _ | apply Drawn0.step)⟩
    · replace c5 := Bool.eq_false_iff.mpr c5; subst c5; rw [if_neg qff] at H; obtain rfl := Option.some.inj H; go_enter Tryd.func39, Tryd.ntmps39; go_wp2_with (first | ((with_reducible refine gcl (f := 37) rfl ?_); refine goesL_ (some 4) rfl rfl Tryd.func37 (by kernel_rfl) rfl #[.int .u8 a0] rfl qA ?_; (with_reducible refine (impl_isLetter.calls a0 false _ A2.out).mono ?_); rintro e w' ⟨rfl, ⟨nd, rfl⟩⟩; refine ⟨_, rfl, ?_⟩) | (go_at_call 48; (with_reducible refine (impl_isDigit.calls a0 false _ A4.out).mono ?_); rintro e w' ⟨rfl, ⟨nd, rfl⟩⟩)); go_ret; exact ⟨by first | rfl | (simp; done) | (simp [*]; done), by repeat (first | exact Drawn0.refl _ | apply Drawn0.step)⟩
theorem wordByte_eq (c : Int) : impl_isWordByte.f c = some (wordByte c) := by
  unfold impl_isWordByte.f impl_isLetter.f impl_isDigit.f wordByte
  by_cases h1 : 97 ≤ c <;> by_cases h2 : c ≤ 122 <;> by_cases h3 : 48 ≤ c <;> by_cases h4 : c ≤ 57 <;> simp [h1, h2, h3, h4]
theorem letter_eq (c : Int) : impl_isLetter.f c = some (decide (97 ≤ c) && decide (c ≤ 122)) := by
  unfold impl_isLetter.f
  by_cases h1 : 97 ≤ c <;> by_cases h2 : c ≤ 122 <;> simp [h1, h2]
/-- A name. -/
def nameKw (s : ByteArray) : Bool := decide (1 ≤ s.size) && (decide (s.size ≤ 30) && ((decide (97 ≤ bt s 0) && decide (bt s 0 ≤ 122)) && (allFrom wordByte s s.size 0 && !isKw s)))
set_option maxHeartbeats 1600000 in
set_option maxRecDepth 100000 in
theorem isName_any (s : ByteArray) (w : World) (hG : GOK w) (hs : s.size ≤ 9223372036854775807) :
    Calls Tryd.prog 23 #[.string s] w fun e w' => e = .returned (.bool (nameKw s)) ∧ Drawn0 w w' := by
  have hall : ∀ w, Calls Tryd.prog 38 #[.string s, .func (.func 39) #[] #[]] w fun e w' => e = .returned (.bool (allFrom wordByte s s.size 0)) ∧ Drawn0 w w' := fun w =>
    all_any _ wordByte (fun b w _ _ => impl_isWordByte.calls b _ w (wordByte_eq b)) (fun args w => enters_ (fn := Tryd.f39) (by kernel_rfl) (by rfl) (by rfl) args w) s w hs
  have HA := Aside0.mk hall
  clear hall
  obtain ⟨r, hr⟩ : ∃ r, allFrom wordByte s s.size 0 = r := ⟨_, rfl⟩
  obtain ⟨c, hc⟩ : ∃ c, bt s 0 = c := ⟨_, rfl⟩
  obtain ⟨q, hq⟩ : ∃ q, isKw s = q := ⟨_, rfl⟩
  have hlet : ∀ w, Calls Tryd.prog 37 #[.int .u8 c] w fun e w' => e = .returned (.bool (decide (97 ≤ c) && decide (c ≤ 122))) ∧ Drawn0 w w' := fun w => impl_isLetter.calls c _ w (letter_eq c)
  have HL := Aside0.mk hlet
  clear hlet
  unfold nameKw
  rw [hr, hc, hq]
  rw [hr] at HA
  by_cases h1 : 1 ≤ s.size
  · have h1b : decide ((1 : Int) ≤ (s.size : Int)) = true := decide_eq_true (by omega)
    have hi : 0 < s.size := by omega
    have hb : ((s[0]'hi).toNat : Int) = c := by rw [← hc]; simp [bt, hi]
    by_cases h2 : s.size ≤ 30
    · have h2b : decide ((s.size : Int) ≤ 30) = true := decide_eq_true (by omega)
      cases h3 : (decide (97 ≤ c) && decide (c ≤ 122)) with
      | false =>
        rw [h3] at HL
        go_enter Tryd.func23, Tryd.ntmps23
        go_wp2_with ((with_reducible refine (HL.out _).mono ?_); rintro e w' ⟨rfl, ⟨n, rfl⟩⟩)
        go_ret
        exact ⟨by simp [h1, h2], ⟨⟨_, rfl⟩⟩⟩
      | true =>
        rw [h3] at HL
        cases r with
        | false =>
          go_enter Tryd.func23, Tryd.ntmps23
          go_wp2_with (first | ((with_reducible refine (HL.out _).mono ?_); rintro e w' ⟨rfl, ⟨n, rfl⟩⟩) | ((with_reducible refine (HA.out _).mono ?_); rintro e w' ⟨rfl, ⟨m, rfl⟩⟩))
          go_ret
          exact ⟨by simp [h1, h2], ⟨⟨n + m, by first | rfl | (rw [World.drewN_drewN])⟩⟩⟩
        | true =>
          obtain ⟨b, es, clock, g1, g2, g3⟩ := hG
          have g4 : ∀ n, (w.drewN n).cell? ⟨0, 0, none⟩ = some (.map (some b)) := fun n => g1
          have g5 : ∀ n, (Instr.lookup 74 (.map (some b)) (.string s) false).run Tryd.prog (w.drewN n) = .ok (.bool q) (w.drewN n) := fun n => by rw [← hq]; exact g3 (w.drewN n) g2 s hs
          clear g1 g2 g3
          go_enter Tryd.func23, Tryd.ntmps23
          go_wp2_with (first | ((with_reducible refine (HL.out _).mono ?_); rintro e w' ⟨rfl, ⟨n, rfl⟩⟩) | ((with_reducible refine (HA.out _).mono ?_); rintro e w' ⟨rfl, ⟨m, rfl⟩⟩; rw [World.drewN_drewN]))
          go_ret
          exact ⟨by simp [h1, h2], ⟨⟨_, rfl⟩⟩⟩
    · have h2b : decide ((s.size : Int) ≤ 30) = false := decide_eq_false (by omega)
      go_enter Tryd.func23, Tryd.ntmps23
      go_wp2
      go_ret
      exact ⟨by simp [h1, h2], Drawn0.refl _⟩
  · have h1b : decide ((1 : Int) ≤ (s.size : Int)) = false := decide_eq_false (by omega)
    go_enter Tryd.func23, Tryd.ntmps23
    go_wp2
    go_ret
    exact ⟨by simp [h1], Drawn0.refl _⟩
def impl_isName.f (a0 : ByteArray) : Option Bool := if a0.size ≤ 9223372036854775807 then some (nameKw a0) else none
theorem impl_isName.calls (a0 : ByteArray) (r : Bool) (w : World) (hG : GOK w) (h : impl_isName.f a0 = some r) :
    Calls Tryd.prog 23 #[.string a0] w fun e w' => e = .returned (.bool r) ∧ Drawn0 w w' := by
  unfold impl_isName.f at h
  by_cases hs : a0.size ≤ 9223372036854775807
  · rw [if_pos hs] at h
    obtain rfl := Option.some.inj h
    exact isName_any a0 w hG hs
  · rw [if_neg hs] at h
    exact absurd h (by simp)
def impl_doubled.ok (l0 : List (S52)) : Bool := decide (l0.length ≤ 2000000) && l0.all (fun x => decide (x.f0.size ≤ maxLen))
def impl_doubled.f (l0 : List (S52)) : Option Bool := if impl_doubled.ok l0 = true then some (dupGo [] l0) else none
theorem impl_doubled.calls (A0 : Option Addr) (c0 : Nat) (l0 : List (S52)) (r : Bool) (w : World) (hr0 : Kd.C k52 w A0 l0.length l0) (hc0 : l0.length ≤ c0) (h : impl_doubled.f l0 = some r) :
    Calls Tryd.prog 24 #[.slice A0 l0.length c0] w fun e w' => e = .returned (.bool r) ∧ Below w.heap.size w w' := by
  unfold impl_doubled.f at h
  by_cases hs : impl_doubled.ok l0 = true
  · rw [if_pos hs] at h
    unfold impl_doubled.ok at hs
    simp only [Bool.and_eq_true, decide_eq_true_eq, List.all_eq_true] at hs
    exact doubled_any A0 c0 l0 r w hr0 hc0 hs.1 hs.2 (Option.some.inj h)
  · rw [if_neg hs] at h
    exact absurd h (by simp)
def impl_isText_1.f (a0 : Int) : Option (Bool) := if a0 ≥ 32 then (some (decide (a0 ≤ 126))) else (some false)
set_option maxHeartbeats 8000000 in
set_option maxRecDepth 100000 in
theorem impl_isText_1.calls (a0 : Int) (r : Bool) (w : World) (h : impl_isText_1.f a0 = some r) :
    Calls Tryd.prog 54 #[.int .u8 a0] w fun e w' => e = .returned (.bool r) ∧ Drawn0 w w' := by
  have H : (if a0 ≥ 32 then (some (decide (a0 ≤ 126))) else (some false)) = some r := h; clear h; by_cases c2 : a0 ≥ 32
  · rw [if_pos c2] at H; have c2b0 : decide (32 ≤ a0) = true := decide_eq_true c2; clear c2; obtain rfl := Option.some.inj H; go_enter Tryd.func54, Tryd.ntmps54; go_wp2; go_ret; exact ⟨by first | rfl | (simp; done) | (simp [*]; done), by repeat (first | exact Drawn0.refl _ | apply Drawn0.step)⟩
  · rw [if_neg c2] at H; have c2b0 : decide (32 ≤ a0) = false := decide_eq_false c2; clear c2; obtain rfl := Option.some.inj H; go_enter Tryd.func54, Tryd.ntmps54; go_wp2; go_ret; exact ⟨by first | rfl | (simp; done) | (simp [*]; done), by repeat (first | exact Drawn0.refl _ | apply Drawn0.step)⟩
end Go.Proofs.YtoebfjfhdodakaaDoor.L
end
section
namespace Go.Proofs.YtoebfjfhdodakaaDoor.L
open Go.RowKit Go.Proofs.YtoebfjfhdodakaaDoorW.PrintWords Go.Proofs.YtoebfjfhdodakaaDoorW.PrintLast Go.Proofs.YtoebfjfhdodakaaDoorW.PrintMore
attribute [local go_sem] max2_int min2_int max_two min_two max_three min_three max_four min_four
set_option linter.unusedVariables false
set_option linter.unusedSimpArgs false
theorem textByte_eq (c : Int) : impl_isText_1.f c = some (textByte c) := by
  unfold impl_isText_1.f textByte
  by_cases h1 : 32 ≤ c <;> by_cases h2 : c ≤ 126 <;> simp [h1, h2]
set_option maxHeartbeats 800000 in
set_option maxRecDepth 100000 in
theorem isText_any (s : ByteArray) (w : World) (hs : s.size ≤ 9223372036854775807) :
    Calls Tryd.prog 49 #[.string s] w fun e w' => e = .returned (.bool (decide (s.size ≤ 200) && allFrom textByte s s.size 0)) ∧ Drawn0 w w' := by
  have hall : ∀ w, Calls Tryd.prog 38 #[.string s, .func (.func 54) #[] #[]] w fun e w' => e = .returned (.bool (allFrom textByte s s.size 0)) ∧ Drawn0 w w' := fun w =>
    all_any _ textByte (fun b w _ _ => impl_isText_1.calls b _ w (textByte_eq b)) (fun args w => enters_ (fn := Tryd.f54) (by kernel_rfl) (by rfl) (by rfl) args w) s w hs
  have HA := Aside0.mk hall
  clear hall
  obtain ⟨r, hr⟩ : ∃ r, allFrom textByte s s.size 0 = r := ⟨_, rfl⟩
  rw [hr] at HA ⊢
  by_cases h2 : s.size ≤ 200
  · have h2b : decide ((s.size : Int) ≤ 200) = true := decide_eq_true (by omega)
    go_enter Tryd.func49, Tryd.ntmps49
    go_wp2_with ((with_reducible refine (HA.out _).mono ?_); rintro e w' ⟨rfl, ⟨n, rfl⟩⟩)
    go_ret
    exact ⟨by simp [h2], ⟨⟨_, rfl⟩⟩⟩
  · have h2b : decide ((s.size : Int) ≤ 200) = false := decide_eq_false (by omega)
    go_enter Tryd.func49, Tryd.ntmps49
    go_wp2
    go_ret
    exact ⟨by simp [h2], Drawn0.refl _⟩
def impl_isText.f (a0 : ByteArray) : Option Bool := if a0.size ≤ 9223372036854775807 then some (decide (a0.size ≤ 200) && allFrom textByte a0 a0.size 0) else none
theorem impl_isText.calls (a0 : ByteArray) (r : Bool) (w : World) (h : impl_isText.f a0 = some r) :
    Calls Tryd.prog 49 #[.string a0] w fun e w' => e = .returned (.bool r) ∧ Drawn0 w w' := by
  unfold impl_isText.f at h
  by_cases hs : a0.size ≤ 9223372036854775807
  · rw [if_pos hs] at h
    obtain rfl := Option.some.inj h
    exact isText_any a0 w hs
  · rw [if_neg hs] at h
    exact absurd h (by simp)
def impl_typed.f (a0_0 : Int) (a0_1 : Int) (a0_2 : ByteArray) (a1 : Int) : Option (Bool) := if a0_0 = a1 then (if a1 = 1 then (some (a0_2.toList == ([] : List UInt8))) else (if a0_1 = 0 then ((impl_isText.f a0_2).bind fun t220 => (some t220)) else (some false))) else (some false)
set_option maxHeartbeats 8000000 in
set_option maxRecDepth 100000 in
theorem impl_typed.calls (a0_0 : Int) (a0_1 : Int) (a0_2 : ByteArray) (a1 : Int) (r : Bool) (w : World) (h : impl_typed.f a0_0 a0_1 a0_2 a1 = some r) :
    Calls Tryd.prog 40 #[.agg #[.int .i64 a0_0, .int .i64 a0_1, .string a0_2], .int .i64 a1] w fun e w' => e = .returned (.bool r) ∧ Below w.heap.size w w' := by
  have hu57 := Tryd.underlying57; have HB := qK (Below.refl w.heap.size w); have H : (if a0_0 = a1 then (if a1 = 1 then (some (a0_2.toList == ([] : List UInt8))) else (if a0_1 = 0 then ((impl_isText.f a0_2).bind fun t220 => (some t220)) else (some false))) else (some false)) = some r := h; clear h; by_cases c3 : a0_0 = a1
  · rw [if_pos c3] at H; have c3b0 : (a0_0 == a1) = true := beq_iff_eq.mpr c3; have c3b1 : (a0_0 != a1) = false := bne_eq_false_iff_eq.mpr c3; clear c3; by_cases c4 : a1 = 1
    · rw [if_pos c4] at H; have c4b0 : (a1 == 1) = true := beq_iff_eq.mpr c4; have c4b1 : (a1 != 1) = false := bne_eq_false_iff_eq.mpr c4; clear c4; obtain rfl := Option.some.inj H; go_enter Tryd.func40, Tryd.ntmps40; go_wp2_with (first | ((with_reducible refine gds (N := 2) rfl ?_); refine qbx 2 #[.int .i64 a0_0, .int .i64 a0_1, .string a0_2] 57 ?_; intro gb219 hg w5 hbox hb; have BK219 := qK (hbox); have GW219 := qK ((qW : w.heap.size ≤ gb219)); have GE219 := GW219; replace HB := qHB HB hb; clear hb hbox hg; have hz6 := qz3 BK219.out)); go_ret; exact ⟨qR, qB⟩
    · rw [if_neg c4] at H; have c4b0 : (a1 == 1) = false := beq_eq_false_iff_ne.mpr c4; have c4b1 : (a1 != 1) = true := bne_iff_ne.mpr c4; by_cases c7 : a0_1 = 0
      · rw [if_pos c7] at H; have c7b0 : (a0_1 == 0) = true := beq_iff_eq.mpr c7; have c7b1 : (a0_1 != 0) = false := bne_eq_false_iff_eq.mpr c7; clear c7; replace H := Option.bind_eq_some_iff.mp H; obtain ⟨t220, A80, H⟩ := H; have A8 := qK A80; clear A80; obtain rfl := Option.some.inj H; go_enter Tryd.func40, Tryd.ntmps40; go_wp2_with (first | ((with_reducible refine gds (N := 2) rfl ?_); refine qbx 2 #[.int .i64 a0_0, .int .i64 a0_1, .string a0_2] 57 ?_; intro gb219 hg w9 hbox hb; have BK219 := qK (hbox); have GW219 := qK ((qW : w.heap.size ≤ gb219)); have GE219 := GW219; replace HB := qHB HB hb; clear hb hbox hg; have hz10 := qz3 BK219.out) | (go_at_call 49; (with_reducible refine (impl_isText.calls a0_2 t220 _ A8.out).mono ?_); rintro e w' ⟨rfl, ⟨nd, rfl⟩⟩)); go_ret; exact ⟨qR, qB⟩
      · rw [if_neg c7] at H; have c7b0 : (a0_1 == 0) = false := beq_eq_false_iff_ne.mpr c7; have c7b1 : (a0_1 != 0) = true := bne_iff_ne.mpr c7; obtain rfl := Option.some.inj H; go_enter Tryd.func40, Tryd.ntmps40; go_wp2_with (first | ((with_reducible refine gds (N := 2) rfl ?_); refine qbx 2 #[.int .i64 a0_0, .int .i64 a0_1, .string a0_2] 57 ?_; intro gb219 hg w11 hbox hb; have BK219 := qK (hbox); have GW219 := qK ((qW : w.heap.size ≤ gb219)); have GE219 := GW219; replace HB := qHB HB hb; clear hb hbox hg; have hz12 := qz3 BK219.out)); go_ret; exact ⟨qR, qB⟩
  · rw [if_neg c3] at H; have c3b0 : (a0_0 == a1) = false := beq_eq_false_iff_ne.mpr c3; have c3b1 : (a0_0 != a1) = true := bne_iff_ne.mpr c3; obtain rfl := Option.some.inj H; go_enter Tryd.func40, Tryd.ntmps40; go_wp2_with (first | ((with_reducible refine gds (N := 2) rfl ?_); refine qbx 2 #[.int .i64 a0_0, .int .i64 a0_1, .string a0_2] 57 ?_; intro gb219 hg w13 hbox hb; have BK219 := qK (hbox); have GW219 := qK ((qW : w.heap.size ≤ gb219)); have GE219 := GW219; replace HB := qHB HB hb; clear hb hbox hg; have hz14 := qz3 BK219.out)); go_ret; exact ⟨qR, qB⟩
def impl_fitsCols.l0 : Nat → List (S52) → List (S57) → Int → Int → Option (Bool)
  | 0, _, _, _, _ => none
  | k + 1, x0, x12, x13, x14 => if x14 < x13 then (if 0 ≤ x14 then (if x14 < (x12.length : Int) then (if x14 < (x0.length : Int) then ((impl_typed.f ((rd_T57 x12 x14).f0) ((rd_T57 x12 x14).f1) ((rd_T57 x12 x14).f2) ((rd_T52 x0 x14).f1)).bind fun t224 => (if t224 = true then (impl_fitsCols.l0 k x0 x12 x13 (wrap64 (x14 + 1))) else (some false))) else (none)) else (none)) else (none)) else (some true)
def impl_fitsCols.f (k : Nat) (l0 : List (S52)) (l1 : List (S57)) : Option (Bool) := if (l1.length : Int) = (l0.length : Int) then (impl_fitsCols.l0 k l0 l1 (l1.length : Int) 0) else (some false)
theorem impl_fitsCols.mono_l : ∀ k, (∀ y0 y1 y2 y3, LeO (impl_fitsCols.l0 k y0 y1 y2 y3) (impl_fitsCols.l0 (k + 1) y0 y1 y2 y3))
  | 0 => fun _ _ _ _ r h => by simp [impl_fitsCols.l0] at h
  | k + 1 => by
    have ih0 := impl_fitsCols.mono_l k
    · intro y0 y1 y2 y3
      unfold impl_fitsCols.l0
      repeat' first
      | (with_reducible exact ih0 _ _ _ _)
      | (with_reducible exact LeO.refl _)
      | (with_reducible exact LeO.none _)
      | (with_reducible refine LeO.ite ?_ ?_)
      | (with_reducible refine LeO.bind ?_ (fun _ => ?_))
      | exact ih0 _ _ _ _
      | exact LeO.none _
      | refine LeO.ite ?_ ?_
      | refine LeO.bind ?_ (fun _ => ?_)
theorem impl_fitsCols.mono : ∀ a0 a1 k, LeO (impl_fitsCols.f k a0 a1) (impl_fitsCols.f (k + 1) a0 a1) := by
  intro a0 a1 k
  have ih0 := impl_fitsCols.mono_l k
  unfold impl_fitsCols.f
  repeat' first
      | (with_reducible exact ih0 _ _ _ _)
      | (with_reducible exact LeO.refl _)
      | (with_reducible exact LeO.none _)
      | (with_reducible refine LeO.ite ?_ ?_)
      | (with_reducible refine LeO.bind ?_ (fun _ => ?_))
      | exact ih0 _ _ _ _
      | exact LeO.none _
      | refine LeO.ite ?_ ?_
      | refine LeO.bind ?_ (fun _ => ?_)
def impl_fitsCols.T6 : Bool × List (List Nat × List Nat) := (true, [([], []), ([], []), ([], []), ([1, 2], [1, 2]), ([3], [3]), ([4], [4]), ([0, 5], [0, 5]), ([6], [6])])
def impl_fitsCols.B6 : List Nat := [0, 0, 0, 6, 14, 30, 63, 127]
theorem impl_fitsCols.tab6 : rtab .any (opsOf Tryd.f25 6) = impl_fitsCols.T6 := by kernel_rfl
theorem impl_fitsCols.bits6 : waitsOk impl_fitsCols.T6.2 impl_fitsCols.B6 = true := by kernel_rfl
set_option maxHeartbeats 8000000 in
set_option maxRecDepth 100000 in
theorem impl_fitsCols.calls (k : Nat) (A0 : Option Addr) (c0 : Nat) (l0 : List (S52)) (A1 : Option Addr) (c1 : Nat) (l1 : List (S57)) (r : Bool) (w : World) (hr0 : Kd.C k52 w A0 l0.length l0) (hc0 : l0.length ≤ c0) (hr1 : Kd.C k57 w A1 l1.length l1) (hc1 : l1.length ≤ c1) (h : impl_fitsCols.f k l0 l1 = some r) :
    Calls Tryd.prog 25 #[.slice A0 l0.length c0, .slice A1 l1.length c1] w fun e w' => e = .returned (.bool r) ∧ Below w.heap.size w w' := by
  have hu57 := Tryd.underlying57; have HR0 := qK hr0; have HC0 := qK hc0; clear hr0 hc0; have HR1 := qK hr1; have HC1 := qK hc1; clear hr1 hc1; have HB := qK (Below.refl w.heap.size w); have H : (if (l1.length : Int) = (l0.length : Int) then (impl_fitsCols.l0 k l0 l1 (l1.length : Int) 0) else (some false)) = some r := h; clear h; by_cases c3 : (l1.length : Int) = (l0.length : Int)
  · rw [if_pos c3] at H; have c3b0 : ((l1.length : Int) == (l0.length : Int)) = true := beq_iff_eq.mpr c3; have c3b1 : ((l1.length : Int) != (l0.length : Int)) = false := bne_eq_false_iff_eq.mpr c3; (have c3b2 : (l1.length == l0.length) = true := by first | simpa using c3 | (simp at c3 ⊢; omega)); clear c3; have H' := qK H; clear H; go_enter Tryd.func25, Tryd.ntmps25; go_wp2; go_loopg [14] k (fun kq v14 w' => ∃ (x14_1 : Int), v14 = .int .i64 x14_1 ∧ Aside0 (impl_fitsCols.l0 kq l0 l1 (l1.length : Int) x14_1 = some r) ∧ Aside0 (kq ≤ k) ∧ Aside0 (Below w.heap.size w w'))
    case atStart => exact ⟨(0), qS, H', ⟨Nat.le_refl _⟩, ⟨qB⟩⟩
    case round =>
      clear H'; (try clear c1); (try clear c2); (try clear p2); (try clear c3); (try clear c3b0); (try clear c3b1); (try clear c3b2); obtain ⟨x14_1, rfl, HA, HK1, HB⟩ := hrel
      cases gk with
      | zero => exact absurd HA.out (by simp [impl_fitsCols.l0])
      | succ k1 =>
        have H := HA.out; clear HA; simp only [impl_fitsCols.l0] at H; by_cases c4 : x14_1 < (l1.length : Int)
        · rw [if_pos c4] at H; have c4b0 : decide (x14_1 < (l1.length : Int)) = true := decide_eq_true c4; clear c4; by_cases c5 : 0 ≤ x14_1
          · rw [if_pos c5] at H; have c5b0 : decide (0 ≤ x14_1) = true := decide_eq_true c5; clear c5; by_cases c6 : x14_1 < (l1.length : Int)
            · rw [if_pos c6] at H; have c6b0 : decide (x14_1 < (l1.length : Int)) = true := decide_eq_true c6; clear c6; by_cases c7 : x14_1 < (l0.length : Int)
              · rw [if_pos c7] at H; have c7b0 : decide (x14_1 < (l0.length : Int)) = true := decide_eq_true c7; clear c7; replace H := Option.bind_eq_some_iff.mp H; obtain ⟨t224, A80, H⟩ := H; have A8 := qK A80; clear A80; by_cases c9 : t224 = true
                · subst c9; rw [if_pos rfl] at H; have H' := qK H; clear H; have p221 : 0 ≤ (x14_1 : Int) := of_decide_eq_true qa; have q221 : x14_1 < (l1.length : Int) := of_decide_eq_true qa; obtain ⟨ad221, e221, hx221_0, hx221_1, hx221_2⟩ := at_T57 HR1.out x14_1 p221 q221; cases e221; replace hx221_0 := (HB.out.cell (World.block_lt_of_cell? w _ hx221_0)).trans hx221_0; replace hx221_1 := (HB.out.cell (World.block_lt_of_cell? w _ hx221_1)).trans hx221_1; replace hx221_2 := (HB.out.cell (World.block_lt_of_cell? w _ hx221_2)).trans hx221_2; replace p221 := eq_true p221; replace q221 := eq_true q221; (try go_wp2_with (first | ((with_reducible refine gds (N := 6) rfl ?_); refine qbx 6 #[.int .i64 0, .int .i64 0, .string (⟨#[]⟩ : ByteArray)] 57 ?_; intro gb222 hg w10 hbox hb; have BK222 := qK (hbox); have GW222 := qK ((qW : w.heap.size ≤ gb222)); have GE222 := GW222; replace HB := qHB HB hb; clear hb hbox hg; have hz11 := qz3 BK222.out))); have n0_ : Aside0 ((((w10.setCell ⟨gb222, 0, none⟩ (.int .i64 ((rd_T57 l1 x14_1).f0))).setCell ⟨gb222, 1, none⟩ (.int .i64 ((rd_T57 l1 x14_1).f1))).setCell ⟨gb222, 2, none⟩ (.string ((rd_T57 l1 x14_1).f2))).heap[gb222]? = some (.cells #[.int .i64 ((rd_T57 l1 x14_1).f0), .int .i64 ((rd_T57 l1 x14_1).f1), .string ((rd_T57 l1 x14_1).f2)] 57 (0, 0))) := ⟨by (with_reducible repeat (first | refine bdN ?_ _ | refine bkD ?_ | refine bkA ?_ _)); refine bpu (cs := #[.int .i64 ((rd_T57 l1 x14_1).f0), .int .i64 ((rd_T57 l1 x14_1).f1), .string (⟨#[]⟩ : ByteArray)]) ?_ 2 _ rfl; (with_reducible repeat (first | refine bdN ?_ _ | refine bkD ?_ | refine bkA ?_ _)); refine bpu (cs := #[.int .i64 ((rd_T57 l1 x14_1).f0), .int .i64 0, .string (⟨#[]⟩ : ByteArray)]) ?_ 1 _ rfl; (with_reducible repeat (first | refine bdN ?_ _ | refine bkD ?_ | refine bkA ?_ _)); refine bpu (cs := #[.int .i64 0, .int .i64 0, .string (⟨#[]⟩ : ByteArray)]) ?_ 0 _ rfl; (with_reducible repeat (first | refine bdN ?_ _ | refine bkD ?_ | refine bkA ?_ _)); exact BK222.out⟩; have n1_ : Aside0 (Below w.heap.size w (((w10.setCell ⟨gb222, 0, none⟩ (.int .i64 ((rd_T57 l1 x14_1).f0))).setCell ⟨gb222, 1, none⟩ (.int .i64 ((rd_T57 l1 x14_1).f1))).setCell ⟨gb222, 2, none⟩ (.string ((rd_T57 l1 x14_1).f2)))) := ⟨qB⟩; (try clear BK222); (try clear HB); generalize (((w10.setCell ⟨gb222, 0, none⟩ (.int .i64 ((rd_T57 l1 x14_1).f0))).setCell ⟨gb222, 1, none⟩ (.int .i64 ((rd_T57 l1 x14_1).f1))).setCell ⟨gb222, 2, none⟩ (.string ((rd_T57 l1 x14_1).f2))) = w12 at n0_ n1_ ⊢; have BK222 := n0_; have HB := n1_; clear n0_ n1_; replace BK222 := qK (bkD BK222.out); replace HB := qK (bd1 HB.out); have p223 : 0 ≤ (x14_1 : Int) := of_decide_eq_true qa; have q223 : x14_1 < (l0.length : Int) := of_decide_eq_true qa; obtain ⟨ad223, e223, hx223_0, hx223_1⟩ := at_T52 HR0.out x14_1 p223 q223; have hw223_1 := hx223_1; have hw223_0 := hx223_0; cases e223; replace hx223_0 := (HB.out.cell (World.block_lt_of_cell? w _ hx223_0)).trans hx223_0; replace hx223_1 := (HB.out.cell (World.block_lt_of_cell? w _ hx223_1)).trans hx223_1; replace p223 := eq_true p223; replace q223 := eq_true q223; refine start_ (n := 8) (S := fun w' => w'.cell? ⟨gb222, 0, none⟩ = some (.int .i64 ((rd_T57 l1 x14_1).f0)) ∧ w'.cell? ⟨gb222, 1, none⟩ = some (.int .i64 ((rd_T57 l1 x14_1).f1)) ∧ w'.cell? ⟨gb222, 2, none⟩ = some (.string ((rd_T57 l1 x14_1).f2)) ∧ w'.cell? (ad223.add ((x14_1).toNat * 2)) = some (.string ((rd_T52 l0 x14_1).f0)) ∧ w'.cell? ⟨(ad223.add ((x14_1).toNat * 2)).block, (ad223.add ((x14_1).toNat * 2)).off + 1, none⟩ = some (.int .i64 ((rd_T52 l0 x14_1).f1))) (ds := []) #[false, false, false, false, false, false, false, false] (by kernel_rfl) rfl rfl ⟨(bce BK222.out 0).trans rfl, (bce BK222.out 1).trans rfl, (bce BK222.out 2).trans rfl, ((HB.out.cell (World.block_lt_of_cell? w _ hw223_0)).trans hw223_0), ((HB.out.cell (World.block_lt_of_cell? w _ hw223_1)).trans hw223_1)⟩ (fun hHeld => ?_); refine with_tabW impl_fitsCols.tab6 impl_fitsCols.bits6 (fun HT_ HW_ => ?_); generalize w12.drew = w13 at BK222 HB hx223_0 hx223_1 hHeld ⊢; refine pure_ (i := 1) (N := some 20) (v := ?_) (a' := ?_) #[false, true, false, false, false, false, false, false] rfl rfl (any_of HT_.out (by kernel_rfl)) (fun _ _ _ h => h) (Or.inl ⟨by rfl, ?_⟩) ?_ ?_; rotate_left
                  · intro w'; go_simp; (with_reducible rfl)
                  rotate_left
                  · simp only [Act.put, List.setIfInBounds_toArray, List.set_cons_zero, List.set_cons_succ, i64_w, i32_w]; rfl
                  refine pure_ (i := 2) (N := some 21) (v := ?_) (a' := ?_) #[false, true, true, false, false, false, false, false] rfl rfl (any_of HT_.out (by kernel_rfl)) (fun _ _ _ h => h) (Or.inl ⟨by rfl, ?_⟩) ?_ ?_; rotate_left
                  · intro w'; go_simp; (with_reducible rfl)
                  rotate_left
                  · simp only [Act.put, List.setIfInBounds_toArray, List.set_cons_zero, List.set_cons_succ, i64_w, i32_w]; rfl
                  refine pure_ (i := 3) (N := some 22) (v := ?_) (a' := ?_) #[false, true, true, true, false, false, false, false] rfl rfl (any_of HT_.out (by kernel_rfl)) (fun _ _ _ h => h) (Or.inl ⟨by rfl, ?_⟩) ?_ ?_; rotate_left
                  · intro w'; go_simp; (with_reducible rfl)
                  rotate_left
                  · simp only [Act.put, List.setIfInBounds_toArray, List.set_cons_zero, List.set_cons_succ, i64_w, i32_w]; rfl
                  refine pure_ (i := 4) (N := some 23) (v := ?_) (a' := ?_) #[false, true, true, true, true, false, false, false] rfl rfl (any_of HT_.out (by kernel_rfl)) (fun _ _ _ h => h) (Or.inl ⟨by rfl, ?_⟩) ?_ ?_; rotate_left
                  · intro w'; go_simp; (with_reducible rfl)
                  rotate_left
                  · simp only [Act.put, List.setIfInBounds_toArray, List.set_cons_zero, List.set_cons_succ, i64_w, i32_w]; rfl
                  refine take_ (i := 0) (N := some 19) (v := ?_) (a' := ?_) #[true, true, true, true, true, false, false, false] rfl rfl (take_ofW HT_.out HW_.out (by kernel_rfl)) (fun _ _ _ h => h) (Or.inl ⟨by rfl, ?_⟩) hHeld ?_ ?_; rotate_left
                  · rintro w' ⟨s0, s1, s2, s3, s4⟩; go_simp; (with_reducible rfl)
                  rotate_left
                  · simp only [Act.put, List.setIfInBounds_toArray, List.set_cons_zero, List.set_cons_succ, i64_w, i32_w]; rfl
                  refine take_ (i := 5) (N := some 24) (v := ?_) (a' := ?_) #[true, true, true, true, true, true, false, false] rfl rfl (take_ofW HT_.out HW_.out (by kernel_rfl)) (fun _ _ _ h => h) (Or.inl ⟨by rfl, ?_⟩) hHeld ?_ ?_; rotate_left
                  · rintro w' ⟨s0, s1, s2, s3, s4⟩; go_simp; (with_reducible rfl)
                  rotate_left
                  · simp only [Act.put, List.setIfInBounds_toArray, List.set_cons_zero, List.set_cons_succ, i64_w, i32_w]; rfl
                  refine one_ (i := 6) (N := some 25) #[true, true, true, true, true, true, true, false] rfl rfl (one_of HT_.out (by kernel_rfl)) (by decide) (fun K hK => ?_); refine goes_ Tryd.func40 (by kernel_rfl) rfl #[.agg #[.int .i64 ((rd_T57 l1 x14_1).f0), .int .i64 ((rd_T57 l1 x14_1).f1), .string ((rd_T57 l1 x14_1).f2)], .int .i64 ((rd_T52 l0 x14_1).f1)] (by rfl) rfl rfl qA ?_; (with_reducible refine (impl_typed.calls ((rd_T57 l1 x14_1).f0) ((rd_T57 l1 x14_1).f1) ((rd_T57 l1 x14_1).f2) ((rd_T52 l0 x14_1).f1) true _ A8.out).mono ?_); rintro e w14 ⟨rfl, hb⟩; refine ⟨_, rfl, ?_⟩; replace BK222 := qbb BK222 hb; replace HB := qHB HB hb; (try clear hb); (try clear hb2); (try clear hk); (try clear hi); refine hK.out _ _ ⟨(bce BK222.out 0).trans rfl, (bce BK222.out 1).trans rfl, (bce BK222.out 2).trans rfl, ((HB.out.cell (World.block_lt_of_cell? w _ hw223_0)).trans hw223_0), ((HB.out.cell (World.block_lt_of_cell? w _ hw223_1)).trans hw223_1)⟩ (fun hHeld => ?_); clear hK K; refine norm_ (a' := ?_) ?_ ?_; rotate_left
                  · show Act.put _ (some 25) _ = _; simp only [Act.put, List.setIfInBounds_toArray, List.set_cons_zero, List.set_cons_succ, i64_w, i32_w]; rfl
                  refine pure_ (i := 7) (N := some 26) (v := ?_) (a' := ?_) #[true, true, true, true, true, true, true, true] rfl rfl (any_of HT_.out (by kernel_rfl)) (fun _ _ _ h => h) (Or.inl ⟨by rfl, ?_⟩) ?_ ?_; rotate_left
                  · intro w'; go_simp; (with_reducible rfl)
                  rotate_left
                  · simp only [Act.put, List.setIfInBounds_toArray, List.set_cons_zero, List.set_cons_succ, i64_w, i32_w]; rfl
                  refine done_ (done_of HT_.out (by kernel_rfl)) ?_; (try go_wp2); go_roundg k1
                  case measure => have := HK1.out; omega
                  case rel => exact ⟨(wrap64 (x14_1 + 1)), qS, H', ⟨by have := HK1.out; omega⟩, ⟨qB⟩⟩
                · replace c9 := Bool.eq_false_iff.mpr c9; subst c9; rw [if_neg qff] at H; obtain rfl := Option.some.inj H; have p221 : 0 ≤ (x14_1 : Int) := of_decide_eq_true qa; have q221 : x14_1 < (l1.length : Int) := of_decide_eq_true qa; obtain ⟨ad221, e221, hx221_0, hx221_1, hx221_2⟩ := at_T57 HR1.out x14_1 p221 q221; cases e221; replace hx221_0 := (HB.out.cell (World.block_lt_of_cell? w _ hx221_0)).trans hx221_0; replace hx221_1 := (HB.out.cell (World.block_lt_of_cell? w _ hx221_1)).trans hx221_1; replace hx221_2 := (HB.out.cell (World.block_lt_of_cell? w _ hx221_2)).trans hx221_2; replace p221 := eq_true p221; replace q221 := eq_true q221; (try go_wp2_with (first | ((with_reducible refine gds (N := 6) rfl ?_); refine qbx 6 #[.int .i64 0, .int .i64 0, .string (⟨#[]⟩ : ByteArray)] 57 ?_; intro gb222 hg w15 hbox hb; have BK222 := qK (hbox); have GW222 := qK ((qW : w.heap.size ≤ gb222)); have GE222 := GW222; replace HB := qHB HB hb; clear hb hbox hg; have hz16 := qz3 BK222.out))); have n0_ : Aside0 ((((w15.setCell ⟨gb222, 0, none⟩ (.int .i64 ((rd_T57 l1 x14_1).f0))).setCell ⟨gb222, 1, none⟩ (.int .i64 ((rd_T57 l1 x14_1).f1))).setCell ⟨gb222, 2, none⟩ (.string ((rd_T57 l1 x14_1).f2))).heap[gb222]? = some (.cells #[.int .i64 ((rd_T57 l1 x14_1).f0), .int .i64 ((rd_T57 l1 x14_1).f1), .string ((rd_T57 l1 x14_1).f2)] 57 (0, 0))) := ⟨by (with_reducible repeat (first | refine bdN ?_ _ | refine bkD ?_ | refine bkA ?_ _)); refine bpu (cs := #[.int .i64 ((rd_T57 l1 x14_1).f0), .int .i64 ((rd_T57 l1 x14_1).f1), .string (⟨#[]⟩ : ByteArray)]) ?_ 2 _ rfl; (with_reducible repeat (first | refine bdN ?_ _ | refine bkD ?_ | refine bkA ?_ _)); refine bpu (cs := #[.int .i64 ((rd_T57 l1 x14_1).f0), .int .i64 0, .string (⟨#[]⟩ : ByteArray)]) ?_ 1 _ rfl; (with_reducible repeat (first | refine bdN ?_ _ | refine bkD ?_ | refine bkA ?_ _)); refine bpu (cs := #[.int .i64 0, .int .i64 0, .string (⟨#[]⟩ : ByteArray)]) ?_ 0 _ rfl; (with_reducible repeat (first | refine bdN ?_ _ | refine bkD ?_ | refine bkA ?_ _)); exact BK222.out⟩; have n1_ : Aside0 (Below w.heap.size w (((w15.setCell ⟨gb222, 0, none⟩ (.int .i64 ((rd_T57 l1 x14_1).f0))).setCell ⟨gb222, 1, none⟩ (.int .i64 ((rd_T57 l1 x14_1).f1))).setCell ⟨gb222, 2, none⟩ (.string ((rd_T57 l1 x14_1).f2)))) := ⟨qB⟩; (try clear BK222); (try clear HB); generalize (((w15.setCell ⟨gb222, 0, none⟩ (.int .i64 ((rd_T57 l1 x14_1).f0))).setCell ⟨gb222, 1, none⟩ (.int .i64 ((rd_T57 l1 x14_1).f1))).setCell ⟨gb222, 2, none⟩ (.string ((rd_T57 l1 x14_1).f2))) = w17 at n0_ n1_ ⊢; have BK222 := n0_; have HB := n1_; clear n0_ n1_; replace BK222 := qK (bkD BK222.out); replace HB := qK (bd1 HB.out); have p223 : 0 ≤ (x14_1 : Int) := of_decide_eq_true qa; have q223 : x14_1 < (l0.length : Int) := of_decide_eq_true qa; obtain ⟨ad223, e223, hx223_0, hx223_1⟩ := at_T52 HR0.out x14_1 p223 q223; have hw223_1 := hx223_1; have hw223_0 := hx223_0; cases e223; replace hx223_0 := (HB.out.cell (World.block_lt_of_cell? w _ hx223_0)).trans hx223_0; replace hx223_1 := (HB.out.cell (World.block_lt_of_cell? w _ hx223_1)).trans hx223_1; replace p223 := eq_true p223; replace q223 := eq_true q223; refine start_ (n := 8) (S := fun w' => w'.cell? ⟨gb222, 0, none⟩ = some (.int .i64 ((rd_T57 l1 x14_1).f0)) ∧ w'.cell? ⟨gb222, 1, none⟩ = some (.int .i64 ((rd_T57 l1 x14_1).f1)) ∧ w'.cell? ⟨gb222, 2, none⟩ = some (.string ((rd_T57 l1 x14_1).f2)) ∧ w'.cell? (ad223.add ((x14_1).toNat * 2)) = some (.string ((rd_T52 l0 x14_1).f0)) ∧ w'.cell? ⟨(ad223.add ((x14_1).toNat * 2)).block, (ad223.add ((x14_1).toNat * 2)).off + 1, none⟩ = some (.int .i64 ((rd_T52 l0 x14_1).f1))) (ds := []) #[false, false, false, false, false, false, false, false] (by kernel_rfl) rfl rfl ⟨(bce BK222.out 0).trans rfl, (bce BK222.out 1).trans rfl, (bce BK222.out 2).trans rfl, ((HB.out.cell (World.block_lt_of_cell? w _ hw223_0)).trans hw223_0), ((HB.out.cell (World.block_lt_of_cell? w _ hw223_1)).trans hw223_1)⟩ (fun hHeld => ?_); refine with_tabW impl_fitsCols.tab6 impl_fitsCols.bits6 (fun HT_ HW_ => ?_); generalize w17.drew = w18 at BK222 HB hx223_0 hx223_1 hHeld ⊢; refine pure_ (i := 1) (N := some 20) (v := ?_) (a' := ?_) #[false, true, false, false, false, false, false, false] rfl rfl (any_of HT_.out (by kernel_rfl)) (fun _ _ _ h => h) (Or.inl ⟨by rfl, ?_⟩) ?_ ?_; rotate_left
                  · intro w'; go_simp; (with_reducible rfl)
                  rotate_left
                  · simp only [Act.put, List.setIfInBounds_toArray, List.set_cons_zero, List.set_cons_succ, i64_w, i32_w]; rfl
                  refine pure_ (i := 2) (N := some 21) (v := ?_) (a' := ?_) #[false, true, true, false, false, false, false, false] rfl rfl (any_of HT_.out (by kernel_rfl)) (fun _ _ _ h => h) (Or.inl ⟨by rfl, ?_⟩) ?_ ?_; rotate_left
                  · intro w'; go_simp; (with_reducible rfl)
                  rotate_left
                  · simp only [Act.put, List.setIfInBounds_toArray, List.set_cons_zero, List.set_cons_succ, i64_w, i32_w]; rfl
                  refine pure_ (i := 3) (N := some 22) (v := ?_) (a' := ?_) #[false, true, true, true, false, false, false, false] rfl rfl (any_of HT_.out (by kernel_rfl)) (fun _ _ _ h => h) (Or.inl ⟨by rfl, ?_⟩) ?_ ?_; rotate_left
                  · intro w'; go_simp; (with_reducible rfl)
                  rotate_left
                  · simp only [Act.put, List.setIfInBounds_toArray, List.set_cons_zero, List.set_cons_succ, i64_w, i32_w]; rfl
                  refine pure_ (i := 4) (N := some 23) (v := ?_) (a' := ?_) #[false, true, true, true, true, false, false, false] rfl rfl (any_of HT_.out (by kernel_rfl)) (fun _ _ _ h => h) (Or.inl ⟨by rfl, ?_⟩) ?_ ?_; rotate_left
                  · intro w'; go_simp; (with_reducible rfl)
                  rotate_left
                  · simp only [Act.put, List.setIfInBounds_toArray, List.set_cons_zero, List.set_cons_succ, i64_w, i32_w]; rfl
                  refine take_ (i := 0) (N := some 19) (v := ?_) (a' := ?_) #[true, true, true, true, true, false, false, false] rfl rfl (take_ofW HT_.out HW_.out (by kernel_rfl)) (fun _ _ _ h => h) (Or.inl ⟨by rfl, ?_⟩) hHeld ?_ ?_; rotate_left
                  · rintro w' ⟨s0, s1, s2, s3, s4⟩; go_simp; (with_reducible rfl)
                  rotate_left
                  · simp only [Act.put, List.setIfInBounds_toArray, List.set_cons_zero, List.set_cons_succ, i64_w, i32_w]; rfl
                  refine take_ (i := 5) (N := some 24) (v := ?_) (a' := ?_) #[true, true, true, true, true, true, false, false] rfl rfl (take_ofW HT_.out HW_.out (by kernel_rfl)) (fun _ _ _ h => h) (Or.inl ⟨by rfl, ?_⟩) hHeld ?_ ?_; rotate_left
                  · rintro w' ⟨s0, s1, s2, s3, s4⟩; go_simp; (with_reducible rfl)
                  rotate_left
                  · simp only [Act.put, List.setIfInBounds_toArray, List.set_cons_zero, List.set_cons_succ, i64_w, i32_w]; rfl
                  refine one_ (i := 6) (N := some 25) #[true, true, true, true, true, true, true, false] rfl rfl (one_of HT_.out (by kernel_rfl)) (by decide) (fun K hK => ?_); refine goes_ Tryd.func40 (by kernel_rfl) rfl #[.agg #[.int .i64 ((rd_T57 l1 x14_1).f0), .int .i64 ((rd_T57 l1 x14_1).f1), .string ((rd_T57 l1 x14_1).f2)], .int .i64 ((rd_T52 l0 x14_1).f1)] (by rfl) rfl rfl qA ?_; (with_reducible refine (impl_typed.calls ((rd_T57 l1 x14_1).f0) ((rd_T57 l1 x14_1).f1) ((rd_T57 l1 x14_1).f2) ((rd_T52 l0 x14_1).f1) false _ A8.out).mono ?_); rintro e w19 ⟨rfl, hb⟩; refine ⟨_, rfl, ?_⟩; replace BK222 := qbb BK222 hb; replace HB := qHB HB hb; (try clear hb); (try clear hb2); (try clear hk); (try clear hi); refine hK.out _ _ ⟨(bce BK222.out 0).trans rfl, (bce BK222.out 1).trans rfl, (bce BK222.out 2).trans rfl, ((HB.out.cell (World.block_lt_of_cell? w _ hw223_0)).trans hw223_0), ((HB.out.cell (World.block_lt_of_cell? w _ hw223_1)).trans hw223_1)⟩ (fun hHeld => ?_); clear hK K; refine norm_ (a' := ?_) ?_ ?_; rotate_left
                  · show Act.put _ (some 25) _ = _; simp only [Act.put, List.setIfInBounds_toArray, List.set_cons_zero, List.set_cons_succ, i64_w, i32_w]; rfl
                  refine pure_ (i := 7) (N := some 26) (v := ?_) (a' := ?_) #[true, true, true, true, true, true, true, true] rfl rfl (any_of HT_.out (by kernel_rfl)) (fun _ _ _ h => h) (Or.inl ⟨by rfl, ?_⟩) ?_ ?_; rotate_left
                  · intro w'; go_simp; (with_reducible rfl)
                  rotate_left
                  · simp only [Act.put, List.setIfInBounds_toArray, List.set_cons_zero, List.set_cons_succ, i64_w, i32_w]; rfl
                  refine done_ (done_of HT_.out (by kernel_rfl)) ?_; (try go_wp2); go_ret; exact ⟨qR, qB⟩
              · rw [if_neg c7] at H; exact absurd H (by simp)
            · rw [if_neg c6] at H; exact absurd H (by simp)
          · rw [if_neg c5] at H; exact absurd H (by simp)
        · rw [if_neg c4] at H; have c4b0 : decide (x14_1 < (l1.length : Int)) = false := decide_eq_false c4; clear c4; obtain rfl := Option.some.inj H; go_wp2; go_ret; exact ⟨qR, qB⟩
  · rw [if_neg c3] at H; have c3b0 : ((l1.length : Int) == (l0.length : Int)) = false := beq_eq_false_iff_ne.mpr c3; have c3b1 : ((l1.length : Int) != (l0.length : Int)) = true := bne_iff_ne.mpr c3; (have c3b2 : (l1.length == l0.length) = false := by first | simpa using c3 | (simp at c3 ⊢; omega)); obtain rfl := Option.some.inj H; go_enter Tryd.func25, Tryd.ntmps25; go_wp2; go_ret; exact ⟨qR, qB⟩
def impl_less_string.f (a0 : ByteArray) (a1 : ByteArray) : Option (Bool) := some (Op.bytesLess a0.toList a1.toList)
set_option maxHeartbeats 8000000 in
set_option maxRecDepth 100000 in
theorem impl_less_string.calls (a0 : ByteArray) (a1 : ByteArray) (r : Bool) (w : World) (h : impl_less_string.f a0 a1 = some r) :
    Calls Tryd.prog 13 #[.string a0, .string a1] w fun e w' => e = .returned (.bool r) ∧ Drawn0 w w' := by
  have H : (some (Op.bytesLess a0.toList a1.toList)) = some r := h; clear h; obtain rfl := Option.some.inj H; go_enter Tryd.func13, Tryd.ntmps13; go_wp2; go_ret; exact ⟨by first | rfl | (simp; done) | (simp [*]; done), by repeat (first | exact Drawn0.refl _ | apply Drawn0.step)⟩
def impl_less_int.f (a0 : Int) (a1 : Int) : Option (Bool) := some (decide (a0 < a1))
set_option maxHeartbeats 8000000 in
set_option maxRecDepth 100000 in
theorem impl_less_int.calls (a0 : Int) (a1 : Int) (r : Bool) (w : World) (h : impl_less_int.f a0 a1 = some r) :
    Calls Tryd.prog 41 #[.int .i64 a0, .int .i64 a1] w fun e w' => e = .returned (.bool r) ∧ Drawn0 w w' := by
  have H : (some (decide (a0 < a1))) = some r := h; clear h; obtain rfl := Option.some.inj H; go_enter Tryd.func41, Tryd.ntmps41; go_wp2; go_ret; exact ⟨by first | rfl | (simp; done) | (simp [*]; done), by repeat (first | exact Drawn0.refl _ | apply Drawn0.step)⟩
def impl_keyLess.f (a0_0 : Int) (a0_1 : Int) (a0_2 : ByteArray) (a1_0 : Int) (a1_1 : Int) (a1_2 : ByteArray) : Option (Bool) := if a0_0 = 1 then ((impl_less_int.f a0_1 a1_1).bind fun t227 => (some t227)) else ((impl_less_string.f a0_2 a1_2).bind fun t228 => (some t228))
set_option maxHeartbeats 8000000 in
set_option maxRecDepth 100000 in
theorem impl_keyLess.calls (a0_0 : Int) (a0_1 : Int) (a0_2 : ByteArray) (a1_0 : Int) (a1_1 : Int) (a1_2 : ByteArray) (r : Bool) (w : World) (h : impl_keyLess.f a0_0 a0_1 a0_2 a1_0 a1_1 a1_2 = some r) :
    Calls Tryd.prog 26 #[.agg #[.int .i64 a0_0, .int .i64 a0_1, .string a0_2], .agg #[.int .i64 a1_0, .int .i64 a1_1, .string a1_2]] w fun e w' => e = .returned (.bool r) ∧ Below w.heap.size w w' := by
  have hu57 := Tryd.underlying57; have HB := qK (Below.refl w.heap.size w); have H : (if a0_0 = 1 then ((impl_less_int.f a0_1 a1_1).bind fun t227 => (some t227)) else ((impl_less_string.f a0_2 a1_2).bind fun t228 => (some t228))) = some r := h; clear h; by_cases c3 : a0_0 = 1
  · rw [if_pos c3] at H; have c3b0 : (a0_0 == 1) = true := beq_iff_eq.mpr c3; have c3b1 : (a0_0 != 1) = false := bne_eq_false_iff_eq.mpr c3; clear c3; replace H := Option.bind_eq_some_iff.mp H; obtain ⟨t227, A40, H⟩ := H; have A4 := qK A40; clear A40; obtain rfl := Option.some.inj H; go_enter Tryd.func26, Tryd.ntmps26; go_wp2_with (first | ((with_reducible refine gds (N := 2) rfl ?_); refine qbx 2 #[.int .i64 a0_0, .int .i64 a0_1, .string a0_2] 57 ?_; intro gb225 hg w5 hbox hb; have BK225 := qK (hbox); have GW225 := qK ((qW : w.heap.size ≤ gb225)); have GE225 := GW225; replace HB := qHB HB hb; clear hb hbox hg) | ((with_reducible refine gds (N := 3) rfl ?_); refine qbx 3 #[.int .i64 a1_0, .int .i64 a1_1, .string a1_2] 57 ?_; intro gb226 hg w6 hbox hb; have BK226 := qK (hbox); have GW226 := qK ((qW : w.heap.size ≤ gb226)); have GE226 := GW226; replace HB := qHB HB hb; have NB225_226 := qK (qlt BK225 hg); have NB226_225 := qK (qgt BK225 hg); replace BK225 := qbb BK225 hb; clear hb hbox hg; have hnb7 := NB225_226.out; have hnc7 := NB226_225.out; have hz8 := qz3 BK225.out; have hz9 := qz3 BK226.out) | ((with_reducible refine gcl (f := 41) rfl ?_); refine goesL_ (some 12) rfl rfl Tryd.func41 (by kernel_rfl) rfl #[.int .i64 a0_1, .int .i64 a1_1] rfl qA ?_; (with_reducible refine (impl_less_int.calls a0_1 a1_1 t227 _ A4.out).mono ?_); rintro e w' ⟨rfl, ⟨nd, rfl⟩⟩; refine ⟨_, rfl, ?_⟩)); go_ret; exact ⟨qR, qB⟩
  · rw [if_neg c3] at H; have c3b0 : (a0_0 == 1) = false := beq_eq_false_iff_ne.mpr c3; have c3b1 : (a0_0 != 1) = true := bne_iff_ne.mpr c3; replace H := Option.bind_eq_some_iff.mp H; obtain ⟨t228, A100, H⟩ := H; have A10 := qK A100; clear A100; obtain rfl := Option.some.inj H; go_enter Tryd.func26, Tryd.ntmps26; go_wp2_with (first | ((with_reducible refine gds (N := 2) rfl ?_); refine qbx 2 #[.int .i64 a0_0, .int .i64 a0_1, .string a0_2] 57 ?_; intro gb225 hg w11 hbox hb; have BK225 := qK (hbox); have GW225 := qK ((qW : w.heap.size ≤ gb225)); have GE225 := GW225; replace HB := qHB HB hb; clear hb hbox hg) | ((with_reducible refine gds (N := 3) rfl ?_); refine qbx 3 #[.int .i64 a1_0, .int .i64 a1_1, .string a1_2] 57 ?_; intro gb226 hg w12 hbox hb; have BK226 := qK (hbox); have GW226 := qK ((qW : w.heap.size ≤ gb226)); have GE226 := GW226; replace HB := qHB HB hb; have NB225_226 := qK (qlt BK225 hg); have NB226_225 := qK (qgt BK225 hg); replace BK225 := qbb BK225 hb; clear hb hbox hg; have hnb13 := NB225_226.out; have hnc13 := NB226_225.out; have hz14 := qz3 BK225.out; have hz15 := qz3 BK226.out) | ((with_reducible refine gcl (f := 13) rfl ?_); refine goesL_ (some 17) rfl rfl Tryd.func13 (by kernel_rfl) rfl #[.string a0_2, .string a1_2] rfl qA ?_; (with_reducible refine (impl_less_string.calls a0_2 a1_2 t228 _ A10.out).mono ?_); rintro e w' ⟨rfl, ⟨nd, rfl⟩⟩; refine ⟨_, rfl, ?_⟩)); go_ret; exact ⟨qR, qB⟩
end Go.Proofs.YtoebfjfhdodakaaDoor.L
end
section
set_option linter.unusedVariables false
set_option linter.unusedSimpArgs false
namespace Go.Proofs.YtoebfjfhdodakaaDoor.L
open Go.RowKit Go.Maps Go.Proofs.YtoebfjfhdodakaaDoor Go.Proofs.YtoebfjfhdodakaaDoorW.PrintWords Go.Proofs.YtoebfjfhdodakaaDoorW.PrintLast Go.Proofs.YtoebfjfhdodakaaDoorW.PrintMore
abbrev DVal := S57
def colOKb (x : DCol) : Bool := nameKw x.f0 && (decide (x.f1 = 1) || decide (x.f1 = 2))
def tabHead (nm : ByteArray) (cols : List DCol) (rows : List (List DVal)) : Bool := nameKw nm && (decide (1 ≤ cols.length) && (decide (cols.length ≤ 20) && (decide (rows.length ≤ 1000) && !dupGo [] cols)))
def rowsGo (fit : List DVal → Bool) (less : DVal → DVal → Bool) : Option (List DVal) → List (List DVal) → Bool
  | _, [] => true
  | p, row :: r => fit row && ((match p with | none => true | some q => less (q.getD 0 z57) (row.getD 0 z57)) && rowsGo fit less (some row) r)
theorem rowsGo_none (fit : List DVal → Bool) (less : DVal → DVal → Bool) (row : List DVal) (r : List (List DVal)) : rowsGo fit less none (row :: r) = (fit row && rowsGo fit less (some row) r) := by
  rw [rowsGo.eq_def]
  simp only [Bool.true_and]
theorem rowsGo_some (fit : List DVal → Bool) (less : DVal → DVal → Bool) (q row : List DVal) (r : List (List DVal)) : rowsGo fit less (some q) (row :: r) = (fit row && (less (q.getD 0 z57) (row.getD 0 z57) && rowsGo fit less (some row) r)) := by
  rw [rowsGo.eq_def]
set_option maxHeartbeats 4000000 in
set_option maxRecDepth 100000 in
theorem tableOK_any (p : Addr) (nm : ByteArray) (A1 : Option Addr) (c1 : Nat) (cols : List DCol) (A2 : Option Addr) (c2 : Nat) (rows : List (List DVal)) (fit : List DVal → Bool) (less : DVal → DVal → Bool) (w : World)
    (h0 : w.cell? p = some (.string nm)) (h1 : w.cell? ⟨p.block, p.off + 1, none⟩ = some (.slice A1 cols.length c1)) (h2 : w.cell? ⟨p.block, p.off + 2, none⟩ = some (.slice A2 rows.length c2))
    (hr1 : Kd.C k52 w A1 cols.length cols) (hr2 : Kd.C (Kd.slice 57 k57) w A2 rows.length rows)
    (hN : ∀ (s : ByteArray) w', s = nm ∨ (∃ x ∈ cols, x.f0 = s) → Below w.heap.size w w' → Calls Tryd.prog 23 #[.string s] w' fun e w'' => e = .returned (.bool (nameKw s)) ∧ Drawn0 w' w'')
    (hD : ∀ w', Below w.heap.size w w' → Calls Tryd.prog 24 #[.slice A1 cols.length c1] w' fun e w'' => e = .returned (.bool (dupGo [] cols)) ∧ Below w'.heap.size w' w'')
    (hF : ∀ w' A c (row : List DVal), row ∈ rows → row.length ≤ c → Kd.C k57 w A row.length row → Below w.heap.size w w' → Calls Tryd.prog 25 #[.slice A1 cols.length c1, .slice A row.length c] w' fun e w'' => e = .returned (.bool (fit row)) ∧ Below w'.heap.size w' w'')
    (hL : ∀ w' (a b : DVal), Calls Tryd.prog 26 #[.agg #[.int .i64 a.f0, .int .i64 a.f1, .string a.f2], .agg #[.int .i64 b.f0, .int .i64 b.f1, .string b.f2]] w' fun e w'' => e = .returned (.bool (less a b)) ∧ Below w'.heap.size w' w'')
    (hfl : ∀ row ∈ rows, fit row = true → row.length = cols.length) (r : Bool) (hr : (tabHead nm cols rows && (cols.all colOKb && rowsGo fit less none rows)) = r) :
    Calls Tryd.prog 12 #[.pointer (some p)] w fun e w' => e = .returned (.bool r) ∧ Below w.heap.size w w' := by
  have hu := Tryd.underlying37
  have hu2 := Tryd.underlying52
  have hu3 := Tryd.underlying57
  have HB := Aside0.mk (Below.refl w.heap.size w)
  have HR1 := Aside0.mk hr1
  have HR2 := Aside0.mk hr2
  have HN0 := Aside0.mk hN
  have HN := Aside0.mk (fun w' => hN nm w' (Or.inl rfl))
  have HD := Aside0.mk hD
  have HF := Aside0.mk hF
  have HL := Aside0.mk hL
  have HFL := Aside0.mk hfl
  have H0 := Aside0.mk h0
  have H1 := Aside0.mk h1
  have H2 := Aside0.mk h2
  clear hN hD hF hL hfl hr1 hr2
  unfold tabHead at hr
  obtain ⟨d, hd⟩ : ∃ d, dupGo [] cols = d := ⟨_, rfl⟩
  obtain ⟨q, hq⟩ : ∃ q, nameKw nm = q := ⟨_, rfl⟩
  rw [hd] at HD hr
  rw [hq] at HN hr
  clear hd hq
  cases q with
  | false =>
    obtain rfl : r = false := by rw [← hr]; rfl
    clear hr
    go_enter Tryd.func12, Tryd.ntmps12
    go_wp2_with ((with_reducible refine (HN.out _ ?hb).mono ?_); (case hb => repeat (first | (with_reducible first | exact HB.out | apply bal | apply pbd | apply bd1) | exact HB.out)); rintro e w' ⟨rfl, ⟨n, rfl⟩⟩)
    go_ret
    exact ⟨rfl, by repeat (first | (with_reducible first | exact HB.out | apply bal | apply pbd | apply bd1) | exact HB.out)⟩
  | true =>
  by_cases g1 : 1 ≤ cols.length
  case neg =>
    obtain rfl : r = false := by rw [← hr]; simp [g1]
    have c1b : decide (cols.length < 1) = true := decide_eq_true (by omega)
    have c1c : decide ((cols.length : Int) < 1) = true := decide_eq_true (by omega)
    clear hr
    go_enter Tryd.func12, Tryd.ntmps12
    go_wp2_with ((with_reducible refine (HN.out _ ?hb).mono ?_); (case hb => repeat (first | (with_reducible first | exact HB.out | apply bal | apply pbd | apply bd1) | exact HB.out)); rintro e w' ⟨rfl, ⟨n, rfl⟩⟩)
    go_ret
    exact ⟨rfl, by repeat (first | (with_reducible first | exact HB.out | apply bal | apply pbd | apply bd1) | exact HB.out)⟩
  case pos =>
  have c1b : decide ((cols.length : Int) < 1) = false := decide_eq_false (by omega)
  have c1c : decide (cols.length < 1) = false := decide_eq_false (by omega)
  by_cases g2 : cols.length ≤ 20
  case neg =>
    obtain rfl : r = false := by rw [← hr]; simp [g2]
    have c2b : decide (20 < cols.length) = true := decide_eq_true (by omega)
    have c2c : decide (20 < (cols.length : Int)) = true := decide_eq_true (by omega)
    clear hr
    go_enter Tryd.func12, Tryd.ntmps12
    go_wp2_with ((with_reducible refine (HN.out _ ?hb).mono ?_); (case hb => repeat (first | (with_reducible first | exact HB.out | apply bal | apply pbd | apply bd1) | exact HB.out)); rintro e w' ⟨rfl, ⟨n, rfl⟩⟩)
    go_ret
    exact ⟨rfl, by repeat (first | (with_reducible first | exact HB.out | apply bal | apply pbd | apply bd1) | exact HB.out)⟩
  case pos =>
  have c2b : decide (20 < (cols.length : Int)) = false := decide_eq_false (by omega)
  have c2c : decide (20 < cols.length) = false := decide_eq_false (by omega)
  by_cases g3 : rows.length ≤ 1000
  case neg =>
    obtain rfl : r = false := by rw [← hr]; simp [g3]
    have c3b : decide (1000 < rows.length) = true := decide_eq_true (by omega)
    have c3c : decide (1000 < (rows.length : Int)) = true := decide_eq_true (by omega)
    clear hr
    go_enter Tryd.func12, Tryd.ntmps12
    go_wp2_with ((with_reducible refine (HN.out _ ?hb).mono ?_); (case hb => repeat (first | (with_reducible first | exact HB.out | apply bal | apply pbd | apply bd1) | exact HB.out)); rintro e w' ⟨rfl, ⟨n, rfl⟩⟩)
    go_ret
    exact ⟨rfl, by repeat (first | (with_reducible first | exact HB.out | apply bal | apply pbd | apply bd1) | exact HB.out)⟩
  case pos =>
  have c3b : decide (1000 < (rows.length : Int)) = false := decide_eq_false (by omega)
  have c3c : decide (1000 < rows.length) = false := decide_eq_false (by omega)
  cases d with
  | true =>
    obtain rfl : r = false := by rw [← hr]; simp
    clear hr
    go_enter Tryd.func12, Tryd.ntmps12
    go_wp2_with (first | ((with_reducible refine (HN.out _ ?hb).mono ?_); (case hb => repeat (first | (with_reducible first | exact HB.out | apply bal | apply pbd | apply bd1) | exact HB.out)); rintro e w' ⟨rfl, ⟨n, rfl⟩⟩) | ((with_reducible refine (HD.out _ ?hb).mono ?_); (case hb => repeat (first | (with_reducible first | exact HB.out | apply bal | apply pbd | apply bd1) | exact HB.out)); rintro e wd ⟨rfl, hbd⟩; have HB1 := Aside0.mk (bst (by repeat (first | (with_reducible first | exact HB.out | apply bal | apply pbd | apply bd1) | exact HB.out)) hbd); clear HB; have HB := HB1; clear HB1 hbd))
    go_ret
    exact ⟨rfl, by repeat (first | (with_reducible first | exact HB.out | apply bal | apply pbd | apply bd1) | exact HB.out)⟩
  | false =>
    have hr' : (cols.all colOKb && rowsGo fit less none rows) = r := by rw [← hr]; simp [g1, g2, g3]
    clear hr
    have HRR := Aside0.mk hr'
    clear hr'
    go_enter Tryd.func12, Tryd.ntmps12
    go_wp2_with (first | ((with_reducible refine (HN.out _ ?hb).mono ?_); (case hb => repeat (first | (with_reducible first | exact HB.out | apply bal | apply pbd | apply bd1) | exact HB.out)); rintro e w' ⟨rfl, ⟨n, rfl⟩⟩) | ((with_reducible refine (HD.out _ ?hb).mono ?_); (case hb => repeat (first | (with_reducible first | exact HB.out | apply bal | apply pbd | apply bd1) | exact HB.out)); rintro e wd ⟨rfl, hbd⟩; have HB1 := Aside0.mk (bst (by repeat (first | (with_reducible first | exact HB.out | apply bal | apply pbd | apply bd1) | exact HB.out)) hbd); clear HB; have HB := HB1; clear HB1 hbd; replace h0 := (HB.out.cell (World.block_lt_of_cell? w _ H0.out)).trans H0.out; replace h1 := (HB.out.cell (World.block_lt_of_cell? w _ H1.out)).trans H1.out; replace h2 := (HB.out.cell (World.block_lt_of_cell? w _ H2.out)).trans H2.out))
    clear h0 h1 h2 c1b c1c c2b c2c c3b c3c
    have GR := Aside0.mk g3
    have GC := Aside0.mk g2
    have GC1 := Aside0.mk g1
    clear g1 g2 g3 HN HD
    go_loopg [49] cols.length (fun kq v49 w' => ∃ i : Nat, v49 = .int .i64 (i : Int) ∧ Aside0 (kq + i = cols.length) ∧ Aside0 (((cols.drop i).all colOKb && rowsGo fit less none rows) = r) ∧ Aside0 (Below w.heap.size w w'))
    case atStart => exact ⟨0, rfl, ⟨by omega⟩, ⟨by rw [List.drop_zero]; exact HRR.out⟩, ⟨by repeat (first | (with_reducible first | exact HB.out | apply bal | apply pbd | apply bd1) | exact HB.out)⟩⟩
    case round =>
      clear HB HRR
      obtain ⟨i, rfl, HI, HRR, HB⟩ := hrel
      cases gk with
      | zero =>
        have d1 : decide ((i : Int) < (cols.length : Int)) = false := decide_eq_false (by have := HI.out; omega)
        have d2 : decide (i < cols.length) = false := decide_eq_false (by have := HI.out; omega)
        have hr' := HRR.out
        rw [List.drop_eq_nil_of_le (by have := HI.out; omega), List.all_nil, Bool.true_and] at hr'
        have HRS := Aside0.mk hr'
        clear hr' HRR
        have h2 := (HB.out.cell (World.block_lt_of_cell? w _ H2.out)).trans H2.out
        go_wp2
        clear h2 d1 d2
        go_loopg [73] rows.length (fun kq v73 w' => ∃ j : Nat, v73 = .int .i64 (j : Int) ∧ Aside0 (kq + j = rows.length) ∧ Aside0 (rowsGo fit less (if j = 0 then none else rows[j - 1]?) (rows.drop j) = r) ∧ Aside0 (j ≠ 0 → ∃ q, rows[j - 1]? = some q ∧ 1 ≤ q.length) ∧ Aside0 (Below w.heap.size w w'))
        case atStart => exact ⟨0, rfl, ⟨by omega⟩, ⟨by rw [List.drop_zero, if_pos rfl]; exact HRS.out⟩, ⟨fun h => absurd rfl h⟩, ⟨by repeat (first | (with_reducible first | exact HB.out | apply bal | apply pbd | apply bd1) | exact HB.out)⟩⟩
        case round =>
          clear HB HRS
          obtain ⟨j, rfl, HJ, HRS, HQ, HB⟩ := hrel
          cases gk with
          | zero =>
            have d1 : decide ((j : Int) < (rows.length : Int)) = false := decide_eq_false (by have := HJ.out; omega)
            have d2 : decide (j < rows.length) = false := decide_eq_false (by have := HJ.out; omega)
            have hr' := HRS.out
            rw [List.drop_eq_nil_of_le (by have := HJ.out; omega)] at hr'
            obtain rfl : r = true := by rw [← hr']; unfold rowsGo; rfl
            clear hr'
            go_wp2
            go_ret
            exact ⟨rfl, by repeat (first | (with_reducible first | exact HB.out | apply bal | apply pbd | apply bd1) | exact HB.out)⟩
          | succ k1 =>
            have hjl : j < rows.length := by have := HJ.out; omega
            have d1 : decide ((j : Int) < (rows.length : Int)) = true := decide_eq_true (by omega)
            have d2 : decide (j < rows.length) = true := decide_eq_true hjl
            have p147 : 0 ≤ (j : Int) := by omega
            have q147 : (j : Int) < (rows.length : Int) := by omega
            obtain ⟨ad147, A147, c147, e147, hx147, hl147, hi147⟩ := at_L10 HR2.out j p147 q147
            obtain ⟨row, hrow⟩ : ∃ row, rd_L10 rows j = row := ⟨_, rfl⟩
            rw [hrow] at hx147 hl147 hi147
            simp only [Int.toNat_natCast] at hx147
            have hrow2 : rows[j]? = some row := by
              rw [← hrow]
              unfold rd_L10
              rw [Int.toNat_natCast, List.getD_eq_getElem?_getD, List.getElem?_eq_getElem hjl]; rfl
            have hdl : rows.drop j = row :: rows.drop (j + 1) := by
              rw [List.drop_eq_getElem_cons hjl]
              rw [List.getElem?_eq_getElem hjl] at hrow2
              rw [Option.some.inj hrow2]
            have hmem : row ∈ rows := List.mem_of_getElem? hrow2
            have HX147 := Aside0.mk hx147
            have HR147 := Aside0.mk hi147
            have HC147 := Aside0.mk hl147
            have HROW := Aside0.mk hrow2
            have HFR := Aside0.mk (fun w' A c => HF.out w' A c row hmem)
            have HFL2 := Aside0.mk (HFL.out row hmem)
            have hr' := HRS.out
            rw [hdl] at hr'
            have hx147w := hx147
            clear HRS hdl hmem hrow hrow2 hi147 hl147
            cases e147
            replace hx147 := (HB.out.cell (World.block_lt_of_cell? w _ hx147)).trans hx147
            replace p147 := eq_true p147
            replace q147 := eq_true q147
            have HRR := Aside0.mk hr'
            clear hr'
            go_wp2
            have HBd := Aside0.mk (bd1 HB.out)
            clear HB
            have HB := HBd
            clear HBd
            obtain ⟨fr, hfr⟩ : ∃ fr, fit row = fr := ⟨_, rfl⟩
            rw [hfr] at HFR HFL2
            cases fr with
            | false =>
              obtain rfl : r = false := by
                rw [← HRR.out]
                by_cases hj : j = 0
                · rw [if_pos hj, rowsGo_none, hfr, Bool.false_and]
                · obtain ⟨q, hq, _⟩ := HQ.out hj
                  rw [if_neg hj, hq, rowsGo_some, hfr, Bool.false_and]
              clear HRR hfr
              refine start_ (n := 28) (S := (fun w' => w'.cell? ⟨p.block, p.off + 1, none⟩ = some (.slice A1 cols.length c1) ∧ True)) (ds := []) #[false, false, false, false, false, false, false, false, false, false, false, false, false, false, false, false, false, false, false, false, false, false, false, false, false, false, false, false] (by kernel_rfl) rfl rfl ⟨(HB.out.cell (World.block_lt_of_cell? w _ H1.out)).trans H1.out, trivial⟩ (fun hHeld => ?_)
              refine pure_ (i := 0) (N := some 78) (v := ?_) (a' := ?_) #[true, false, false, false, false, false, false, false, false, false, false, false, false, false, false, false, false, false, false, false, false, false, false, false, false, false, false, false] rfl rfl (by kernel_rfl) (fun _ _ _ h => h) (Or.inl ⟨by rfl, ?_⟩) ?_ ?_
              rotate_left
              · intro w'
                go_simp
                with_reducible rfl
              rotate_left
              · simp only [Act.put, List.setIfInBounds_toArray, List.set_cons_zero, List.set_cons_succ, i64_w, i32_w]
                rfl
              refine pure_ (i := 1) (N := some 79) (v := ?_) (a' := ?_) #[true, true, false, false, false, false, false, false, false, false, false, false, false, false, false, false, false, false, false, false, false, false, false, false, false, false, false, false] rfl rfl (by kernel_rfl) (fun _ _ _ h => h) (Or.inl ⟨by rfl, ?_⟩) ?_ ?_
              rotate_left
              · intro w'
                go_simp
                with_reducible rfl
              rotate_left
              · simp only [Act.put, List.setIfInBounds_toArray, List.set_cons_zero, List.set_cons_succ, i64_w, i32_w]
                rfl
              refine pure_ (i := 2) (N := some 80) (v := ?_) (a' := ?_) #[true, true, true, false, false, false, false, false, false, false, false, false, false, false, false, false, false, false, false, false, false, false, false, false, false, false, false, false] rfl rfl (by kernel_rfl) (fun _ _ _ h => h) (Or.inl ⟨by rfl, ?_⟩) ?_ ?_
              rotate_left
              · intro w'
                go_simp
                with_reducible rfl
              rotate_left
              · simp only [Act.put, List.setIfInBounds_toArray, List.set_cons_zero, List.set_cons_succ, i64_w, i32_w]
                rfl
              refine take_ (i := 3) (N := some 81) (v := ?_) (a' := ?_) #[true, true, true, true, false, false, false, false, false, false, false, false, false, false, false, false, false, false, false, false, false, false, false, false, false, false, false, false] rfl rfl (by kernel_rfl) (fun _ _ _ h => h) (Or.inl ⟨by rfl, ?_⟩) hHeld ?_ ?_
              rotate_left
              · rintro w' ⟨s0, _⟩
                go_simp
                with_reducible rfl
              rotate_left
              · simp only [Act.put, List.setIfInBounds_toArray, List.set_cons_zero, List.set_cons_succ, i64_w, i32_w]
                rfl
              refine pure_ (i := 4) (N := some 82) (v := ?_) (a' := ?_) #[true, true, true, true, true, false, false, false, false, false, false, false, false, false, false, false, false, false, false, false, false, false, false, false, false, false, false, false] rfl rfl (by kernel_rfl) (fun _ _ _ h => h) (Or.inl ⟨by rfl, ?_⟩) ?_ ?_
              rotate_left
              · intro w'
                go_simp
                with_reducible rfl
              rotate_left
              · simp only [Act.put, List.setIfInBounds_toArray, List.set_cons_zero, List.set_cons_succ, i64_w, i32_w]
                rfl
              refine one_ (i := 5) (N := some 83) #[true, true, true, true, true, true, false, false, false, false, false, false, false, false, false, false, false, false, false, false, false, false, false, false, false, false, false, false] rfl rfl (by kernel_rfl) (by decide) (fun K hK => ?_)
              refine goes_ Tryd.func25 (by kernel_rfl) rfl #[.slice A1 cols.length c1, .slice A147 row.length c147] (by rfl) rfl rfl (by (try simp only [List.map_toArray, List.map_cons, List.map_nil]); first | done | rfl) ?_
              with_reducible refine (HFR.out _ A147 c147 HC147.out HR147.out HB.out).mono ?_
              rintro e wc ⟨rfl, hb⟩
              refine ⟨_, rfl, ?_⟩
              have HBa_ := Aside0.mk (bst HB.out hb)
              clear HB hb
              have HB := HBa_
              clear HBa_
              refine hK.out _ _ ⟨(HB.out.cell (World.block_lt_of_cell? w _ H1.out)).trans H1.out, trivial⟩ (fun hHeld => ?_)
              clear hK K
              refine norm_ (a' := ?_) ?_ ?_
              rotate_left
              · show Act.put _ (some 83) _ = _
                simp only [Act.put, List.setIfInBounds_toArray, List.set_cons_zero, List.set_cons_succ, i64_w, i32_w]
                rfl
              refine pure_ (i := 6) (N := some 84) (v := ?_) (a' := ?_) #[true, true, true, true, true, true, true, false, false, false, false, false, false, false, false, false, false, false, false, false, false, false, false, false, false, false, false, false] rfl rfl (by kernel_rfl) (fun _ _ _ h => h) (Or.inl ⟨by rfl, ?_⟩) ?_ ?_
              rotate_left
              · intro w'
                go_simp
                with_reducible rfl
              rotate_left
              · simp only [Act.put, List.setIfInBounds_toArray, List.set_cons_zero, List.set_cons_succ, i64_w, i32_w]
                rfl
              refine pure_ (i := 7) (N := some 85) (v := ?_) (a' := ?_) #[true, true, true, true, true, true, true, true, false, false, false, false, false, false, false, false, false, false, false, false, false, false, false, false, false, false, false, false] rfl rfl (by kernel_rfl) (fun _ _ _ h => h) (Or.inl ⟨by rfl, ?_⟩) ?_ ?_
              rotate_left
              · intro w'
                go_simp
                with_reducible rfl
              rotate_left
              · simp only [Act.put, List.setIfInBounds_toArray, List.set_cons_zero, List.set_cons_succ, i64_w, i32_w]
                rfl
              refine pure_ (i := 8) (N := some 86) (v := undef) (a' := ?_) #[true, true, true, true, true, true, true, true, true, false, false, false, false, false, false, false, false, false, false, false, false, false, false, false, false, false, false, false] rfl rfl (by kernel_rfl) (fun _ _ _ h => h) (Or.inr ⟨by rfl, rfl⟩) ?_ ?_
              rotate_left
              · simp only [Act.put, List.setIfInBounds_toArray, List.set_cons_zero, List.set_cons_succ, i64_w, i32_w]
                rfl
              refine pure_ (i := 9) (N := some 87) (v := undef) (a' := ?_) #[true, true, true, true, true, true, true, true, true, true, false, false, false, false, false, false, false, false, false, false, false, false, false, false, false, false, false, false] rfl rfl (by kernel_rfl) (fun _ _ _ h => h) (Or.inr ⟨by rfl, rfl⟩) ?_ ?_
              rotate_left
              · simp only [Act.put, List.setIfInBounds_toArray, List.set_cons_zero, List.set_cons_succ, i64_w, i32_w]
                rfl
              refine pure_ (i := 10) (N := some 88) (v := undef) (a' := ?_) #[true, true, true, true, true, true, true, true, true, true, true, false, false, false, false, false, false, false, false, false, false, false, false, false, false, false, false, false] rfl rfl (by kernel_rfl) (fun _ _ _ h => h) (Or.inr ⟨by rfl, rfl⟩) ?_ ?_
              rotate_left
              · simp only [Act.put, List.setIfInBounds_toArray, List.set_cons_zero, List.set_cons_succ, i64_w, i32_w]
                rfl
              refine pure_ (i := 11) (N := some 89) (v := undef) (a' := ?_) #[true, true, true, true, true, true, true, true, true, true, true, true, false, false, false, false, false, false, false, false, false, false, false, false, false, false, false, false] rfl rfl (by kernel_rfl) (fun _ _ _ h => h) (Or.inr ⟨by rfl, rfl⟩) ?_ ?_
              rotate_left
              · simp only [Act.put, List.setIfInBounds_toArray, List.set_cons_zero, List.set_cons_succ, i64_w, i32_w]
                rfl
              refine pure_ (i := 12) (N := some 90) (v := undef) (a' := ?_) #[true, true, true, true, true, true, true, true, true, true, true, true, true, false, false, false, false, false, false, false, false, false, false, false, false, false, false, false] rfl rfl (by kernel_rfl) (fun _ _ _ h => h) (Or.inr ⟨by rfl, rfl⟩) ?_ ?_
              rotate_left
              · simp only [Act.put, List.setIfInBounds_toArray, List.set_cons_zero, List.set_cons_succ, i64_w, i32_w]
                rfl
              refine pure_ (i := 13) (N := some 91) (v := undef) (a' := ?_) #[true, true, true, true, true, true, true, true, true, true, true, true, true, true, false, false, false, false, false, false, false, false, false, false, false, false, false, false] rfl rfl (by kernel_rfl) (fun _ _ _ h => h) (Or.inr ⟨by rfl, rfl⟩) ?_ ?_
              rotate_left
              · simp only [Act.put, List.setIfInBounds_toArray, List.set_cons_zero, List.set_cons_succ, i64_w, i32_w]
                rfl
              refine pure_ (i := 14) (N := some 92) (v := undef) (a' := ?_) #[true, true, true, true, true, true, true, true, true, true, true, true, true, true, true, false, false, false, false, false, false, false, false, false, false, false, false, false] rfl rfl (by kernel_rfl) (fun _ _ _ h => h) (Or.inr ⟨by rfl, rfl⟩) ?_ ?_
              rotate_left
              · simp only [Act.put, List.setIfInBounds_toArray, List.set_cons_zero, List.set_cons_succ, i64_w, i32_w]
                rfl
              refine pure_ (i := 15) (N := some 93) (v := undef) (a' := ?_) #[true, true, true, true, true, true, true, true, true, true, true, true, true, true, true, true, false, false, false, false, false, false, false, false, false, false, false, false] rfl rfl (by kernel_rfl) (fun _ _ _ h => h) (Or.inr ⟨by rfl, rfl⟩) ?_ ?_
              rotate_left
              · simp only [Act.put, List.setIfInBounds_toArray, List.set_cons_zero, List.set_cons_succ, i64_w, i32_w]
                rfl
              refine pure_ (i := 16) (N := some 94) (v := undef) (a' := ?_) #[true, true, true, true, true, true, true, true, true, true, true, true, true, true, true, true, true, false, false, false, false, false, false, false, false, false, false, false] rfl rfl (by kernel_rfl) (fun _ _ _ h => h) (Or.inr ⟨by rfl, rfl⟩) ?_ ?_
              rotate_left
              · simp only [Act.put, List.setIfInBounds_toArray, List.set_cons_zero, List.set_cons_succ, i64_w, i32_w]
                rfl
              refine pure_ (i := 17) (N := some 95) (v := undef) (a' := ?_) #[true, true, true, true, true, true, true, true, true, true, true, true, true, true, true, true, true, true, false, false, false, false, false, false, false, false, false, false] rfl rfl (by kernel_rfl) (fun _ _ _ h => h) (Or.inr ⟨by rfl, rfl⟩) ?_ ?_
              rotate_left
              · simp only [Act.put, List.setIfInBounds_toArray, List.set_cons_zero, List.set_cons_succ, i64_w, i32_w]
                rfl
              refine pure_ (i := 18) (N := some 96) (v := undef) (a' := ?_) #[true, true, true, true, true, true, true, true, true, true, true, true, true, true, true, true, true, true, true, false, false, false, false, false, false, false, false, false] rfl rfl (by kernel_rfl) (fun _ _ _ h => h) (Or.inr ⟨by rfl, rfl⟩) ?_ ?_
              rotate_left
              · simp only [Act.put, List.setIfInBounds_toArray, List.set_cons_zero, List.set_cons_succ, i64_w, i32_w]
                rfl
              refine pure_ (i := 19) (N := some 97) (v := undef) (a' := ?_) #[true, true, true, true, true, true, true, true, true, true, true, true, true, true, true, true, true, true, true, true, false, false, false, false, false, false, false, false] rfl rfl (by kernel_rfl) (fun _ _ _ h => h) (Or.inr ⟨by rfl, rfl⟩) ?_ ?_
              rotate_left
              · simp only [Act.put, List.setIfInBounds_toArray, List.set_cons_zero, List.set_cons_succ, i64_w, i32_w]
                rfl
              refine pure_ (i := 20) (N := some 98) (v := undef) (a' := ?_) #[true, true, true, true, true, true, true, true, true, true, true, true, true, true, true, true, true, true, true, true, true, false, false, false, false, false, false, false] rfl rfl (by kernel_rfl) (fun _ _ _ h => h) (Or.inr ⟨by rfl, rfl⟩) ?_ ?_
              rotate_left
              · simp only [Act.put, List.setIfInBounds_toArray, List.set_cons_zero, List.set_cons_succ, i64_w, i32_w]
                rfl
              refine pure_ (i := 21) (N := some 99) (v := undef) (a' := ?_) #[true, true, true, true, true, true, true, true, true, true, true, true, true, true, true, true, true, true, true, true, true, true, false, false, false, false, false, false] rfl rfl (by kernel_rfl) (fun _ _ _ h => h) (Or.inr ⟨by rfl, rfl⟩) ?_ ?_
              rotate_left
              · simp only [Act.put, List.setIfInBounds_toArray, List.set_cons_zero, List.set_cons_succ, i64_w, i32_w]
                rfl
              refine pure_ (i := 22) (N := some 100) (v := undef) (a' := ?_) #[true, true, true, true, true, true, true, true, true, true, true, true, true, true, true, true, true, true, true, true, true, true, true, false, false, false, false, false] rfl rfl (by kernel_rfl) (fun _ _ _ h => h) (Or.inr ⟨by rfl, rfl⟩) ?_ ?_
              rotate_left
              · simp only [Act.put, List.setIfInBounds_toArray, List.set_cons_zero, List.set_cons_succ, i64_w, i32_w]
                rfl
              refine pure_ (i := 23) (N := some 101) (v := undef) (a' := ?_) #[true, true, true, true, true, true, true, true, true, true, true, true, true, true, true, true, true, true, true, true, true, true, true, true, false, false, false, false] rfl rfl (by kernel_rfl) (fun _ _ _ h => h) (Or.inr ⟨by rfl, rfl⟩) ?_ ?_
              rotate_left
              · simp only [Act.put, List.setIfInBounds_toArray, List.set_cons_zero, List.set_cons_succ, i64_w, i32_w]
                rfl
              refine pure_ (i := 24) (N := some 102) (v := undef) (a' := ?_) #[true, true, true, true, true, true, true, true, true, true, true, true, true, true, true, true, true, true, true, true, true, true, true, true, true, false, false, false] rfl rfl (by kernel_rfl) (fun _ _ _ h => h) (Or.inr ⟨by rfl, rfl⟩) ?_ ?_
              rotate_left
              · simp only [Act.put, List.setIfInBounds_toArray, List.set_cons_zero, List.set_cons_succ, i64_w, i32_w]
                rfl
              refine pure_ (i := 25) (N := some 103) (v := undef) (a' := ?_) #[true, true, true, true, true, true, true, true, true, true, true, true, true, true, true, true, true, true, true, true, true, true, true, true, true, true, false, false] rfl rfl (by kernel_rfl) (fun _ _ _ h => h) (Or.inr ⟨by rfl, rfl⟩) ?_ ?_
              rotate_left
              · simp only [Act.put, List.setIfInBounds_toArray, List.set_cons_zero, List.set_cons_succ, i64_w, i32_w]
                rfl
              refine pure_ (i := 26) (N := some 104) (v := undef) (a' := ?_) #[true, true, true, true, true, true, true, true, true, true, true, true, true, true, true, true, true, true, true, true, true, true, true, true, true, true, true, false] rfl rfl (by kernel_rfl) (fun _ _ _ h => h) (Or.inr ⟨by rfl, rfl⟩) ?_ ?_
              rotate_left
              · simp only [Act.put, List.setIfInBounds_toArray, List.set_cons_zero, List.set_cons_succ, i64_w, i32_w]
                rfl
              refine pure_ (i := 27) (N := some 105) (v := ?_) (a' := ?_) #[true, true, true, true, true, true, true, true, true, true, true, true, true, true, true, true, true, true, true, true, true, true, true, true, true, true, true, true] rfl rfl (by kernel_rfl) (fun _ _ _ h => h) (Or.inl ⟨by rfl, ?_⟩) ?_ ?_
              rotate_left
              · intro w'
                go_simp
                with_reducible rfl
              rotate_left
              · simp only [Act.put, List.setIfInBounds_toArray, List.set_cons_zero, List.set_cons_succ, i64_w, i32_w]
                rfl
              refine done_ (by kernel_rfl) ?_
              go_wp2
              go_ret
              exact ⟨rfl, by repeat (first | (with_reducible first | exact HB.out | apply bal | apply pbd | apply bd1) | exact HB.out)⟩
            | true =>
              by_cases hj : j = 0
              case pos =>
                subst hj
                have hr' := HRR.out
                rw [if_pos rfl, rowsGo_none, hfr, Bool.true_and] at hr'
                have HRS := Aside0.mk hr'
                clear hr' HRR
                have d4 : decide (0 < (((0 : Nat)) : Int)) = false := by decide
                refine start_ (n := 28) (S := (fun w' => w'.cell? ⟨p.block, p.off + 1, none⟩ = some (.slice A1 cols.length c1) ∧ True)) (ds := []) #[false, false, false, false, false, false, false, false, false, false, false, false, false, false, false, false, false, false, false, false, false, false, false, false, false, false, false, false] (by kernel_rfl) rfl rfl ⟨(HB.out.cell (World.block_lt_of_cell? w _ H1.out)).trans H1.out, trivial⟩ (fun hHeld => ?_)
                refine pure_ (i := 0) (N := some 78) (v := ?_) (a' := ?_) #[true, false, false, false, false, false, false, false, false, false, false, false, false, false, false, false, false, false, false, false, false, false, false, false, false, false, false, false] rfl rfl (by kernel_rfl) (fun _ _ _ h => h) (Or.inl ⟨by rfl, ?_⟩) ?_ ?_
                rotate_left
                · intro w'
                  go_simp
                  with_reducible rfl
                rotate_left
                · simp only [Act.put, List.setIfInBounds_toArray, List.set_cons_zero, List.set_cons_succ, i64_w, i32_w]
                  rfl
                refine pure_ (i := 1) (N := some 79) (v := ?_) (a' := ?_) #[true, true, false, false, false, false, false, false, false, false, false, false, false, false, false, false, false, false, false, false, false, false, false, false, false, false, false, false] rfl rfl (by kernel_rfl) (fun _ _ _ h => h) (Or.inl ⟨by rfl, ?_⟩) ?_ ?_
                rotate_left
                · intro w'
                  go_simp
                  with_reducible rfl
                rotate_left
                · simp only [Act.put, List.setIfInBounds_toArray, List.set_cons_zero, List.set_cons_succ, i64_w, i32_w]
                  rfl
                refine pure_ (i := 2) (N := some 80) (v := ?_) (a' := ?_) #[true, true, true, false, false, false, false, false, false, false, false, false, false, false, false, false, false, false, false, false, false, false, false, false, false, false, false, false] rfl rfl (by kernel_rfl) (fun _ _ _ h => h) (Or.inl ⟨by rfl, ?_⟩) ?_ ?_
                rotate_left
                · intro w'
                  go_simp
                  with_reducible rfl
                rotate_left
                · simp only [Act.put, List.setIfInBounds_toArray, List.set_cons_zero, List.set_cons_succ, i64_w, i32_w]
                  rfl
                refine take_ (i := 3) (N := some 81) (v := ?_) (a' := ?_) #[true, true, true, true, false, false, false, false, false, false, false, false, false, false, false, false, false, false, false, false, false, false, false, false, false, false, false, false] rfl rfl (by kernel_rfl) (fun _ _ _ h => h) (Or.inl ⟨by rfl, ?_⟩) hHeld ?_ ?_
                rotate_left
                · rintro w' ⟨s0, _⟩
                  go_simp
                  with_reducible rfl
                rotate_left
                · simp only [Act.put, List.setIfInBounds_toArray, List.set_cons_zero, List.set_cons_succ, i64_w, i32_w]
                  rfl
                refine pure_ (i := 4) (N := some 82) (v := ?_) (a' := ?_) #[true, true, true, true, true, false, false, false, false, false, false, false, false, false, false, false, false, false, false, false, false, false, false, false, false, false, false, false] rfl rfl (by kernel_rfl) (fun _ _ _ h => h) (Or.inl ⟨by rfl, ?_⟩) ?_ ?_
                rotate_left
                · intro w'
                  go_simp
                  with_reducible rfl
                rotate_left
                · simp only [Act.put, List.setIfInBounds_toArray, List.set_cons_zero, List.set_cons_succ, i64_w, i32_w]
                  rfl
                refine one_ (i := 5) (N := some 83) #[true, true, true, true, true, true, false, false, false, false, false, false, false, false, false, false, false, false, false, false, false, false, false, false, false, false, false, false] rfl rfl (by kernel_rfl) (by decide) (fun K hK => ?_)
                refine goes_ Tryd.func25 (by kernel_rfl) rfl #[.slice A1 cols.length c1, .slice A147 row.length c147] (by rfl) rfl rfl (by (try simp only [List.map_toArray, List.map_cons, List.map_nil]); first | done | rfl) ?_
                with_reducible refine (HFR.out _ A147 c147 HC147.out HR147.out HB.out).mono ?_
                rintro e wc ⟨rfl, hb⟩
                refine ⟨_, rfl, ?_⟩
                have HBa_ := Aside0.mk (bst HB.out hb)
                clear HB hb
                have HB := HBa_
                clear HBa_
                refine hK.out _ _ ⟨(HB.out.cell (World.block_lt_of_cell? w _ H1.out)).trans H1.out, trivial⟩ (fun hHeld => ?_)
                clear hK K
                refine norm_ (a' := ?_) ?_ ?_
                rotate_left
                · show Act.put _ (some 83) _ = _
                  simp only [Act.put, List.setIfInBounds_toArray, List.set_cons_zero, List.set_cons_succ, i64_w, i32_w]
                  rfl
                refine pure_ (i := 6) (N := some 84) (v := ?_) (a' := ?_) #[true, true, true, true, true, true, true, false, false, false, false, false, false, false, false, false, false, false, false, false, false, false, false, false, false, false, false, false] rfl rfl (by kernel_rfl) (fun _ _ _ h => h) (Or.inl ⟨by rfl, ?_⟩) ?_ ?_
                rotate_left
                · intro w'
                  go_simp
                  with_reducible rfl
                rotate_left
                · simp only [Act.put, List.setIfInBounds_toArray, List.set_cons_zero, List.set_cons_succ, i64_w, i32_w]
                  rfl
                refine pure_ (i := 7) (N := some 85) (v := ?_) (a' := ?_) #[true, true, true, true, true, true, true, true, false, false, false, false, false, false, false, false, false, false, false, false, false, false, false, false, false, false, false, false] rfl rfl (by kernel_rfl) (fun _ _ _ h => h) (Or.inl ⟨by rfl, ?_⟩) ?_ ?_
                rotate_left
                · intro w'
                  go_simp
                  with_reducible rfl
                rotate_left
                · simp only [Act.put, List.setIfInBounds_toArray, List.set_cons_zero, List.set_cons_succ, i64_w, i32_w]
                  rfl
                refine pure_ (i := 8) (N := some 86) (v := ?_) (a' := ?_) #[true, true, true, true, true, true, true, true, true, false, false, false, false, false, false, false, false, false, false, false, false, false, false, false, false, false, false, false] rfl rfl (by kernel_rfl) (fun _ _ _ h => h) (Or.inl ⟨by rfl, ?_⟩) ?_ ?_
                rotate_left
                · intro w'
                  go_simp
                  with_reducible rfl
                rotate_left
                · simp only [Act.put, List.setIfInBounds_toArray, List.set_cons_zero, List.set_cons_succ, i64_w, i32_w]
                  rfl
                refine pure_ (i := 9) (N := some 87) (v := ?_) (a' := ?_) #[true, true, true, true, true, true, true, true, true, true, false, false, false, false, false, false, false, false, false, false, false, false, false, false, false, false, false, false] rfl rfl (by kernel_rfl) (fun _ _ _ h => h) (Or.inl ⟨by rfl, ?_⟩) ?_ ?_
                rotate_left
                · intro w'
                  go_simp
                  with_reducible rfl
                rotate_left
                · simp only [Act.put, List.setIfInBounds_toArray, List.set_cons_zero, List.set_cons_succ, i64_w, i32_w]
                  rfl
                refine pure_ (i := 10) (N := some 88) (v := ?_) (a' := ?_) #[true, true, true, true, true, true, true, true, true, true, true, false, false, false, false, false, false, false, false, false, false, false, false, false, false, false, false, false] rfl rfl (by kernel_rfl) (fun _ _ _ h => h) (Or.inl ⟨by rfl, ?_⟩) ?_ ?_
                rotate_left
                · intro w'
                  go_simp
                  with_reducible rfl
                rotate_left
                · simp only [Act.put, List.setIfInBounds_toArray, List.set_cons_zero, List.set_cons_succ, i64_w, i32_w]
                  rfl
                refine pure_ (i := 11) (N := some 89) (v := undef) (a' := ?_) #[true, true, true, true, true, true, true, true, true, true, true, true, false, false, false, false, false, false, false, false, false, false, false, false, false, false, false, false] rfl rfl (by kernel_rfl) (fun _ _ _ h => h) (Or.inr ⟨by rfl, rfl⟩) ?_ ?_
                rotate_left
                · simp only [Act.put, List.setIfInBounds_toArray, List.set_cons_zero, List.set_cons_succ, i64_w, i32_w]
                  rfl
                refine pure_ (i := 12) (N := some 90) (v := undef) (a' := ?_) #[true, true, true, true, true, true, true, true, true, true, true, true, true, false, false, false, false, false, false, false, false, false, false, false, false, false, false, false] rfl rfl (by kernel_rfl) (fun _ _ _ h => h) (Or.inr ⟨by rfl, rfl⟩) ?_ ?_
                rotate_left
                · simp only [Act.put, List.setIfInBounds_toArray, List.set_cons_zero, List.set_cons_succ, i64_w, i32_w]
                  rfl
                refine pure_ (i := 13) (N := some 91) (v := undef) (a' := ?_) #[true, true, true, true, true, true, true, true, true, true, true, true, true, true, false, false, false, false, false, false, false, false, false, false, false, false, false, false] rfl rfl (by kernel_rfl) (fun _ _ _ h => h) (Or.inr ⟨by rfl, rfl⟩) ?_ ?_
                rotate_left
                · simp only [Act.put, List.setIfInBounds_toArray, List.set_cons_zero, List.set_cons_succ, i64_w, i32_w]
                  rfl
                refine pure_ (i := 14) (N := some 92) (v := undef) (a' := ?_) #[true, true, true, true, true, true, true, true, true, true, true, true, true, true, true, false, false, false, false, false, false, false, false, false, false, false, false, false] rfl rfl (by kernel_rfl) (fun _ _ _ h => h) (Or.inr ⟨by rfl, rfl⟩) ?_ ?_
                rotate_left
                · simp only [Act.put, List.setIfInBounds_toArray, List.set_cons_zero, List.set_cons_succ, i64_w, i32_w]
                  rfl
                refine pure_ (i := 15) (N := some 93) (v := undef) (a' := ?_) #[true, true, true, true, true, true, true, true, true, true, true, true, true, true, true, true, false, false, false, false, false, false, false, false, false, false, false, false] rfl rfl (by kernel_rfl) (fun _ _ _ h => h) (Or.inr ⟨by rfl, rfl⟩) ?_ ?_
                rotate_left
                · simp only [Act.put, List.setIfInBounds_toArray, List.set_cons_zero, List.set_cons_succ, i64_w, i32_w]
                  rfl
                refine pure_ (i := 16) (N := some 94) (v := undef) (a' := ?_) #[true, true, true, true, true, true, true, true, true, true, true, true, true, true, true, true, true, false, false, false, false, false, false, false, false, false, false, false] rfl rfl (by kernel_rfl) (fun _ _ _ h => h) (Or.inr ⟨by rfl, rfl⟩) ?_ ?_
                rotate_left
                · simp only [Act.put, List.setIfInBounds_toArray, List.set_cons_zero, List.set_cons_succ, i64_w, i32_w]
                  rfl
                refine pure_ (i := 17) (N := some 95) (v := undef) (a' := ?_) #[true, true, true, true, true, true, true, true, true, true, true, true, true, true, true, true, true, true, false, false, false, false, false, false, false, false, false, false] rfl rfl (by kernel_rfl) (fun _ _ _ h => h) (Or.inr ⟨by rfl, rfl⟩) ?_ ?_
                rotate_left
                · simp only [Act.put, List.setIfInBounds_toArray, List.set_cons_zero, List.set_cons_succ, i64_w, i32_w]
                  rfl
                refine pure_ (i := 18) (N := some 96) (v := undef) (a' := ?_) #[true, true, true, true, true, true, true, true, true, true, true, true, true, true, true, true, true, true, true, false, false, false, false, false, false, false, false, false] rfl rfl (by kernel_rfl) (fun _ _ _ h => h) (Or.inr ⟨by rfl, rfl⟩) ?_ ?_
                rotate_left
                · simp only [Act.put, List.setIfInBounds_toArray, List.set_cons_zero, List.set_cons_succ, i64_w, i32_w]
                  rfl
                refine pure_ (i := 19) (N := some 97) (v := undef) (a' := ?_) #[true, true, true, true, true, true, true, true, true, true, true, true, true, true, true, true, true, true, true, true, false, false, false, false, false, false, false, false] rfl rfl (by kernel_rfl) (fun _ _ _ h => h) (Or.inr ⟨by rfl, rfl⟩) ?_ ?_
                rotate_left
                · simp only [Act.put, List.setIfInBounds_toArray, List.set_cons_zero, List.set_cons_succ, i64_w, i32_w]
                  rfl
                refine pure_ (i := 20) (N := some 98) (v := undef) (a' := ?_) #[true, true, true, true, true, true, true, true, true, true, true, true, true, true, true, true, true, true, true, true, true, false, false, false, false, false, false, false] rfl rfl (by kernel_rfl) (fun _ _ _ h => h) (Or.inr ⟨by rfl, rfl⟩) ?_ ?_
                rotate_left
                · simp only [Act.put, List.setIfInBounds_toArray, List.set_cons_zero, List.set_cons_succ, i64_w, i32_w]
                  rfl
                refine pure_ (i := 21) (N := some 99) (v := undef) (a' := ?_) #[true, true, true, true, true, true, true, true, true, true, true, true, true, true, true, true, true, true, true, true, true, true, false, false, false, false, false, false] rfl rfl (by kernel_rfl) (fun _ _ _ h => h) (Or.inr ⟨by rfl, rfl⟩) ?_ ?_
                rotate_left
                · simp only [Act.put, List.setIfInBounds_toArray, List.set_cons_zero, List.set_cons_succ, i64_w, i32_w]
                  rfl
                refine pure_ (i := 22) (N := some 100) (v := undef) (a' := ?_) #[true, true, true, true, true, true, true, true, true, true, true, true, true, true, true, true, true, true, true, true, true, true, true, false, false, false, false, false] rfl rfl (by kernel_rfl) (fun _ _ _ h => h) (Or.inr ⟨by rfl, rfl⟩) ?_ ?_
                rotate_left
                · simp only [Act.put, List.setIfInBounds_toArray, List.set_cons_zero, List.set_cons_succ, i64_w, i32_w]
                  rfl
                refine pure_ (i := 23) (N := some 101) (v := undef) (a' := ?_) #[true, true, true, true, true, true, true, true, true, true, true, true, true, true, true, true, true, true, true, true, true, true, true, true, false, false, false, false] rfl rfl (by kernel_rfl) (fun _ _ _ h => h) (Or.inr ⟨by rfl, rfl⟩) ?_ ?_
                rotate_left
                · simp only [Act.put, List.setIfInBounds_toArray, List.set_cons_zero, List.set_cons_succ, i64_w, i32_w]
                  rfl
                refine pure_ (i := 24) (N := some 102) (v := undef) (a' := ?_) #[true, true, true, true, true, true, true, true, true, true, true, true, true, true, true, true, true, true, true, true, true, true, true, true, true, false, false, false] rfl rfl (by kernel_rfl) (fun _ _ _ h => h) (Or.inr ⟨by rfl, rfl⟩) ?_ ?_
                rotate_left
                · simp only [Act.put, List.setIfInBounds_toArray, List.set_cons_zero, List.set_cons_succ, i64_w, i32_w]
                  rfl
                refine pure_ (i := 25) (N := some 103) (v := undef) (a' := ?_) #[true, true, true, true, true, true, true, true, true, true, true, true, true, true, true, true, true, true, true, true, true, true, true, true, true, true, false, false] rfl rfl (by kernel_rfl) (fun _ _ _ h => h) (Or.inr ⟨by rfl, rfl⟩) ?_ ?_
                rotate_left
                · simp only [Act.put, List.setIfInBounds_toArray, List.set_cons_zero, List.set_cons_succ, i64_w, i32_w]
                  rfl
                refine pure_ (i := 26) (N := some 104) (v := ?_) (a' := ?_) #[true, true, true, true, true, true, true, true, true, true, true, true, true, true, true, true, true, true, true, true, true, true, true, true, true, true, true, false] rfl rfl (by kernel_rfl) (fun _ _ _ h => h) (Or.inl ⟨by rfl, ?_⟩) ?_ ?_
                rotate_left
                · intro w'
                  go_simp
                  with_reducible rfl
                rotate_left
                · simp only [Act.put, List.setIfInBounds_toArray, List.set_cons_zero, List.set_cons_succ, i64_w, i32_w]
                  rfl
                refine pure_ (i := 27) (N := some 105) (v := ?_) (a' := ?_) #[true, true, true, true, true, true, true, true, true, true, true, true, true, true, true, true, true, true, true, true, true, true, true, true, true, true, true, true] rfl rfl (by kernel_rfl) (fun _ _ _ h => h) (Or.inl ⟨by rfl, ?_⟩) ?_ ?_
                rotate_left
                · intro w'
                  go_simp
                  with_reducible rfl
                rotate_left
                · simp only [Act.put, List.setIfInBounds_toArray, List.set_cons_zero, List.set_cons_succ, i64_w, i32_w]
                  rfl
                refine done_ (by kernel_rfl) ?_
                go_wp2
                go_roundg k1
                case measure => have := HJ.out; omega
                case rel => exact ⟨1, rfl, ⟨by have := HJ.out; omega⟩, ⟨by rw [if_neg (by decide), HROW.out]; exact HRS.out⟩, ⟨fun _ => ⟨row, HROW.out, by have e1 := (by first | exact HFL2.out rfl | exact HFL2.out trivial); have e2 := GC1.out; omega⟩⟩, ⟨by repeat (first | (with_reducible first | exact HB.out | apply bal | apply pbd | apply bd1) | exact HB.out)⟩⟩
              case neg =>
                obtain ⟨qrow, hq1, hq2⟩ := HQ.out hj
                have d4 : decide (0 < (j : Int)) = true := decide_eq_true (by omega)
                have d5 : decide (0 < j) = true := decide_eq_true (by omega)
                obtain ⟨ji, hji⟩ : ∃ ji : Int, wrap64 ((j : Int) - 1) = ji := ⟨_, rfl⟩
                have hji1 : ji = ((j - 1 : Nat) : Int) := by rw [← hji]; have := GR.out; unfold wrap64; omega
                have hjiw : (IntKind.i64.wrap ((j : Int) - 1)) = ji := (i64_w _).trans hji
                have p152 : 0 ≤ ji := by omega
                have q152 : ji < (rows.length : Int) := by omega
                obtain ⟨ad152, A152, c152, e152, hx152, hl152, hi152⟩ := at_L10 HR2.out ji p152 q152
                have hqr : rd_L10 rows ji = qrow := by
                  unfold rd_L10
                  rw [hji1, Int.toNat_natCast, List.getD_eq_getElem?_getD, hq1]; rfl
                rw [hqr] at hx152 hl152 hi152
                obtain rfl : ad147 = ad152 := by injection e152
                obtain ⟨ad153, e153, hx153_0, hx153_1, hx153_2⟩ := at_T57 hi152 0 (by omega) (by omega)
                obtain ⟨ad154, e154, hx154_0, hx154_1, hx154_2⟩ := at_T57 HR147.out 0 (by omega) (by have e1 := (by first | exact HFL2.out rfl | exact HFL2.out trivial); have e2 := GC1.out; omega)
                subst e153
                subst e154
                obtain ⟨va, hva⟩ : ∃ v, rd_T57 qrow 0 = v := ⟨_, rfl⟩
                obtain ⟨vb, hvb⟩ : ∃ v, rd_T57 row 0 = v := ⟨_, rfl⟩
                rw [hva] at hx153_0 hx153_1 hx153_2
                rw [hvb] at hx154_0 hx154_1 hx154_2
                (try rw [show ((0 : Int)).toNat = 0 from rfl] at hx153_0)
                (try rw [show 0 * 3 = 0 from rfl] at hx153_0)
                (try rw [Addr.add_zero'] at hx153_0)
                (try rw [show ((0 : Int)).toNat = 0 from rfl] at hx153_1)
                (try rw [show 0 * 3 = 0 from rfl] at hx153_1)
                (try rw [Addr.add_zero'] at hx153_1)
                (try rw [show ((0 : Int)).toNat = 0 from rfl] at hx153_2)
                (try rw [show 0 * 3 = 0 from rfl] at hx153_2)
                (try rw [Addr.add_zero'] at hx153_2)
                (try rw [show ((0 : Int)).toNat = 0 from rfl] at hx154_0)
                (try rw [show 0 * 3 = 0 from rfl] at hx154_0)
                (try rw [Addr.add_zero'] at hx154_0)
                (try rw [show ((0 : Int)).toNat = 0 from rfl] at hx154_1)
                (try rw [show 0 * 3 = 0 from rfl] at hx154_1)
                (try rw [Addr.add_zero'] at hx154_1)
                (try rw [show ((0 : Int)).toNat = 0 from rfl] at hx154_2)
                (try rw [show 0 * 3 = 0 from rfl] at hx154_2)
                (try rw [Addr.add_zero'] at hx154_2)
                have HX152 := Aside0.mk hx152
                have HX153_0 := Aside0.mk hx153_0
                have HX153_1 := Aside0.mk hx153_1
                have HX153_2 := Aside0.mk hx153_2
                have HX154_0 := Aside0.mk hx154_0
                have HX154_1 := Aside0.mk hx154_1
                have HX154_2 := Aside0.mk hx154_2
                have qi153 : (0 < qrow.length) = True := eq_true (by omega)
                have qi154 : (0 < row.length) = True := eq_true (by have e1 := (by first | exact HFL2.out rfl | exact HFL2.out trivial); have e2 := GC1.out; omega)
                have hr' := HRR.out
                rw [if_neg hj, hq1, rowsGo_some, hfr, Bool.true_and] at hr'
                have hll := fun w' => HL.out w' va vb
                have eva : qrow.getD 0 z57 = va := by rw [← hva]; rfl
                have evb : row.getD 0 z57 = vb := by rw [← hvb]; rfl
                rw [eva, evb] at hr'
                obtain ⟨lr, hlr⟩ : ∃ lr, less va vb = lr := ⟨_, rfl⟩
                rw [hlr] at hr' hll
                have HLL := Aside0.mk hll
                replace p152 := eq_true p152
                replace q152 := eq_true q152
                have HJI := Aside0.mk hji1
                clear hll eva evb hlr hva hvb hqr e152 HRR hq1 hq2 hl152 hi152 hx152 hx153_0 hx153_1 hx153_2 hx154_0 hx154_1 hx154_2 hji hji1
                cases lr with
                | false =>
                  obtain rfl : r = false := by rw [← hr', Bool.false_and]
                  clear hr'
                  refine start_ (n := 28) (S := (fun w' => w'.cell? ⟨p.block, p.off + 1, none⟩ = some (.slice A1 cols.length c1) ∧ w'.cell? ⟨p.block, p.off + 2, none⟩ = some (.slice (some ad147) rows.length c2) ∧ w'.cell? (ad147.add ji.toNat) = some (.slice (some ad153) qrow.length c152) ∧ w'.cell? ad153 = some (.int .i64 va.f0) ∧ w'.cell? ⟨ad153.block, ad153.off + 1, none⟩ = some (.int .i64 va.f1) ∧ w'.cell? ⟨ad153.block, ad153.off + 2, none⟩ = some (.string va.f2) ∧ w'.cell? ad154 = some (.int .i64 vb.f0) ∧ w'.cell? ⟨ad154.block, ad154.off + 1, none⟩ = some (.int .i64 vb.f1) ∧ w'.cell? ⟨ad154.block, ad154.off + 2, none⟩ = some (.string vb.f2))) (ds := []) #[false, false, false, false, false, false, false, false, false, false, false, false, false, false, false, false, false, false, false, false, false, false, false, false, false, false, false, false] (by kernel_rfl) rfl rfl ⟨(HB.out.cell (World.block_lt_of_cell? w _ H1.out)).trans H1.out, (HB.out.cell (World.block_lt_of_cell? w _ H2.out)).trans H2.out, (HB.out.cell (World.block_lt_of_cell? w _ HX152.out)).trans HX152.out, (HB.out.cell (World.block_lt_of_cell? w _ HX153_0.out)).trans HX153_0.out, (HB.out.cell (World.block_lt_of_cell? w _ HX153_1.out)).trans HX153_1.out, (HB.out.cell (World.block_lt_of_cell? w _ HX153_2.out)).trans HX153_2.out, (HB.out.cell (World.block_lt_of_cell? w _ HX154_0.out)).trans HX154_0.out, (HB.out.cell (World.block_lt_of_cell? w _ HX154_1.out)).trans HX154_1.out, (HB.out.cell (World.block_lt_of_cell? w _ HX154_2.out)).trans HX154_2.out⟩ (fun hHeld => ?_)
                  refine pure_ (i := 0) (N := some 78) (v := ?_) (a' := ?_) #[true, false, false, false, false, false, false, false, false, false, false, false, false, false, false, false, false, false, false, false, false, false, false, false, false, false, false, false] rfl rfl (by kernel_rfl) (fun _ _ _ h => h) (Or.inl ⟨by rfl, ?_⟩) ?_ ?_
                  rotate_left
                  · intro w'
                    go_simp
                    with_reducible rfl
                  rotate_left
                  · simp only [Act.put, List.setIfInBounds_toArray, List.set_cons_zero, List.set_cons_succ, i64_w, i32_w]
                    rfl
                  refine pure_ (i := 1) (N := some 79) (v := ?_) (a' := ?_) #[true, true, false, false, false, false, false, false, false, false, false, false, false, false, false, false, false, false, false, false, false, false, false, false, false, false, false, false] rfl rfl (by kernel_rfl) (fun _ _ _ h => h) (Or.inl ⟨by rfl, ?_⟩) ?_ ?_
                  rotate_left
                  · intro w'
                    go_simp
                    with_reducible rfl
                  rotate_left
                  · simp only [Act.put, List.setIfInBounds_toArray, List.set_cons_zero, List.set_cons_succ, i64_w, i32_w]
                    rfl
                  refine pure_ (i := 2) (N := some 80) (v := ?_) (a' := ?_) #[true, true, true, false, false, false, false, false, false, false, false, false, false, false, false, false, false, false, false, false, false, false, false, false, false, false, false, false] rfl rfl (by kernel_rfl) (fun _ _ _ h => h) (Or.inl ⟨by rfl, ?_⟩) ?_ ?_
                  rotate_left
                  · intro w'
                    go_simp
                    with_reducible rfl
                  rotate_left
                  · simp only [Act.put, List.setIfInBounds_toArray, List.set_cons_zero, List.set_cons_succ, i64_w, i32_w]
                    rfl
                  refine take_ (i := 3) (N := some 81) (v := ?_) (a' := ?_) #[true, true, true, true, false, false, false, false, false, false, false, false, false, false, false, false, false, false, false, false, false, false, false, false, false, false, false, false] rfl rfl (by kernel_rfl) (fun _ _ _ h => h) (Or.inl ⟨by rfl, ?_⟩) hHeld ?_ ?_
                  rotate_left
                  · rintro w' ⟨s0, s1, s2, s3, s4, s5, s6, s7, s8⟩
                    go_simp
                    with_reducible rfl
                  rotate_left
                  · simp only [Act.put, List.setIfInBounds_toArray, List.set_cons_zero, List.set_cons_succ, i64_w, i32_w]
                    rfl
                  refine pure_ (i := 4) (N := some 82) (v := ?_) (a' := ?_) #[true, true, true, true, true, false, false, false, false, false, false, false, false, false, false, false, false, false, false, false, false, false, false, false, false, false, false, false] rfl rfl (by kernel_rfl) (fun _ _ _ h => h) (Or.inl ⟨by rfl, ?_⟩) ?_ ?_
                  rotate_left
                  · intro w'
                    go_simp
                    with_reducible rfl
                  rotate_left
                  · simp only [Act.put, List.setIfInBounds_toArray, List.set_cons_zero, List.set_cons_succ, i64_w, i32_w]
                    rfl
                  refine one_ (i := 5) (N := some 83) #[true, true, true, true, true, true, false, false, false, false, false, false, false, false, false, false, false, false, false, false, false, false, false, false, false, false, false, false] rfl rfl (by kernel_rfl) (by decide) (fun K hK => ?_)
                  refine goes_ Tryd.func25 (by kernel_rfl) rfl #[.slice A1 cols.length c1, .slice (some ad154) row.length c147] (by rfl) rfl rfl (by (try simp only [List.map_toArray, List.map_cons, List.map_nil]); first | done | rfl) ?_
                  with_reducible refine (HFR.out _ (some ad154) c147 HC147.out HR147.out HB.out).mono ?_
                  rintro e wc ⟨rfl, hb⟩
                  refine ⟨_, rfl, ?_⟩
                  have HBa_ := Aside0.mk (bst HB.out hb)
                  clear HB hb
                  have HB := HBa_
                  clear HBa_
                  refine hK.out _ _ ⟨(HB.out.cell (World.block_lt_of_cell? w _ H1.out)).trans H1.out, (HB.out.cell (World.block_lt_of_cell? w _ H2.out)).trans H2.out, (HB.out.cell (World.block_lt_of_cell? w _ HX152.out)).trans HX152.out, (HB.out.cell (World.block_lt_of_cell? w _ HX153_0.out)).trans HX153_0.out, (HB.out.cell (World.block_lt_of_cell? w _ HX153_1.out)).trans HX153_1.out, (HB.out.cell (World.block_lt_of_cell? w _ HX153_2.out)).trans HX153_2.out, (HB.out.cell (World.block_lt_of_cell? w _ HX154_0.out)).trans HX154_0.out, (HB.out.cell (World.block_lt_of_cell? w _ HX154_1.out)).trans HX154_1.out, (HB.out.cell (World.block_lt_of_cell? w _ HX154_2.out)).trans HX154_2.out⟩ (fun hHeld => ?_)
                  clear hK K
                  refine norm_ (a' := ?_) ?_ ?_
                  rotate_left
                  · show Act.put _ (some 83) _ = _
                    simp only [Act.put, List.setIfInBounds_toArray, List.set_cons_zero, List.set_cons_succ, i64_w, i32_w]
                    rfl
                  refine pure_ (i := 6) (N := some 84) (v := ?_) (a' := ?_) #[true, true, true, true, true, true, true, false, false, false, false, false, false, false, false, false, false, false, false, false, false, false, false, false, false, false, false, false] rfl rfl (by kernel_rfl) (fun _ _ _ h => h) (Or.inl ⟨by rfl, ?_⟩) ?_ ?_
                  rotate_left
                  · intro w'
                    go_simp
                    with_reducible rfl
                  rotate_left
                  · simp only [Act.put, List.setIfInBounds_toArray, List.set_cons_zero, List.set_cons_succ, i64_w, i32_w]
                    rfl
                  refine pure_ (i := 7) (N := some 85) (v := ?_) (a' := ?_) #[true, true, true, true, true, true, true, true, false, false, false, false, false, false, false, false, false, false, false, false, false, false, false, false, false, false, false, false] rfl rfl (by kernel_rfl) (fun _ _ _ h => h) (Or.inl ⟨by rfl, ?_⟩) ?_ ?_
                  rotate_left
                  · intro w'
                    go_simp
                    with_reducible rfl
                  rotate_left
                  · simp only [Act.put, List.setIfInBounds_toArray, List.set_cons_zero, List.set_cons_succ, i64_w, i32_w]
                    rfl
                  refine pure_ (i := 8) (N := some 86) (v := ?_) (a' := ?_) #[true, true, true, true, true, true, true, true, true, false, false, false, false, false, false, false, false, false, false, false, false, false, false, false, false, false, false, false] rfl rfl (by kernel_rfl) (fun _ _ _ h => h) (Or.inl ⟨by rfl, ?_⟩) ?_ ?_
                  rotate_left
                  · intro w'
                    go_simp
                    with_reducible rfl
                  rotate_left
                  · simp only [Act.put, List.setIfInBounds_toArray, List.set_cons_zero, List.set_cons_succ, i64_w, i32_w]
                    rfl
                  refine pure_ (i := 9) (N := some 87) (v := ?_) (a' := ?_) #[true, true, true, true, true, true, true, true, true, true, false, false, false, false, false, false, false, false, false, false, false, false, false, false, false, false, false, false] rfl rfl (by kernel_rfl) (fun _ _ _ h => h) (Or.inl ⟨by rfl, ?_⟩) ?_ ?_
                  rotate_left
                  · intro w'
                    go_simp
                    with_reducible rfl
                  rotate_left
                  · simp only [Act.put, List.setIfInBounds_toArray, List.set_cons_zero, List.set_cons_succ, i64_w, i32_w]
                    rfl
                  refine pure_ (i := 10) (N := some 88) (v := ?_) (a' := ?_) #[true, true, true, true, true, true, true, true, true, true, true, false, false, false, false, false, false, false, false, false, false, false, false, false, false, false, false, false] rfl rfl (by kernel_rfl) (fun _ _ _ h => h) (Or.inl ⟨by rfl, ?_⟩) ?_ ?_
                  rotate_left
                  · intro w'
                    go_simp
                    with_reducible rfl
                  rotate_left
                  · simp only [Act.put, List.setIfInBounds_toArray, List.set_cons_zero, List.set_cons_succ, i64_w, i32_w]
                    rfl
                  refine pure_ (i := 11) (N := some 89) (v := ?_) (a' := ?_) #[true, true, true, true, true, true, true, true, true, true, true, true, false, false, false, false, false, false, false, false, false, false, false, false, false, false, false, false] rfl rfl (by kernel_rfl) (fun _ _ _ h => h) (Or.inl ⟨by rfl, ?_⟩) ?_ ?_
                  rotate_left
                  · intro w'
                    go_simp
                    with_reducible rfl
                  rotate_left
                  · simp only [Act.put, List.setIfInBounds_toArray, List.set_cons_zero, List.set_cons_succ, i64_w, i32_w]
                    rfl
                  refine pure_ (i := 12) (N := some 90) (v := ?_) (a' := ?_) #[true, true, true, true, true, true, true, true, true, true, true, true, true, false, false, false, false, false, false, false, false, false, false, false, false, false, false, false] rfl rfl (by kernel_rfl) (fun _ _ _ h => h) (Or.inl ⟨by rfl, ?_⟩) ?_ ?_
                  rotate_left
                  · intro w'
                    go_simp
                    with_reducible rfl
                  rotate_left
                  · simp only [Act.put, List.setIfInBounds_toArray, List.set_cons_zero, List.set_cons_succ, i64_w, i32_w]
                    rfl
                  refine pure_ (i := 13) (N := some 91) (v := ?_) (a' := ?_) #[true, true, true, true, true, true, true, true, true, true, true, true, true, true, false, false, false, false, false, false, false, false, false, false, false, false, false, false] rfl rfl (by kernel_rfl) (fun _ _ _ h => h) (Or.inl ⟨by rfl, ?_⟩) ?_ ?_
                  rotate_left
                  · intro w'
                    go_simp
                    with_reducible rfl
                  rotate_left
                  · simp only [Act.put, List.setIfInBounds_toArray, List.set_cons_zero, List.set_cons_succ, i64_w, i32_w]
                    rfl
                  refine take_ (i := 14) (N := some 92) (v := ?_) (a' := ?_) #[true, true, true, true, true, true, true, true, true, true, true, true, true, true, true, false, false, false, false, false, false, false, false, false, false, false, false, false] rfl rfl (by kernel_rfl) (fun _ _ _ h => h) (Or.inl ⟨by rfl, ?_⟩) hHeld ?_ ?_
                  rotate_left
                  · rintro w' ⟨s0, s1, s2, s3, s4, s5, s6, s7, s8⟩
                    go_simp
                    with_reducible rfl
                  rotate_left
                  · simp only [Act.put, List.setIfInBounds_toArray, List.set_cons_zero, List.set_cons_succ, i64_w, i32_w]
                    rfl
                  refine pure_ (i := 15) (N := some 93) (v := ?_) (a' := ?_) #[true, true, true, true, true, true, true, true, true, true, true, true, true, true, true, true, false, false, false, false, false, false, false, false, false, false, false, false] rfl rfl (by kernel_rfl) (fun _ _ _ h => h) (Or.inl ⟨by rfl, ?_⟩) ?_ ?_
                  rotate_left
                  · intro w'
                    go_simp
                    with_reducible rfl
                  rotate_left
                  · simp only [Act.put, List.setIfInBounds_toArray, List.set_cons_zero, List.set_cons_succ, i64_w, i32_w]
                    rfl
                  refine pure_ (i := 16) (N := some 94) (v := ?_) (a' := ?_) #[true, true, true, true, true, true, true, true, true, true, true, true, true, true, true, true, true, false, false, false, false, false, false, false, false, false, false, false] rfl rfl (by kernel_rfl) (fun _ _ _ h => h) (Or.inl ⟨by rfl, ?_⟩) ?_ ?_
                  rotate_left
                  · intro w'
                    go_simp
                    with_reducible rfl
                  rotate_left
                  · simp only [Act.put, List.setIfInBounds_toArray, List.set_cons_zero, List.set_cons_succ, i64_w, i32_w]
                    rfl
                  refine pure_ (i := 17) (N := some 95) (v := ?_) (a' := ?_) #[true, true, true, true, true, true, true, true, true, true, true, true, true, true, true, true, true, true, false, false, false, false, false, false, false, false, false, false] rfl rfl (by kernel_rfl) (fun _ _ _ h => h) (Or.inl ⟨by rfl, ?_⟩) ?_ ?_
                  rotate_left
                  · intro w'
                    go_simp
                    with_reducible rfl
                  rotate_left
                  · simp only [Act.put, List.setIfInBounds_toArray, List.set_cons_zero, List.set_cons_succ, i64_w, i32_w]
                    rfl
                  refine take_ (i := 18) (N := some 96) (v := ?_) (a' := ?_) #[true, true, true, true, true, true, true, true, true, true, true, true, true, true, true, true, true, true, true, false, false, false, false, false, false, false, false, false] rfl rfl (by kernel_rfl) (fun _ _ _ h => h) (Or.inl ⟨by rfl, ?_⟩) hHeld ?_ ?_
                  rotate_left
                  · rintro w' ⟨s0, s1, s2, s3, s4, s5, s6, s7, s8⟩
                    go_simp
                    with_reducible rfl
                  rotate_left
                  · simp only [Act.put, List.setIfInBounds_toArray, List.set_cons_zero, List.set_cons_succ, i64_w, i32_w]
                    rfl
                  refine pure_ (i := 19) (N := some 97) (v := ?_) (a' := ?_) #[true, true, true, true, true, true, true, true, true, true, true, true, true, true, true, true, true, true, true, true, false, false, false, false, false, false, false, false] rfl rfl (by kernel_rfl) (fun _ _ _ h => h) (Or.inl ⟨by rfl, ?_⟩) ?_ ?_
                  rotate_left
                  · intro w'
                    go_simp
                    with_reducible rfl
                  rotate_left
                  · simp only [Act.put, List.setIfInBounds_toArray, List.set_cons_zero, List.set_cons_succ, i64_w, i32_w]
                    rfl
                  refine take_ (i := 20) (N := some 98) (v := ?_) (a' := ?_) #[true, true, true, true, true, true, true, true, true, true, true, true, true, true, true, true, true, true, true, true, true, false, false, false, false, false, false, false] rfl rfl (by kernel_rfl) (fun _ _ _ h => h) (Or.inl ⟨by rfl, ?_⟩) hHeld ?_ ?_
                  rotate_left
                  · rintro w' ⟨s0, s1, s2, s3, s4, s5, s6, s7, s8⟩
                    go_simp
                    with_reducible rfl
                  rotate_left
                  · simp only [Act.put, List.setIfInBounds_toArray, List.set_cons_zero, List.set_cons_succ, i64_w, i32_w]
                    rfl
                  refine pure_ (i := 21) (N := some 99) (v := ?_) (a' := ?_) #[true, true, true, true, true, true, true, true, true, true, true, true, true, true, true, true, true, true, true, true, true, true, false, false, false, false, false, false] rfl rfl (by kernel_rfl) (fun _ _ _ h => h) (Or.inl ⟨by rfl, ?_⟩) ?_ ?_
                  rotate_left
                  · intro w'
                    go_simp
                    with_reducible rfl
                  rotate_left
                  · simp only [Act.put, List.setIfInBounds_toArray, List.set_cons_zero, List.set_cons_succ, i64_w, i32_w]
                    rfl
                  refine pure_ (i := 22) (N := some 100) (v := ?_) (a' := ?_) #[true, true, true, true, true, true, true, true, true, true, true, true, true, true, true, true, true, true, true, true, true, true, true, false, false, false, false, false] rfl rfl (by kernel_rfl) (fun _ _ _ h => h) (Or.inl ⟨by rfl, ?_⟩) ?_ ?_
                  rotate_left
                  · intro w'
                    go_simp
                    with_reducible rfl
                  rotate_left
                  · simp only [Act.put, List.setIfInBounds_toArray, List.set_cons_zero, List.set_cons_succ, i64_w, i32_w]
                    rfl
                  refine take_ (i := 23) (N := some 101) (v := ?_) (a' := ?_) #[true, true, true, true, true, true, true, true, true, true, true, true, true, true, true, true, true, true, true, true, true, true, true, true, false, false, false, false] rfl rfl (by kernel_rfl) (fun _ _ _ h => h) (Or.inl ⟨by rfl, ?_⟩) hHeld ?_ ?_
                  rotate_left
                  · rintro w' ⟨s0, s1, s2, s3, s4, s5, s6, s7, s8⟩
                    go_simp
                    with_reducible rfl
                  rotate_left
                  · simp only [Act.put, List.setIfInBounds_toArray, List.set_cons_zero, List.set_cons_succ, i64_w, i32_w]
                    rfl
                  refine one_ (i := 24) (N := some 102) #[true, true, true, true, true, true, true, true, true, true, true, true, true, true, true, true, true, true, true, true, true, true, true, true, true, false, false, false] rfl rfl (by kernel_rfl) (by decide) (fun K hK => ?_)
                  refine goes_ Tryd.func26 (by kernel_rfl) rfl #[.agg #[.int .i64 va.f0, .int .i64 va.f1, .string va.f2], .agg #[.int .i64 vb.f0, .int .i64 vb.f1, .string vb.f2]] (by rfl) rfl rfl (by (try simp only [List.map_toArray, List.map_cons, List.map_nil]); first | done | rfl) ?_
                  with_reducible refine (HLL.out _).mono ?_
                  rintro e wc ⟨rfl, hb⟩
                  refine ⟨_, rfl, ?_⟩
                  have HBa_ := Aside0.mk (bst HB.out hb)
                  clear HB hb
                  have HB := HBa_
                  clear HBa_
                  refine hK.out _ _ ⟨(HB.out.cell (World.block_lt_of_cell? w _ H1.out)).trans H1.out, (HB.out.cell (World.block_lt_of_cell? w _ H2.out)).trans H2.out, (HB.out.cell (World.block_lt_of_cell? w _ HX152.out)).trans HX152.out, (HB.out.cell (World.block_lt_of_cell? w _ HX153_0.out)).trans HX153_0.out, (HB.out.cell (World.block_lt_of_cell? w _ HX153_1.out)).trans HX153_1.out, (HB.out.cell (World.block_lt_of_cell? w _ HX153_2.out)).trans HX153_2.out, (HB.out.cell (World.block_lt_of_cell? w _ HX154_0.out)).trans HX154_0.out, (HB.out.cell (World.block_lt_of_cell? w _ HX154_1.out)).trans HX154_1.out, (HB.out.cell (World.block_lt_of_cell? w _ HX154_2.out)).trans HX154_2.out⟩ (fun hHeld => ?_)
                  clear hK K
                  refine norm_ (a' := ?_) ?_ ?_
                  rotate_left
                  · show Act.put _ (some 102) _ = _
                    simp only [Act.put, List.setIfInBounds_toArray, List.set_cons_zero, List.set_cons_succ, i64_w, i32_w]
                    rfl
                  refine pure_ (i := 25) (N := some 103) (v := ?_) (a' := ?_) #[true, true, true, true, true, true, true, true, true, true, true, true, true, true, true, true, true, true, true, true, true, true, true, true, true, true, false, false] rfl rfl (by kernel_rfl) (fun _ _ _ h => h) (Or.inl ⟨by rfl, ?_⟩) ?_ ?_
                  rotate_left
                  · intro w'
                    go_simp
                    with_reducible rfl
                  rotate_left
                  · simp only [Act.put, List.setIfInBounds_toArray, List.set_cons_zero, List.set_cons_succ, i64_w, i32_w]
                    rfl
                  refine pure_ (i := 26) (N := some 104) (v := ?_) (a' := ?_) #[true, true, true, true, true, true, true, true, true, true, true, true, true, true, true, true, true, true, true, true, true, true, true, true, true, true, true, false] rfl rfl (by kernel_rfl) (fun _ _ _ h => h) (Or.inl ⟨by rfl, ?_⟩) ?_ ?_
                  rotate_left
                  · intro w'
                    go_simp
                    with_reducible rfl
                  rotate_left
                  · simp only [Act.put, List.setIfInBounds_toArray, List.set_cons_zero, List.set_cons_succ, i64_w, i32_w]
                    rfl
                  refine pure_ (i := 27) (N := some 105) (v := ?_) (a' := ?_) #[true, true, true, true, true, true, true, true, true, true, true, true, true, true, true, true, true, true, true, true, true, true, true, true, true, true, true, true] rfl rfl (by kernel_rfl) (fun _ _ _ h => h) (Or.inl ⟨by rfl, ?_⟩) ?_ ?_
                  rotate_left
                  · intro w'
                    go_simp
                    with_reducible rfl
                  rotate_left
                  · simp only [Act.put, List.setIfInBounds_toArray, List.set_cons_zero, List.set_cons_succ, i64_w, i32_w]
                    rfl
                  refine done_ (by kernel_rfl) ?_
                  go_wp2
                  go_ret
                  exact ⟨rfl, by repeat (first | (with_reducible first | exact HB.out | apply bal | apply pbd | apply bd1) | exact HB.out)⟩
                | true =>
                  rw [Bool.true_and] at hr'
                  have HRS := Aside0.mk hr'
                  clear hr'
                  refine start_ (n := 28) (S := (fun w' => w'.cell? ⟨p.block, p.off + 1, none⟩ = some (.slice A1 cols.length c1) ∧ w'.cell? ⟨p.block, p.off + 2, none⟩ = some (.slice (some ad147) rows.length c2) ∧ w'.cell? (ad147.add ji.toNat) = some (.slice (some ad153) qrow.length c152) ∧ w'.cell? ad153 = some (.int .i64 va.f0) ∧ w'.cell? ⟨ad153.block, ad153.off + 1, none⟩ = some (.int .i64 va.f1) ∧ w'.cell? ⟨ad153.block, ad153.off + 2, none⟩ = some (.string va.f2) ∧ w'.cell? ad154 = some (.int .i64 vb.f0) ∧ w'.cell? ⟨ad154.block, ad154.off + 1, none⟩ = some (.int .i64 vb.f1) ∧ w'.cell? ⟨ad154.block, ad154.off + 2, none⟩ = some (.string vb.f2))) (ds := []) #[false, false, false, false, false, false, false, false, false, false, false, false, false, false, false, false, false, false, false, false, false, false, false, false, false, false, false, false] (by kernel_rfl) rfl rfl ⟨(HB.out.cell (World.block_lt_of_cell? w _ H1.out)).trans H1.out, (HB.out.cell (World.block_lt_of_cell? w _ H2.out)).trans H2.out, (HB.out.cell (World.block_lt_of_cell? w _ HX152.out)).trans HX152.out, (HB.out.cell (World.block_lt_of_cell? w _ HX153_0.out)).trans HX153_0.out, (HB.out.cell (World.block_lt_of_cell? w _ HX153_1.out)).trans HX153_1.out, (HB.out.cell (World.block_lt_of_cell? w _ HX153_2.out)).trans HX153_2.out, (HB.out.cell (World.block_lt_of_cell? w _ HX154_0.out)).trans HX154_0.out, (HB.out.cell (World.block_lt_of_cell? w _ HX154_1.out)).trans HX154_1.out, (HB.out.cell (World.block_lt_of_cell? w _ HX154_2.out)).trans HX154_2.out⟩ (fun hHeld => ?_)
                  refine pure_ (i := 0) (N := some 78) (v := ?_) (a' := ?_) #[true, false, false, false, false, false, false, false, false, false, false, false, false, false, false, false, false, false, false, false, false, false, false, false, false, false, false, false] rfl rfl (by kernel_rfl) (fun _ _ _ h => h) (Or.inl ⟨by rfl, ?_⟩) ?_ ?_
                  rotate_left
                  · intro w'
                    go_simp
                    with_reducible rfl
                  rotate_left
                  · simp only [Act.put, List.setIfInBounds_toArray, List.set_cons_zero, List.set_cons_succ, i64_w, i32_w]
                    rfl
                  refine pure_ (i := 1) (N := some 79) (v := ?_) (a' := ?_) #[true, true, false, false, false, false, false, false, false, false, false, false, false, false, false, false, false, false, false, false, false, false, false, false, false, false, false, false] rfl rfl (by kernel_rfl) (fun _ _ _ h => h) (Or.inl ⟨by rfl, ?_⟩) ?_ ?_
                  rotate_left
                  · intro w'
                    go_simp
                    with_reducible rfl
                  rotate_left
                  · simp only [Act.put, List.setIfInBounds_toArray, List.set_cons_zero, List.set_cons_succ, i64_w, i32_w]
                    rfl
                  refine pure_ (i := 2) (N := some 80) (v := ?_) (a' := ?_) #[true, true, true, false, false, false, false, false, false, false, false, false, false, false, false, false, false, false, false, false, false, false, false, false, false, false, false, false] rfl rfl (by kernel_rfl) (fun _ _ _ h => h) (Or.inl ⟨by rfl, ?_⟩) ?_ ?_
                  rotate_left
                  · intro w'
                    go_simp
                    with_reducible rfl
                  rotate_left
                  · simp only [Act.put, List.setIfInBounds_toArray, List.set_cons_zero, List.set_cons_succ, i64_w, i32_w]
                    rfl
                  refine take_ (i := 3) (N := some 81) (v := ?_) (a' := ?_) #[true, true, true, true, false, false, false, false, false, false, false, false, false, false, false, false, false, false, false, false, false, false, false, false, false, false, false, false] rfl rfl (by kernel_rfl) (fun _ _ _ h => h) (Or.inl ⟨by rfl, ?_⟩) hHeld ?_ ?_
                  rotate_left
                  · rintro w' ⟨s0, s1, s2, s3, s4, s5, s6, s7, s8⟩
                    go_simp
                    with_reducible rfl
                  rotate_left
                  · simp only [Act.put, List.setIfInBounds_toArray, List.set_cons_zero, List.set_cons_succ, i64_w, i32_w]
                    rfl
                  refine pure_ (i := 4) (N := some 82) (v := ?_) (a' := ?_) #[true, true, true, true, true, false, false, false, false, false, false, false, false, false, false, false, false, false, false, false, false, false, false, false, false, false, false, false] rfl rfl (by kernel_rfl) (fun _ _ _ h => h) (Or.inl ⟨by rfl, ?_⟩) ?_ ?_
                  rotate_left
                  · intro w'
                    go_simp
                    with_reducible rfl
                  rotate_left
                  · simp only [Act.put, List.setIfInBounds_toArray, List.set_cons_zero, List.set_cons_succ, i64_w, i32_w]
                    rfl
                  refine one_ (i := 5) (N := some 83) #[true, true, true, true, true, true, false, false, false, false, false, false, false, false, false, false, false, false, false, false, false, false, false, false, false, false, false, false] rfl rfl (by kernel_rfl) (by decide) (fun K hK => ?_)
                  refine goes_ Tryd.func25 (by kernel_rfl) rfl #[.slice A1 cols.length c1, .slice (some ad154) row.length c147] (by rfl) rfl rfl (by (try simp only [List.map_toArray, List.map_cons, List.map_nil]); first | done | rfl) ?_
                  with_reducible refine (HFR.out _ (some ad154) c147 HC147.out HR147.out HB.out).mono ?_
                  rintro e wc ⟨rfl, hb⟩
                  refine ⟨_, rfl, ?_⟩
                  have HBa_ := Aside0.mk (bst HB.out hb)
                  clear HB hb
                  have HB := HBa_
                  clear HBa_
                  refine hK.out _ _ ⟨(HB.out.cell (World.block_lt_of_cell? w _ H1.out)).trans H1.out, (HB.out.cell (World.block_lt_of_cell? w _ H2.out)).trans H2.out, (HB.out.cell (World.block_lt_of_cell? w _ HX152.out)).trans HX152.out, (HB.out.cell (World.block_lt_of_cell? w _ HX153_0.out)).trans HX153_0.out, (HB.out.cell (World.block_lt_of_cell? w _ HX153_1.out)).trans HX153_1.out, (HB.out.cell (World.block_lt_of_cell? w _ HX153_2.out)).trans HX153_2.out, (HB.out.cell (World.block_lt_of_cell? w _ HX154_0.out)).trans HX154_0.out, (HB.out.cell (World.block_lt_of_cell? w _ HX154_1.out)).trans HX154_1.out, (HB.out.cell (World.block_lt_of_cell? w _ HX154_2.out)).trans HX154_2.out⟩ (fun hHeld => ?_)
                  clear hK K
                  refine norm_ (a' := ?_) ?_ ?_
                  rotate_left
                  · show Act.put _ (some 83) _ = _
                    simp only [Act.put, List.setIfInBounds_toArray, List.set_cons_zero, List.set_cons_succ, i64_w, i32_w]
                    rfl
                  refine pure_ (i := 6) (N := some 84) (v := ?_) (a' := ?_) #[true, true, true, true, true, true, true, false, false, false, false, false, false, false, false, false, false, false, false, false, false, false, false, false, false, false, false, false] rfl rfl (by kernel_rfl) (fun _ _ _ h => h) (Or.inl ⟨by rfl, ?_⟩) ?_ ?_
                  rotate_left
                  · intro w'
                    go_simp
                    with_reducible rfl
                  rotate_left
                  · simp only [Act.put, List.setIfInBounds_toArray, List.set_cons_zero, List.set_cons_succ, i64_w, i32_w]
                    rfl
                  refine pure_ (i := 7) (N := some 85) (v := ?_) (a' := ?_) #[true, true, true, true, true, true, true, true, false, false, false, false, false, false, false, false, false, false, false, false, false, false, false, false, false, false, false, false] rfl rfl (by kernel_rfl) (fun _ _ _ h => h) (Or.inl ⟨by rfl, ?_⟩) ?_ ?_
                  rotate_left
                  · intro w'
                    go_simp
                    with_reducible rfl
                  rotate_left
                  · simp only [Act.put, List.setIfInBounds_toArray, List.set_cons_zero, List.set_cons_succ, i64_w, i32_w]
                    rfl
                  refine pure_ (i := 8) (N := some 86) (v := ?_) (a' := ?_) #[true, true, true, true, true, true, true, true, true, false, false, false, false, false, false, false, false, false, false, false, false, false, false, false, false, false, false, false] rfl rfl (by kernel_rfl) (fun _ _ _ h => h) (Or.inl ⟨by rfl, ?_⟩) ?_ ?_
                  rotate_left
                  · intro w'
                    go_simp
                    with_reducible rfl
                  rotate_left
                  · simp only [Act.put, List.setIfInBounds_toArray, List.set_cons_zero, List.set_cons_succ, i64_w, i32_w]
                    rfl
                  refine pure_ (i := 9) (N := some 87) (v := ?_) (a' := ?_) #[true, true, true, true, true, true, true, true, true, true, false, false, false, false, false, false, false, false, false, false, false, false, false, false, false, false, false, false] rfl rfl (by kernel_rfl) (fun _ _ _ h => h) (Or.inl ⟨by rfl, ?_⟩) ?_ ?_
                  rotate_left
                  · intro w'
                    go_simp
                    with_reducible rfl
                  rotate_left
                  · simp only [Act.put, List.setIfInBounds_toArray, List.set_cons_zero, List.set_cons_succ, i64_w, i32_w]
                    rfl
                  refine pure_ (i := 10) (N := some 88) (v := ?_) (a' := ?_) #[true, true, true, true, true, true, true, true, true, true, true, false, false, false, false, false, false, false, false, false, false, false, false, false, false, false, false, false] rfl rfl (by kernel_rfl) (fun _ _ _ h => h) (Or.inl ⟨by rfl, ?_⟩) ?_ ?_
                  rotate_left
                  · intro w'
                    go_simp
                    with_reducible rfl
                  rotate_left
                  · simp only [Act.put, List.setIfInBounds_toArray, List.set_cons_zero, List.set_cons_succ, i64_w, i32_w]
                    rfl
                  refine pure_ (i := 11) (N := some 89) (v := ?_) (a' := ?_) #[true, true, true, true, true, true, true, true, true, true, true, true, false, false, false, false, false, false, false, false, false, false, false, false, false, false, false, false] rfl rfl (by kernel_rfl) (fun _ _ _ h => h) (Or.inl ⟨by rfl, ?_⟩) ?_ ?_
                  rotate_left
                  · intro w'
                    go_simp
                    with_reducible rfl
                  rotate_left
                  · simp only [Act.put, List.setIfInBounds_toArray, List.set_cons_zero, List.set_cons_succ, i64_w, i32_w]
                    rfl
                  refine pure_ (i := 12) (N := some 90) (v := ?_) (a' := ?_) #[true, true, true, true, true, true, true, true, true, true, true, true, true, false, false, false, false, false, false, false, false, false, false, false, false, false, false, false] rfl rfl (by kernel_rfl) (fun _ _ _ h => h) (Or.inl ⟨by rfl, ?_⟩) ?_ ?_
                  rotate_left
                  · intro w'
                    go_simp
                    with_reducible rfl
                  rotate_left
                  · simp only [Act.put, List.setIfInBounds_toArray, List.set_cons_zero, List.set_cons_succ, i64_w, i32_w]
                    rfl
                  refine pure_ (i := 13) (N := some 91) (v := ?_) (a' := ?_) #[true, true, true, true, true, true, true, true, true, true, true, true, true, true, false, false, false, false, false, false, false, false, false, false, false, false, false, false] rfl rfl (by kernel_rfl) (fun _ _ _ h => h) (Or.inl ⟨by rfl, ?_⟩) ?_ ?_
                  rotate_left
                  · intro w'
                    go_simp
                    with_reducible rfl
                  rotate_left
                  · simp only [Act.put, List.setIfInBounds_toArray, List.set_cons_zero, List.set_cons_succ, i64_w, i32_w]
                    rfl
                  refine take_ (i := 14) (N := some 92) (v := ?_) (a' := ?_) #[true, true, true, true, true, true, true, true, true, true, true, true, true, true, true, false, false, false, false, false, false, false, false, false, false, false, false, false] rfl rfl (by kernel_rfl) (fun _ _ _ h => h) (Or.inl ⟨by rfl, ?_⟩) hHeld ?_ ?_
                  rotate_left
                  · rintro w' ⟨s0, s1, s2, s3, s4, s5, s6, s7, s8⟩
                    go_simp
                    with_reducible rfl
                  rotate_left
                  · simp only [Act.put, List.setIfInBounds_toArray, List.set_cons_zero, List.set_cons_succ, i64_w, i32_w]
                    rfl
                  refine pure_ (i := 15) (N := some 93) (v := ?_) (a' := ?_) #[true, true, true, true, true, true, true, true, true, true, true, true, true, true, true, true, false, false, false, false, false, false, false, false, false, false, false, false] rfl rfl (by kernel_rfl) (fun _ _ _ h => h) (Or.inl ⟨by rfl, ?_⟩) ?_ ?_
                  rotate_left
                  · intro w'
                    go_simp
                    with_reducible rfl
                  rotate_left
                  · simp only [Act.put, List.setIfInBounds_toArray, List.set_cons_zero, List.set_cons_succ, i64_w, i32_w]
                    rfl
                  refine pure_ (i := 16) (N := some 94) (v := ?_) (a' := ?_) #[true, true, true, true, true, true, true, true, true, true, true, true, true, true, true, true, true, false, false, false, false, false, false, false, false, false, false, false] rfl rfl (by kernel_rfl) (fun _ _ _ h => h) (Or.inl ⟨by rfl, ?_⟩) ?_ ?_
                  rotate_left
                  · intro w'
                    go_simp
                    with_reducible rfl
                  rotate_left
                  · simp only [Act.put, List.setIfInBounds_toArray, List.set_cons_zero, List.set_cons_succ, i64_w, i32_w]
                    rfl
                  refine pure_ (i := 17) (N := some 95) (v := ?_) (a' := ?_) #[true, true, true, true, true, true, true, true, true, true, true, true, true, true, true, true, true, true, false, false, false, false, false, false, false, false, false, false] rfl rfl (by kernel_rfl) (fun _ _ _ h => h) (Or.inl ⟨by rfl, ?_⟩) ?_ ?_
                  rotate_left
                  · intro w'
                    go_simp
                    with_reducible rfl
                  rotate_left
                  · simp only [Act.put, List.setIfInBounds_toArray, List.set_cons_zero, List.set_cons_succ, i64_w, i32_w]
                    rfl
                  refine take_ (i := 18) (N := some 96) (v := ?_) (a' := ?_) #[true, true, true, true, true, true, true, true, true, true, true, true, true, true, true, true, true, true, true, false, false, false, false, false, false, false, false, false] rfl rfl (by kernel_rfl) (fun _ _ _ h => h) (Or.inl ⟨by rfl, ?_⟩) hHeld ?_ ?_
                  rotate_left
                  · rintro w' ⟨s0, s1, s2, s3, s4, s5, s6, s7, s8⟩
                    go_simp
                    with_reducible rfl
                  rotate_left
                  · simp only [Act.put, List.setIfInBounds_toArray, List.set_cons_zero, List.set_cons_succ, i64_w, i32_w]
                    rfl
                  refine pure_ (i := 19) (N := some 97) (v := ?_) (a' := ?_) #[true, true, true, true, true, true, true, true, true, true, true, true, true, true, true, true, true, true, true, true, false, false, false, false, false, false, false, false] rfl rfl (by kernel_rfl) (fun _ _ _ h => h) (Or.inl ⟨by rfl, ?_⟩) ?_ ?_
                  rotate_left
                  · intro w'
                    go_simp
                    with_reducible rfl
                  rotate_left
                  · simp only [Act.put, List.setIfInBounds_toArray, List.set_cons_zero, List.set_cons_succ, i64_w, i32_w]
                    rfl
                  refine take_ (i := 20) (N := some 98) (v := ?_) (a' := ?_) #[true, true, true, true, true, true, true, true, true, true, true, true, true, true, true, true, true, true, true, true, true, false, false, false, false, false, false, false] rfl rfl (by kernel_rfl) (fun _ _ _ h => h) (Or.inl ⟨by rfl, ?_⟩) hHeld ?_ ?_
                  rotate_left
                  · rintro w' ⟨s0, s1, s2, s3, s4, s5, s6, s7, s8⟩
                    go_simp
                    with_reducible rfl
                  rotate_left
                  · simp only [Act.put, List.setIfInBounds_toArray, List.set_cons_zero, List.set_cons_succ, i64_w, i32_w]
                    rfl
                  refine pure_ (i := 21) (N := some 99) (v := ?_) (a' := ?_) #[true, true, true, true, true, true, true, true, true, true, true, true, true, true, true, true, true, true, true, true, true, true, false, false, false, false, false, false] rfl rfl (by kernel_rfl) (fun _ _ _ h => h) (Or.inl ⟨by rfl, ?_⟩) ?_ ?_
                  rotate_left
                  · intro w'
                    go_simp
                    with_reducible rfl
                  rotate_left
                  · simp only [Act.put, List.setIfInBounds_toArray, List.set_cons_zero, List.set_cons_succ, i64_w, i32_w]
                    rfl
                  refine pure_ (i := 22) (N := some 100) (v := ?_) (a' := ?_) #[true, true, true, true, true, true, true, true, true, true, true, true, true, true, true, true, true, true, true, true, true, true, true, false, false, false, false, false] rfl rfl (by kernel_rfl) (fun _ _ _ h => h) (Or.inl ⟨by rfl, ?_⟩) ?_ ?_
                  rotate_left
                  · intro w'
                    go_simp
                    with_reducible rfl
                  rotate_left
                  · simp only [Act.put, List.setIfInBounds_toArray, List.set_cons_zero, List.set_cons_succ, i64_w, i32_w]
                    rfl
                  refine take_ (i := 23) (N := some 101) (v := ?_) (a' := ?_) #[true, true, true, true, true, true, true, true, true, true, true, true, true, true, true, true, true, true, true, true, true, true, true, true, false, false, false, false] rfl rfl (by kernel_rfl) (fun _ _ _ h => h) (Or.inl ⟨by rfl, ?_⟩) hHeld ?_ ?_
                  rotate_left
                  · rintro w' ⟨s0, s1, s2, s3, s4, s5, s6, s7, s8⟩
                    go_simp
                    with_reducible rfl
                  rotate_left
                  · simp only [Act.put, List.setIfInBounds_toArray, List.set_cons_zero, List.set_cons_succ, i64_w, i32_w]
                    rfl
                  refine one_ (i := 24) (N := some 102) #[true, true, true, true, true, true, true, true, true, true, true, true, true, true, true, true, true, true, true, true, true, true, true, true, true, false, false, false] rfl rfl (by kernel_rfl) (by decide) (fun K hK => ?_)
                  refine goes_ Tryd.func26 (by kernel_rfl) rfl #[.agg #[.int .i64 va.f0, .int .i64 va.f1, .string va.f2], .agg #[.int .i64 vb.f0, .int .i64 vb.f1, .string vb.f2]] (by rfl) rfl rfl (by (try simp only [List.map_toArray, List.map_cons, List.map_nil]); first | done | rfl) ?_
                  with_reducible refine (HLL.out _).mono ?_
                  rintro e wc ⟨rfl, hb⟩
                  refine ⟨_, rfl, ?_⟩
                  have HBa_ := Aside0.mk (bst HB.out hb)
                  clear HB hb
                  have HB := HBa_
                  clear HBa_
                  refine hK.out _ _ ⟨(HB.out.cell (World.block_lt_of_cell? w _ H1.out)).trans H1.out, (HB.out.cell (World.block_lt_of_cell? w _ H2.out)).trans H2.out, (HB.out.cell (World.block_lt_of_cell? w _ HX152.out)).trans HX152.out, (HB.out.cell (World.block_lt_of_cell? w _ HX153_0.out)).trans HX153_0.out, (HB.out.cell (World.block_lt_of_cell? w _ HX153_1.out)).trans HX153_1.out, (HB.out.cell (World.block_lt_of_cell? w _ HX153_2.out)).trans HX153_2.out, (HB.out.cell (World.block_lt_of_cell? w _ HX154_0.out)).trans HX154_0.out, (HB.out.cell (World.block_lt_of_cell? w _ HX154_1.out)).trans HX154_1.out, (HB.out.cell (World.block_lt_of_cell? w _ HX154_2.out)).trans HX154_2.out⟩ (fun hHeld => ?_)
                  clear hK K
                  refine norm_ (a' := ?_) ?_ ?_
                  rotate_left
                  · show Act.put _ (some 102) _ = _
                    simp only [Act.put, List.setIfInBounds_toArray, List.set_cons_zero, List.set_cons_succ, i64_w, i32_w]
                    rfl
                  refine pure_ (i := 25) (N := some 103) (v := ?_) (a' := ?_) #[true, true, true, true, true, true, true, true, true, true, true, true, true, true, true, true, true, true, true, true, true, true, true, true, true, true, false, false] rfl rfl (by kernel_rfl) (fun _ _ _ h => h) (Or.inl ⟨by rfl, ?_⟩) ?_ ?_
                  rotate_left
                  · intro w'
                    go_simp
                    with_reducible rfl
                  rotate_left
                  · simp only [Act.put, List.setIfInBounds_toArray, List.set_cons_zero, List.set_cons_succ, i64_w, i32_w]
                    rfl
                  refine pure_ (i := 26) (N := some 104) (v := ?_) (a' := ?_) #[true, true, true, true, true, true, true, true, true, true, true, true, true, true, true, true, true, true, true, true, true, true, true, true, true, true, true, false] rfl rfl (by kernel_rfl) (fun _ _ _ h => h) (Or.inl ⟨by rfl, ?_⟩) ?_ ?_
                  rotate_left
                  · intro w'
                    go_simp
                    with_reducible rfl
                  rotate_left
                  · simp only [Act.put, List.setIfInBounds_toArray, List.set_cons_zero, List.set_cons_succ, i64_w, i32_w]
                    rfl
                  refine pure_ (i := 27) (N := some 105) (v := ?_) (a' := ?_) #[true, true, true, true, true, true, true, true, true, true, true, true, true, true, true, true, true, true, true, true, true, true, true, true, true, true, true, true] rfl rfl (by kernel_rfl) (fun _ _ _ h => h) (Or.inl ⟨by rfl, ?_⟩) ?_ ?_
                  rotate_left
                  · intro w'
                    go_simp
                    with_reducible rfl
                  rotate_left
                  · simp only [Act.put, List.setIfInBounds_toArray, List.set_cons_zero, List.set_cons_succ, i64_w, i32_w]
                    rfl
                  refine done_ (by kernel_rfl) ?_
                  go_wp2
                  go_roundg k1
                  case measure => have := HJ.out; omega
                  case rel => exact ⟨j + 1, by have e_ : wrap64 ((j : Int) + 1) = ((j + 1 : Nat) : Int) := (by have := GR.out; have := HJ.out; unfold wrap64; omega); rw [e_], ⟨by have := HJ.out; omega⟩, ⟨by rw [if_neg (by omega), Nat.add_sub_cancel, HROW.out]; exact HRS.out⟩, ⟨fun _ => ⟨row, by rw [Nat.add_sub_cancel]; exact HROW.out, by have e1 := (by first | exact HFL2.out rfl | exact HFL2.out trivial); have e2 := GC1.out; omega⟩⟩, ⟨by repeat (first | (with_reducible first | exact HB.out | apply bal | apply pbd | apply bd1) | exact HB.out)⟩⟩
      | succ k1 =>
        have hil : i < cols.length := by have := HI.out; omega
        have d1 : decide ((i : Int) < (cols.length : Int)) = true := decide_eq_true (by omega)
        have d2 : decide (i < cols.length) = true := decide_eq_true hil
        have d3 : decide (0 ≤ (i : Int)) = true := decide_eq_true (by omega)
        have p128 : 0 ≤ (i : Int) := by omega
        have q128 : (i : Int) < (cols.length : Int) := by omega
        obtain ⟨ad128, e128, hx128_0, hx128_1⟩ := at_T52 HR1.out i p128 q128
        obtain ⟨y, hy⟩ : ∃ y, rd_T52 cols i = y := ⟨_, rfl⟩
        rw [hy] at hx128_0 hx128_1
        simp only [Int.toNat_natCast] at hx128_0 hx128_1
        have hyl : cols.drop i = y :: cols.drop (i + 1) := by
          rw [List.drop_eq_getElem_cons hil, ← hy]
          unfold rd_T52
          rw [Int.toNat_natCast, List.getD_eq_getElem?_getD, List.getElem?_eq_getElem hil]; rfl
        have hym : y ∈ cols := by
          have : y ∈ cols.drop i := by rw [hyl]; exact List.mem_cons_self
          exact List.mem_of_mem_drop this
        have HN := Aside0.mk (fun w' => HN0.out y.f0 w' (Or.inr ⟨y, hym, rfl⟩))
        have hr' := HRR.out
        rw [hyl, List.all_cons, Bool.and_assoc] at hr'
        clear HRR hyl hym hy
        cases e128
        replace hx128_0 := (HB.out.cell (World.block_lt_of_cell? w _ hx128_0)).trans hx128_0
        replace hx128_1 := (HB.out.cell (World.block_lt_of_cell? w _ hx128_1)).trans hx128_1
        replace p128 := eq_true p128
        replace q128 := eq_true q128
        rw [show colOKb y = (nameKw y.f0 && (decide (y.f1 = 1) || decide (y.f1 = 2))) from rfl, Bool.and_assoc] at hr'
        obtain ⟨q, hq⟩ : ∃ q, nameKw y.f0 = q := ⟨_, rfl⟩
        rw [hq] at HN hr'
        clear hq
        cases q with
        | false =>
          obtain rfl : r = false := by rw [← hr']; rfl
          clear hr'
          go_wp2_with (first | ((with_reducible refine gds (N := 4) rfl ?_); refine bxe ?hg (N := 4) ?hd (cs := #[.string (⟨#[]⟩ : ByteArray), .int .i64 0]) (t := 52) ?hr ?_; (case hd => rfl); (case hg => rfl); (case hr => first | (go_simp; done) | (go_simp; rfl)); intro gb129 hg w7 hbox hb; have n0_ := Aside0.mk (bst (by repeat (first | (with_reducible first | exact HB.out | apply bal | apply pbd | apply bd1) | exact HB.out)) hb); have n1_ := Aside0.mk (hbox); have n2_ := Aside0.mk ((by rw [hg]; exact (bsz (by repeat (first | (with_reducible first | exact HB.out | apply bal | apply pbd | apply bd1) | exact HB.out)))) : w.heap.size ≤ gb129); clear HB; have HB := n0_; have BK129 := n1_; have GE129 := n2_; clear n0_ n1_ n2_; clear hb hbox hg; have hcz8_0 : w7.cell? ⟨gb129, 0, none⟩ = some (.string (⟨#[]⟩ : ByteArray)) := (bce BK129.out 0).trans rfl; have hcz8_1 : w7.cell? ⟨gb129, 1, none⟩ = some (.int .i64 0) := (bce BK129.out 1).trans rfl; have hfz8_0 := bfz BK129.out 0; have hfz8_1 := bfz BK129.out 1) | ((with_reducible refine (HN.out _ ?hb).mono ?_); (case hb => repeat (first | (with_reducible first | exact HB.out | apply bal | apply pbd | apply bd1 | refine bse ?_ GE129.out) | exact HB.out)); rintro e w' ⟨rfl, ⟨n, rfl⟩⟩))
          go_ret
          exact ⟨rfl, by repeat (first | (with_reducible first | exact HB.out | apply bal | apply pbd | apply bd1 | refine bse ?_ GE129.out) | exact HB.out)⟩
        | true =>
        by_cases t1 : y.f1 = 1
        case pos =>
          have t1b : decide (y.f1 = 1) = true := decide_eq_true t1
          have t1c : (y.f1 == 1) = true := beq_iff_eq.mpr t1
          have t1d : (y.f1 != 1) = false := bne_eq_false_iff_eq.mpr t1
          rw [t1b] at hr'
          have HRR := Aside0.mk hr'
          clear hr' t1
          go_wp2_with (first | ((with_reducible refine gds (N := 4) rfl ?_); refine bxe ?hg (N := 4) ?hd (cs := #[.string (⟨#[]⟩ : ByteArray), .int .i64 0]) (t := 52) ?hr ?_; (case hd => rfl); (case hg => rfl); (case hr => first | (go_simp; done) | (go_simp; rfl)); intro gb129 hg w7 hbox hb; have n0_ := Aside0.mk (bst (by repeat (first | (with_reducible first | exact HB.out | apply bal | apply pbd | apply bd1) | exact HB.out)) hb); have n1_ := Aside0.mk (hbox); have n2_ := Aside0.mk ((by rw [hg]; exact (bsz (by repeat (first | (with_reducible first | exact HB.out | apply bal | apply pbd | apply bd1) | exact HB.out)))) : w.heap.size ≤ gb129); clear HB; have HB := n0_; have BK129 := n1_; have GE129 := n2_; clear n0_ n1_ n2_; clear hb hbox hg; have hcz8_0 : w7.cell? ⟨gb129, 0, none⟩ = some (.string (⟨#[]⟩ : ByteArray)) := (bce BK129.out 0).trans rfl; have hcz8_1 : w7.cell? ⟨gb129, 1, none⟩ = some (.int .i64 0) := (bce BK129.out 1).trans rfl; have hfz8_0 := bfz BK129.out 0; have hfz8_1 := bfz BK129.out 1) | ((with_reducible refine (HN.out _ ?hb).mono ?_); (case hb => repeat (first | (with_reducible first | exact HB.out | apply bal | apply pbd | apply bd1 | refine bse ?_ GE129.out) | exact HB.out)); rintro e w' ⟨rfl, ⟨n, rfl⟩⟩))
          go_roundg k1
          case measure => have := HI.out; omega
          case rel => exact ⟨i + 1, by have e_ : wrap64 ((i : Int) + 1) = ((i + 1 : Nat) : Int) := (by have := GC.out; unfold wrap64; omega); rw [e_], ⟨by have := HI.out; omega⟩, ⟨by have := HRR.out; simpa using this⟩, ⟨by repeat (first | (with_reducible first | exact HB.out | apply bal | apply pbd | apply bd1 | refine bse ?_ GE129.out) | exact HB.out)⟩⟩
        case neg =>
        by_cases t2 : y.f1 = 2
        case pos =>
          have t1c : (y.f1 == 1) = false := beq_eq_false_iff_ne.mpr t1
          have t1d : (y.f1 != 1) = true := bne_iff_ne.mpr t1
          have t2b : decide (y.f1 = 2) = true := decide_eq_true t2
          have t2c : (y.f1 == 2) = true := beq_iff_eq.mpr t2
          have t2d : (y.f1 != 2) = false := bne_eq_false_iff_eq.mpr t2
          rw [t2b, Bool.or_true] at hr'
          have HRR := Aside0.mk hr'
          clear hr' t1 t2
          go_wp2_with (first | ((with_reducible refine gds (N := 4) rfl ?_); refine bxe ?hg (N := 4) ?hd (cs := #[.string (⟨#[]⟩ : ByteArray), .int .i64 0]) (t := 52) ?hr ?_; (case hd => rfl); (case hg => rfl); (case hr => first | (go_simp; done) | (go_simp; rfl)); intro gb129 hg w7 hbox hb; have n0_ := Aside0.mk (bst (by repeat (first | (with_reducible first | exact HB.out | apply bal | apply pbd | apply bd1) | exact HB.out)) hb); have n1_ := Aside0.mk (hbox); have n2_ := Aside0.mk ((by rw [hg]; exact (bsz (by repeat (first | (with_reducible first | exact HB.out | apply bal | apply pbd | apply bd1) | exact HB.out)))) : w.heap.size ≤ gb129); clear HB; have HB := n0_; have BK129 := n1_; have GE129 := n2_; clear n0_ n1_ n2_; clear hb hbox hg; have hcz8_0 : w7.cell? ⟨gb129, 0, none⟩ = some (.string (⟨#[]⟩ : ByteArray)) := (bce BK129.out 0).trans rfl; have hcz8_1 : w7.cell? ⟨gb129, 1, none⟩ = some (.int .i64 0) := (bce BK129.out 1).trans rfl; have hfz8_0 := bfz BK129.out 0; have hfz8_1 := bfz BK129.out 1) | ((with_reducible refine (HN.out _ ?hb).mono ?_); (case hb => repeat (first | (with_reducible first | exact HB.out | apply bal | apply pbd | apply bd1 | refine bse ?_ GE129.out) | exact HB.out)); rintro e w' ⟨rfl, ⟨n, rfl⟩⟩))
          go_roundg k1
          case measure => have := HI.out; omega
          case rel => exact ⟨i + 1, by have e_ : wrap64 ((i : Int) + 1) = ((i + 1 : Nat) : Int) := (by have := GC.out; unfold wrap64; omega); rw [e_], ⟨by have := HI.out; omega⟩, ⟨by have := HRR.out; simpa using this⟩, ⟨by repeat (first | (with_reducible first | exact HB.out | apply bal | apply pbd | apply bd1 | refine bse ?_ GE129.out) | exact HB.out)⟩⟩
        case neg =>
          have t1c : (y.f1 == 1) = false := beq_eq_false_iff_ne.mpr t1
          have t1d : (y.f1 != 1) = true := bne_iff_ne.mpr t1
          have t2c : (y.f1 == 2) = false := beq_eq_false_iff_ne.mpr t2
          have t2d : (y.f1 != 2) = true := bne_iff_ne.mpr t2
          obtain rfl : r = false := by rw [← hr']; simp [t1, t2]
          clear hr' t1 t2
          go_wp2_with (first | ((with_reducible refine gds (N := 4) rfl ?_); refine bxe ?hg (N := 4) ?hd (cs := #[.string (⟨#[]⟩ : ByteArray), .int .i64 0]) (t := 52) ?hr ?_; (case hd => rfl); (case hg => rfl); (case hr => first | (go_simp; done) | (go_simp; rfl)); intro gb129 hg w7 hbox hb; have n0_ := Aside0.mk (bst (by repeat (first | (with_reducible first | exact HB.out | apply bal | apply pbd | apply bd1) | exact HB.out)) hb); have n1_ := Aside0.mk (hbox); have n2_ := Aside0.mk ((by rw [hg]; exact (bsz (by repeat (first | (with_reducible first | exact HB.out | apply bal | apply pbd | apply bd1) | exact HB.out)))) : w.heap.size ≤ gb129); clear HB; have HB := n0_; have BK129 := n1_; have GE129 := n2_; clear n0_ n1_ n2_; clear hb hbox hg; have hcz8_0 : w7.cell? ⟨gb129, 0, none⟩ = some (.string (⟨#[]⟩ : ByteArray)) := (bce BK129.out 0).trans rfl; have hcz8_1 : w7.cell? ⟨gb129, 1, none⟩ = some (.int .i64 0) := (bce BK129.out 1).trans rfl; have hfz8_0 := bfz BK129.out 0; have hfz8_1 := bfz BK129.out 1) | ((with_reducible refine (HN.out _ ?hb).mono ?_); (case hb => repeat (first | (with_reducible first | exact HB.out | apply bal | apply pbd | apply bd1 | refine bse ?_ GE129.out) | exact HB.out)); rintro e w' ⟨rfl, ⟨n, rfl⟩⟩))
          go_ret
          exact ⟨rfl, by repeat (first | (with_reducible first | exact HB.out | apply bal | apply pbd | apply bd1 | refine bse ?_ GE129.out) | exact HB.out)⟩
end Go.Proofs.YtoebfjfhdodakaaDoor.L
end
