/- The reference's SHA-256 (lists of words, turns, bytes) tells the plain function 'shaI' that the program's tells: over the printed functions; condition: a bound on the text's length. -/
import Derived.Test.YtmchcoafkaggkaaDoorLx1
import Derived.Test.YtmchcoafkaggkaaDoorLx2
import Derived.Test.YtmchcoafkaggkaaDoorLx3
import Derived.Test.YtmchcoafkaggkaaDoorLx4
import Derived.Test.YtmchcoafkaggkaaDoorShaS
import Derived.Test.YtmchcoafkaggkaaDoorNumP
set_option linter.unusedVariables false
set_option linter.unusedSimpArgs false
namespace Go.Proofs.YtmchcoafkaggkaaDoor.Pure
open Go Go.RowKit Go.Proofs.YtmchcoafkaggkaaDoor Go.Proofs.YtmchcoafkaggkaaDoor.L Go.Proofs.YtmchcoafkaggkaaDoorW.PrintWords Go.Proofs.YtmchcoafkaggkaaDoorW.PrintMore Go.Proofs.YtmchcoafkaggkaaDoorW.PrintLast

def ls (n : Nat) (f : Nat → Int) : List Int := (List.range n).map f
theorem ls_len (n : Nat) (f : Nat → Int) : (ls n f).length = n := by simp [ls]
theorem rd_ls (n : Nat) (f : Nat → Int) (i : Nat) (h : i < n) : rd (ls n f) (i : Int) = f i := by
  simp [rd, ls, List.getD, h]
theorem ls_snoc (n : Nat) (f : Nat → Int) (v : Int) (h : f n = v) : ls n f ++ [v] = ls (n + 1) f := by
  subst h
  simp [ls, List.range_succ]
theorem or_comm32 (a b : Int) : Go.bits .or .u32 a b = Go.bits .or .u32 b a := by
  simp only [Go.bits, BitVec.or_comm]
theorem turn_eq (x : Int) (n : Int) (h0 : 0 ≤ n) (h1 : n ≤ 32) : spec_l1Turn.f x n = some (rotI x n) := by
  have hw : wrap64 (32 - n) = 32 - n := by unfold wrap64; omega
  rw [spec_l1Turn.f, if_pos h0, hw, if_pos (by omega), rotI, or_comm32]
/-- The number that so many bytes from 'at' on make, the first the highest. -/
def getN (s : ByteArray) (at_ : Int) : Nat → Int
  | 0 => 0
  | i + 1 => getN s at_ i * 256 + bt s (at_ + i)
theorem getN_range (s : ByteArray) (at_ : Int) (i : Nat) : 0 ≤ getN s at_ i ∧ getN s at_ i < 256 ^ i := by
  induction i with
  | zero => simp [getN]
  | succ i ih =>
    have hb := bt_range s (at_ + i)
    rw [getN, Int.pow_succ]
    omega
theorem getN_le (s : ByteArray) (at_ : Int) (i : Nat) (hi : i ≤ 4) : 0 ≤ getN s at_ i ∧ getN s at_ i < 4294967296 := by
  have h := getN_range s at_ i
  have : i = 0 ∨ i = 1 ∨ i = 2 ∨ i = 3 ∨ i = 4 := by omega
  rcases this with rfl | rfl | rfl | rfl | rfl <;> omega
theorem get_l0 (s : ByteArray) (a : Nat) (ha : a + 4 ≤ s.size) (hs : s.size ≤ 1000) (d : Nat) : ∀ i : Nat, i + d = 4 →
    Ev (fun k => spec_l1Get.l0 k s (a : Int) 4 (getN s a i) (i : Int)) (getN s a 4) := by
  induction d with
  | zero =>
    intro i hi
    obtain rfl : i = 4 := by omega
    refine Ev.step (f := fun _ => some (getN s a 4)) (fun k => ?_) (Ev.now _)
    rw [spec_l1Get.l0, if_neg (by omega)]
  | succ d ih =>
    intro i hi
    have c1 : (i : Int) < 4 := by omega
    have c2 : 0 ≤ (a : Int) + (i : Int) := by omega
    have c3 : (a : Int) + (i : Int) < (s.size : Int) := by omega
    have hg := getN_le s a i (by omega)
    have hb := bt_range s ((a : Int) + (i : Int))
    have w1 : wrap64 ((a : Int) + (i : Int)) = (a : Int) + (i : Int) := by unfold wrap64; omega
    have w2 : wrap64 (bt s ((a : Int) + (i : Int))) = bt s ((a : Int) + (i : Int)) := by unfold wrap64; omega
    have w3 : wrap64 (getN s a i * 256) = getN s a i * 256 := by unfold wrap64; omega
    have w4 : wrap64 (getN s a i * 256 + bt s ((a : Int) + (i : Int))) = getN s a (i + 1) := by
      rw [getN]; unfold wrap64; omega
    have w5 : wrap64 ((i : Int) + 1) = ((i + 1 : Nat) : Int) := by unfold wrap64; omega
    refine Ev.step (f := fun k => spec_l1Get.l0 k s (a : Int) 4 (getN s a (i + 1)) ((i + 1 : Nat) : Int)) (fun k => ?_) (ih (i + 1) (by omega))
    rw [spec_l1Get.l0, if_pos c1, w1, if_pos c2, if_pos c3, w2, w3, w4, w5]
theorem get_ev (s : ByteArray) (a : Nat) (ha : a + 4 ≤ s.size) (hs : s.size ≤ 1000) : Ev (fun k => spec_l1Get.f k s (a : Int) 4) (getN s a 4) := by
  have h := get_l0 s a ha hs 4 0 (by omega)
  exact Ev.congr (f := fun k => spec_l1Get.l0 k s (a : Int) 4 (getN s a 0) ((0 : Nat) : Int)) (fun k => rfl) h
theorem or_bytes (a b : Int) (ha : 0 ≤ a) (ha2 : a < 16777216) (hb : 0 ≤ b) (hb2 : b ≤ 255) : Go.bits .or .u32 (a * 256 % 4294967296) (b % 4294967296) = a * 256 + b := by
  obtain ⟨x, rfl⟩ := Int.eq_ofNat_of_zero_le ha
  obtain ⟨y, rfl⟩ := Int.eq_ofNat_of_zero_le hb
  have h1 : ((x : Int) * 256 % 4294967296) = ((x * 256 : Nat) : Int) := by omega
  have h2 : ((y : Int) % 4294967296) = ((y : Nat) : Int) := by omega
  have hx : x * 256 < 4294967296 := by omega
  have hy : y < 4294967296 := by omega
  have hor : x * 256 ||| y = x * 256 + y := by
    have := Nat.two_pow_add_eq_or_of_lt (i := 8) (b := y) (by omega) x
    rw [Nat.mul_comm x 256]
    exact this.symm
  show Go.bits .or .u32 ((x : Int) * 256 % 4294967296) ((y : Int) % 4294967296) = (x : Int) * 256 + (y : Int)
  rw [h1, h2]
  simp only [Go.bits, BitVec.ofInt_natCast, BitVec.toNat_or, BitVec.toNat_ofNat]
  rw [Nat.mod_eq_of_lt (show x * 256 < 2 ^ IntKind.u32.bits from hx), Nat.mod_eq_of_lt (show y < 2 ^ IntKind.u32.bits from hy), hor, IntKind.wrap_u32]
  omega
theorem ld_get (b : ByteArray) (j : Nat) (k : Nat) (hk : k ≤ 4) : ld b j k = getN b ((4 * j : Nat) : Int) k := by
  induction k with
  | zero => rfl
  | succ k ih =>
    have hg := getN_range b ((4 * j : Nat) : Int) k
    have hb := bt_range b (((4 * j : Nat) : Int) + k)
    have hlt : getN b ((4 * j : Nat) : Int) k < 16777216 := by
      have : k = 0 ∨ k = 1 ∨ k = 2 ∨ k = 3 := by omega
      rcases this with rfl | rfl | rfl | rfl <;> omega
    rw [ld, getN, ih (by omega), show 4 * (j : Int) + (k : Int) = ((4 * j : Nat) : Int) + k from by omega, or_bytes _ _ hg.1 hlt hb.1 hb.2]
theorem wst_keep (b : ByteArray) (n d : Nat) : ∀ j, j < n + 16 → wst b (n + d) j = wst b n j := by
  induction d with
  | zero => intro j _; rfl
  | succ d ih =>
    intro j hj
    show wst b ((n + d) + 1) j = _
    rw [wst]
    show (if j = n + d + 16 then _ else wst b (n + d) j) = _
    rw [if_neg (by omega)]
    exact ih j hj
theorem word_low (b : ByteArray) (t : Nat) (ht : t < 16) : wst b 48 t = getN b ((4 * t : Nat) : Int) 4 := by
  have := wst_keep b 0 48 t (by omega)
  rw [show 0 + 48 = 48 from rfl] at this
  rw [this, wst, ph1, if_pos ht, ld_get b t 4 (by omega)]
theorem word_high (b : ByteArray) (t : Nat) (ht : 16 ≤ t) (h64 : t < 64) : wst b 48 t = wnx (wst b 48) t := by
  obtain ⟨n, rfl⟩ : ∃ n, t = n + 16 := ⟨t - 16, by omega⟩
  have k1 := wst_keep b (n + 1) (47 - n) (n + 16) (by omega)
  rw [show n + 1 + (47 - n) = 48 from by omega] at k1
  have k2 : ∀ j, j < n + 16 → wst b 48 j = wst b n j := fun j hj => by
    have := wst_keep b n (48 - n) j hj
    rwa [show n + (48 - n) = 48 from by omega] at this
  rw [k1, wst]
  show (if n + 16 = n + 16 then wnx (wst b n) (n + 16) else _) = _
  rw [if_pos rfl, wnx, wnx, k2 (n + 16 - 16) (by omega), k2 (n + 16 - 15) (by omega), k2 (n + 16 - 7) (by omega), k2 (n + 16 - 2) (by omega)]
theorem words_l0 (b : ByteArray) (hb : b.size = 64) (d : Nat) : ∀ t : Nat, t + d = 64 → Ev (fun k => spec_l1Words.l0 k b (ls t (wst b 48)) (t : Int)) (ls 64 (wst b 48)) := by
  induction d with
  | zero =>
    intro t ht
    obtain rfl : t = 64 := by omega
    refine Ev.step (f := fun _ => some (ls 64 (wst b 48))) (fun k => ?_) (Ev.now _)
    rw [spec_l1Words.l0, if_neg (by omega)]
  | succ d ih =>
    intro t ht
    have w5 : wrap64 ((t : Int) + 1) = ((t + 1 : Nat) : Int) := by unfold wrap64; omega
    have hlen := ls_len t (wst b 48)
    by_cases h16 : t < 16
    · have w4 : wrap64 (4 * (t : Int)) = ((4 * t : Nat) : Int) := by unfold wrap64; omega
      have hg := getN_le b ((4 * t : Nat) : Int) 4 (by omega)
      refine Ev.step (f := fun k => (spec_l1Get.f k b ((4 * t : Nat) : Int) 4).bind fun v => if (ls t (wst b 48)).length < 35184372088832 then spec_l1Words.l0 k b (ls t (wst b 48) ++ [v % 4294967296]) ((t + 1 : Nat) : Int) else none) (fun k => ?_) ?_
      · rw [spec_l1Words.l0, if_pos (by omega), if_pos (by omega), w4, w5]
      · refine (get_ev b (4 * t) (by omega) (by omega)).bind ?_
        have hs := ls_snoc t (wst b 48) (getN b ((4 * t : Nat) : Int) 4 % 4294967296) (by rw [word_low b t h16]; omega)
        simp only [hlen, if_pos (show t < 35184372088832 by omega), hs]
        exact ih (t + 1) (by omega)
    · have e15 : wrap64 ((t : Int) - 15) = ((t - 15 : Nat) : Int) := by unfold wrap64; omega
      have e2 : wrap64 ((t : Int) - 2) = ((t - 2 : Nat) : Int) := by unfold wrap64; omega
      have e16 : wrap64 ((t : Int) - 16) = ((t - 16 : Nat) : Int) := by unfold wrap64; omega
      have e7 : wrap64 ((t : Int) - 7) = ((t - 7 : Nat) : Int) := by unfold wrap64; omega
      refine Ev.step (f := fun k => spec_l1Words.l0 k b (ls (t + 1) (wst b 48)) ((t + 1 : Nat) : Int)) (fun k => ?_) (ih (t + 1) (by omega))
      rw [spec_l1Words.l0, if_pos (by omega), if_neg (by omega), e15, e2, e16, e7, w5, hlen, if_pos (by omega), if_pos (by omega), if_pos (by omega), if_pos (by omega)]
      rw [rd_ls _ _ (t - 15) (by omega), rd_ls _ _ (t - 2) (by omega), rd_ls _ _ (t - 16) (by omega), rd_ls _ _ (t - 7) (by omega)]
      simp only [turn_eq _ 7 (by decide) (by decide), turn_eq _ 18 (by decide) (by decide), turn_eq _ 17 (by decide) (by decide), turn_eq _ 19 (by decide) (by decide), Option.bind_some]
      rw [if_pos (by omega), if_pos (by omega), if_pos (by omega), if_pos (by omega), if_pos (by omega)]
      rw [ls_snoc t (wst b 48) _ (by rw [word_high b t (by omega) (by omega), wnx])]
theorem words_ev (b : ByteArray) (hb : b.size = 64) : Ev (fun k => spec_l1Words.f k b) (ls 64 (wst b 48)) := by
  refine Ev.congr (fun k => ?_) (words_l0 b hb 64 0 (by omega))
  rw [spec_l1Words.f]
  rfl
theorem keys_eq : spec_l1Keys.f = some kw := by
  unfold spec_l1Keys.f
  rfl
theorem ls8 (f : Nat → Int) : ls 8 f = [f 0, f 1, f 2, f 3, f 4, f 5, f 6, f 7] := rfl
theorem kw_len : kw.length = 64 := rfl
theorem block_l1 (st g : Nat → Int) (d : Nat) : ∀ i : Nat, i + d = 8 →
    Ev (fun k => spec_l1Block.l1 k (ls 8 st) (ls 8 g) (ls i (fin g st 8)) 8 (i : Int)) (ls 8 (fin g st 8)) := by
  induction d with
  | zero =>
    intro i hi
    obtain rfl : i = 8 := by omega
    refine Ev.step (f := fun _ => some (ls 8 (fin g st 8))) (fun k => ?_) (Ev.now _)
    rw [spec_l1Block.l1, if_neg (by omega)]
  | succ d ih =>
    intro i hi
    have w5 : wrap64 ((i : Int) + 1) = ((i + 1 : Nat) : Int) := by unfold wrap64; omega
    refine Ev.step (f := fun k => spec_l1Block.l1 k (ls 8 st) (ls 8 g) (ls (i + 1) (fin g st 8)) 8 ((i + 1 : Nat) : Int)) (fun k => ?_) (ih (i + 1) (by omega))
    rw [spec_l1Block.l1, if_pos (by omega), if_pos (by omega), ls_len, ls_len, ls_len, if_pos (by omega), if_pos (by omega), if_pos (by omega), rd_ls 8 g i (by omega), rd_ls 8 st i (by omega), w5]
    rw [ls_snoc i (fin g st 8) _ (by simp [fin]; omega)]
theorem block_l0 (st W : Nat → Int) (d : Nat) : ∀ t : Nat, t + d = 64 →
    Ev (fun k => spec_l1Block.l0 k (ls 8 st) kw (ls 8 (rds st W t)) (ls 64 W) 64 (t : Int)) (ls 8 (fin (rds st W 64) st 8)) := by
  induction d with
  | zero =>
    intro t ht
    obtain rfl : t = 64 := by omega
    refine Ev.step (f := fun k => spec_l1Block.l1 k (ls 8 st) (ls 8 (rds st W 64)) (ls 0 (fin (rds st W 64) st 8)) 8 ((0 : Nat) : Int)) (fun k => ?_) (block_l1 st (rds st W 64) 8 0 rfl)
    rw [spec_l1Block.l0, if_neg (by omega), ls_len]
    rfl
  | succ d ih =>
    intro t ht
    have w5 : wrap64 ((t : Int) + 1) = ((t + 1 : Nat) : Int) := by unfold wrap64; omega
    refine Ev.step (f := fun k => spec_l1Block.l0 k (ls 8 st) kw (ls 8 (rds st W (t + 1))) (ls 64 W) 64 ((t + 1 : Nat) : Int)) (fun k => ?_) (ih (t + 1) (by omega))
    obtain ⟨g, hg⟩ : ∃ g, rds st W t = g := ⟨_, rfl⟩
    have hk : rd kw (t : Int) = kw.getD t 0 := by simp [rd]
    have r0 : rd (ls 8 g) 0 = g 0 := rd_ls 8 g 0 (by omega)
    have r1 : rd (ls 8 g) 1 = g 1 := rd_ls 8 g 1 (by omega)
    have r2 : rd (ls 8 g) 2 = g 2 := rd_ls 8 g 2 (by omega)
    have r3 : rd (ls 8 g) 3 = g 3 := rd_ls 8 g 3 (by omega)
    have r4 : rd (ls 8 g) 4 = g 4 := rd_ls 8 g 4 (by omega)
    have r5 : rd (ls 8 g) 5 = g 5 := rd_ls 8 g 5 (by omega)
    have r6 : rd (ls 8 g) 6 = g 6 := rd_ls 8 g 6 (by omega)
    have r7 : rd (ls 8 g) 7 = g 7 := rd_ls 8 g 7 (by omega)
    have hn : rds st W (t + 1) = rnd W t g := by rw [rds, hg]
    rw [hn, hg]
    rw [spec_l1Block.l0, if_pos (by omega), if_pos (by omega), ls_len, ls_len, if_pos (by omega), if_pos (by decide), if_pos (by decide), if_pos (by decide), kw_len]
    rw [r0, r1, r2, r3, r4, r5, r6, r7, hk, rd_ls 64 W t (by omega), w5]
    simp only [turn_eq _ 6 (by decide) (by decide), turn_eq _ 11 (by decide) (by decide), turn_eq _ 25 (by decide) (by decide), turn_eq _ 2 (by decide) (by decide), turn_eq _ 13 (by decide) (by decide), turn_eq _ 22 (by decide) (by decide), Option.bind_some]
    rw [if_pos (by decide), if_pos (by decide), if_pos (by omega), if_pos (by decide), if_pos (by decide), if_pos (by decide)]
    rw [ls8 (rnd W t g)]
    simp only [rnd, rnd1, rnd2, Int.emod_add_emod, Int.add_emod_emod]
theorem block_ev (st : Nat → Int) (b : ByteArray) (hb : b.size = 64) : Ev (fun k => spec_l1Block.f k (ls 8 st) b) (ls 8 (cmp st b)) := by
  unfold spec_l1Block.f
  simp only [keys_eq, Option.bind_some, List.length_nil, ls_len, Nat.zero_add, List.nil_append, if_pos (show 8 < 35184372088832 by omega)]
  refine (words_ev b hb).bind ?_
  simp only [ls_len]
  exact block_l0 st (wst b 48) 64 0 rfl
theorem out_l2 (st : Nat → Int) (hr : ∀ j, j < 8 → 0 ≤ st j ∧ st j ≤ 4294967295) (d : Nat) : ∀ i : Nat, i + d = 8 →
    Ev (fun k => spec_Sha256.l2 k (shaOut st i) (ls 8 st) 8 (i : Int)) (shaOut st 8) := by
  induction d with
  | zero =>
    intro i hi
    obtain rfl : i = 8 := by omega
    refine Ev.step (f := fun _ => some (shaOut st 8)) (fun k => ?_) (Ev.now _)
    rw [spec_Sha256.l2, if_neg (by omega)]
  | succ d ih =>
    intro i hi
    have w5 : wrap64 ((i : Int) + 1) = ((i + 1 : Nat) : Int) := by unfold wrap64; omega
    have hs := hr i (by omega)
    have w1 : wrap64 (st i) = st i := by unfold wrap64; omega
    refine Ev.step (f := fun k => (spec_l1Num.f k 4 (st i)).bind fun v => if (shaOut st i).size + v.size ≤ 9223372036854775807 then spec_Sha256.l2 k (shaOut st i ++ v) (ls 8 st) 8 ((i + 1 : Nat) : Int) else none) (fun k => ?_) ?_
    · rw [spec_Sha256.l2, if_pos (by omega), if_pos (by omega), ls_len, if_pos (by omega), rd_ls 8 st i (by omega), w1, w5]
    · refine (spec_num 4 (st i) (by omega)).bind ?_
      simp only [shaOut_size, strOfNums_size, numB_length, if_pos (show 4 * i + 4 ≤ 9223372036854775807 by omega)]
      exact ih (i + 1) (by omega)
theorem sha_l1 (X : ByteArray) (n : Nat) (hn : X.size = 64 * n) (hX : X.size ≤ 2000000000000) (d : Nat) : ∀ i : Nat, i + d = n →
    Ev (fun k => spec_Sha256.l1 k X (ls 8 (shaSt X i)) ((64 * i : Nat) : Int)) (shaOut (shaSt X n) 8) := by
  induction d with
  | zero =>
    intro i hi
    obtain rfl : i = n := by omega
    refine Ev.step (f := fun k => spec_Sha256.l2 k (shaOut (shaSt X i) 0) (ls 8 (shaSt X i)) 8 ((0 : Nat) : Int)) (fun k => ?_) (out_l2 _ (fun j hj => shaSt_range X i j hj) 8 0 rfl)
    rw [spec_Sha256.l1, if_neg (by omega), ls_len]
    rfl
  | succ d ih =>
    intro i hi
    have w1 : wrap64 (((64 * i : Nat) : Int) + 64) = ((64 * (i + 1) : Nat) : Int) := by unfold wrap64; omega
    refine Ev.step (f := fun k => (spec_l1Block.f k (ls 8 (shaSt X i)) (X.extract (64 * i) (64 * i + 64))).bind fun v => spec_Sha256.l1 k X v ((64 * (i + 1) : Nat) : Int)) (fun k => ?_) ?_
    · rw [spec_Sha256.l1, if_pos (by omega), if_pos (by omega), w1, if_pos (by omega), if_pos (by omega)]
      rfl
    · refine (block_ev (shaSt X i) (X.extract (64 * i) (64 * i + 64)) (by rw [ByteArray.size_extract]; omega)).bind ?_
      exact ih (i + 1) (by omega)
theorem sha_l0 (s : ByteArray) (hs : s.size ≤ 1099511627776) (d : Nat) : ∀ t : ByteArray, padTo d t = shaPad s → d ≤ 63 →
    Ev (fun k => spec_Sha256.l0 k s t) (shaI s) := by
  induction d with
  | zero =>
    intro t ht _
    obtain rfl : t = shaPad s := ht
    have hm := shaPad_mod s
    have hz := shaPad_size s
    have w1 : wrap64 (8 * (s.size : Int)) = 8 * (s.size : Int) := by unfold wrap64; omega
    have htm := shaText_mod s
    have hts := shaText_le s
    refine Ev.step (f := fun k => (spec_l1Num.f k 8 (8 * (s.size : Int))).bind fun v => if (shaPad s).size + v.size ≤ 9223372036854775807 then spec_Sha256.l1 k (shaPad s ++ v) ([1779033703, 3144134277, 1013904242, 2773480762, 1359893119, 2600822924, 528734635, 1541459225] : List Int) 0 else none) (fun k => ?_) ?_
    · rw [spec_Sha256.l0, if_pos (by omega), w1]
    · refine (spec_num 8 (8 * (s.size : Int)) (by omega)).bind ?_
      simp only [strOfNums_size, numB_length, if_pos (show (shaPad s).size + 8 ≤ 9223372036854775807 by omega)]
      have h := sha_l1 (shaText s) ((shaText s).size / 64) (by omega) (by omega) ((shaText s).size / 64) 0 (by omega)
      exact h
  | succ d ih =>
    intro t ht hd
    have hsz := congrArg ByteArray.size ht
    rw [padTo_size, shaPad_size] at hsz
    refine Ev.step (f := fun k => spec_Sha256.l0 k s (t ++ ⟨#[0]⟩)) (fun k => ?_) (ih _ (show padTo d (t ++ ⟨#[0]⟩) = shaPad s from ht) (by omega))
    rw [spec_Sha256.l0, if_neg (by omega), if_pos (by omega)]
theorem spec_sha (s : ByteArray) (hs : s.size ≤ 1099511627776) : Ev (fun k => spec_Sha256.f k s) (shaI s) := by
  unfold spec_Sha256.f
  simp only [if_pos (show s.size + 1 ≤ 9223372036854775807 by omega)]
  exact sha_l0 s hs _ _ rfl (by omega)
end Go.Proofs.YtmchcoafkaggkaaDoor.Pure
