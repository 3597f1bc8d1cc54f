/- The CRC by the table is the CRC bit by bit, at every string: the law FnExactCrc32 over the printed functions; no condition. -/
import Derived.Test.YtcacdneodpoboaaLx1
import Derived.Test.YtcacdneodpoboaaCrcP
set_option linter.unusedVariables false
set_option linter.unusedSimpArgs false
namespace Go.Proofs.Ytcacdneodpoboaa.Pure
open Go.RowKit Go.Proofs.Ytcacdneodpoboaa Go.Proofs.Ytcacdneodpoboaa.L Go.Proofs.YtcacdneodpoboaaW.PrintWords Go.Proofs.YtcacdneodpoboaaW.PrintLast

theorem xor_par (r b : Nat) : (r ^^^ b) % 2 = (r + b) % 2 := by
  have h := Nat.xor_mod_two_pow (a := r) (b := b) (n := 1)
  have h' : (r ^^^ b) % 2 = (r % 2) ^^^ (b % 2) := by simpa using h
  rw [h', Nat.add_mod]
  rcases Nat.mod_two_eq_zero_or_one r with h1 | h1 <;> rcases Nat.mod_two_eq_zero_or_one b with h2 | h2 <;> rw [h1, h2] <;> rfl
theorem xor_half (r b : Nat) : (r ^^^ b) / 2 = r / 2 ^^^ b / 2 := by
  have := Nat.xor_div_two_pow (a := r) (b := b) (n := 1)
  simpa using this

/-- The reference's inner loop from step j on: what is left of the eight steps. -/
theorem crc_l1 (d : Nat) : ∀ (j k : Nat) (s : ByteArray) (i : Int) (r b : Nat), j + d = 8 → b < 2 ^ d → r < 4294967296 →
    spec_Crc32.l1 (k + d + 1) s r i b j = spec_Crc32.l0 k s (crcLs d (r ^^^ b) : Nat) (wrap64 (i + 1)) := by
  induction d with
  | zero =>
    intro j k s i r b hj hb hr
    have hb0 : b = 0 := by omega
    have hj8 : ¬ ((j : Int) < 8) := by omega
    subst hb0
    simp only [spec_Crc32.l1, Nat.add_zero]
    rw [if_neg hj8]
    simp [crcLs]
  | succ d ih =>
    intro j k s i r b hj hb hr
    have hj8 : (j : Int) < 8 := by omega
    have hb8 : b < 256 := by
      have h1 : (2 : Nat) ^ (d + 1) ≤ 2 ^ 8 := Nat.pow_le_pow_right (by decide) (by omega)
      omega
    have hb2 : b / 2 < 2 ^ d := by rw [Nat.pow_succ] at hb; omega
    have e1 : (Int.tmod (wrap64 ((r : Int) + (b : Int))) 2) = (((r + b) % 2 : Nat) : Int) := by
      have : wrap64 ((r : Int) + (b : Int)) = ((r + b : Nat) : Int) := by unfold wrap64; omega
      rw [this]
      exact (Int.ofNat_tmod (r + b) 2).symm
    have e2 : wrap64 (Int.tdiv (r : Int) 2) = ((r / 2 : Nat) : Int) := by
      have : Int.tdiv (r : Int) 2 = ((r / 2 : Nat) : Int) := (Int.ofNat_tdiv r 2).symm
      rw [this]; unfold wrap64; omega
    have e3 : wrap64 (Int.tdiv (b : Int) 2) = ((b / 2 : Nat) : Int) := by
      have : Int.tdiv (b : Int) 2 = ((b / 2 : Nat) : Int) := (Int.ofNat_tdiv b 2).symm
      rw [this]; unfold wrap64; omega
    have e4 : wrap64 ((j : Int) + 1) = ((j + 1 : Nat) : Int) := by unfold wrap64; omega
    have e5 : Go.bits .xor .i64 ((r / 2 : Nat) : Int) 3988292384 = ((r / 2 ^^^ 3988292384 : Nat) : Int) := by
      have h3 : (3988292384 : Int) = ((3988292384 : Nat) : Int) := rfl
      rw [h3, xorN_i64 _ _ (by omega) (by omega)]
    have hx := xor_par r b
    have hh := xor_half r b
    have hL : crcLs (d + 1) (r ^^^ b) = crcLs d (crcL (r ^^^ b)) := crcLs_add d 1 _
    rw [show k + (d + 1) + 1 = (k + d + 1) + 1 from by omega]
    rw [spec_Crc32.l1, if_pos hj8, e1, e2, e3, e4, e5]
    by_cases ho : (r + b) % 2 = 1
    · rw [if_pos (by rw [ho]; rfl)]
      have hlt : r / 2 ^^^ 3988292384 < 2 ^ 32 := Nat.xor_lt_two_pow (by omega) (by omega)
      rw [ih (j + 1) k s i _ _ (by omega) hb2 (by omega), hL]
      have hv : (r / 2 ^^^ 3988292384) ^^^ (b / 2) = crcL (r ^^^ b) := by
        unfold crcL
        rw [hx, hh, if_pos ho, Nat.xor_assoc, Nat.xor_comm 3988292384, ← Nat.xor_assoc]
      rw [hv]
    · rw [if_neg (by omega)]
      rw [ih (j + 1) k s i _ _ (by omega) hb2 (by omega), hL]
      have hv : r / 2 ^^^ (b / 2) = crcL (r ^^^ b) := by
        unfold crcL
        rw [hx, hh, if_neg ho, Nat.xor_zero]
      rw [hv]

theorem crc_l0 (e : Nat) : ∀ (k : Nat) (s : ByteArray) (i : Nat), s.size ≤ 140737488351232 → i + e = s.size →
    spec_Crc32.l0 (k + 10 * e + 1) s (crcN s i : Nat) i = some (4294967295 - ((crcN s s.size : Nat) : Int)) := by
  induction e with
  | zero =>
    intro k s i hs hi
    obtain rfl : i = s.size := by omega
    simp only [spec_Crc32.l0, Nat.mul_zero, Nat.add_zero]
    rw [if_neg (by omega)]
    have := crcN_lt s s.size
    congr 1
    unfold wrap64
    omega
  | succ e ih =>
    intro k s i hs hi
    have hlt : (i : Int) < s.size := by omega
    have hb := bt_nat s i
    have hw : wrap64 (bt s i) = ((bt s i).toNat : Int) := by
      rw [← hb.1]
      have := bt_range s i
      unfold wrap64
      omega
    have hi1 : wrap64 ((i : Int) + 1) = ((i + 1 : Nat) : Int) := by unfold wrap64; omega
    rw [show k + 10 * (e + 1) + 1 = (k + 10 * e + 1 + 8 + 1) + 1 from by omega]
    rw [spec_Crc32.l0, if_pos hlt, if_pos (by omega), hw]
    have h := crc_l1 8 0 (k + 10 * e + 1) s i (crcN s i) (bt s i).toNat rfl (by have := hb.2; omega) (crcN_lt s i)
    rw [show ((0 : Nat) : Int) = 0 from rfl] at h
    rw [h, hi1]
    exact ih k s (i + 1) hs (by omega)

theorem spec_crc (s : ByteArray) (hs : s.size ≤ 140737488351232) : ∃ k, spec_Crc32.f k s = some (4294967295 - ((crcN s s.size : Nat) : Int)) :=
  ⟨_, crc_l0 s.size 0 s 0 hs (by omega)⟩

theorem impl_crc (s : ByteArray) (hs : s.size ≤ 140737488351232) : impl_Crc32.f s = some (4294967295 - ((crcN s s.size : Nat) : Int)) := by
  unfold impl_Crc32.f
  rw [if_pos (by omega), crcReg_nat]

theorem FnExactCrc32 : laws_FnExactCrc32.Pure := by
  intro s hs
  obtain ⟨k, hk⟩ := spec_crc s hs
  refine ⟨k, ?_⟩
  unfold laws_FnExactCrc32.f
  rw [hk, impl_crc s hs]
  simp

end Go.Proofs.Ytcacdneodpoboaa.Pure
