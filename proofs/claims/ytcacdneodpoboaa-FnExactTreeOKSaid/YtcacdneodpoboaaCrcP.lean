/- The CRC's register, in plain numbers: a byte's eight steps are the table's one. -/
import Derived.Test.YtcacdneodpoboaaBase
set_option linter.unusedVariables false
set_option linter.unusedSimpArgs false
namespace Go.Proofs.Ytcacdneodpoboaa
open Go.RowKit Go.Proofs.YtcacdneodpoboaaW.PrintWords
/-- One step of the table's making, as the walk spells it. -/
def crcStep (c : Int) : Int := if Go.bits .and .u32 c 1 == 1 then Go.bits .xor .u32 (c / 2) 3988292384 else c / 2
def crcSteps : Nat → Int → Int
  | 0, c => c
  | k + 1, c => crcStep (crcSteps k c)
def crcEnt (i : Nat) : Int := crcSteps 8 i
def crcCell (n j : Nat) : Value := .int .u32 (if j < n then crcEnt j else 0)
def crcCells (n : Nat) : Array Value := rowOf 256 (crcCell n)
theorem crcCells_size (n : Nat) : (crcCells n).size = 256 := rowOf_size _ _
theorem crcCells_zero : Array.replicate 256 (.int .u32 0) = crcCells 0 := by
  rw [rowOf_replicate]
  exact rowOf_congr _ _ _ fun _ _ => by simp [crcCell]
theorem crcCells_one (n : Nat) : (crcCells n).all (·.oneCell') = true := rowOf_one _ _ fun _ => rfl
theorem crcCells_set (n : Nat) : (crcCells n).setIfInBounds n (.int .u32 (crcEnt n)) = crcCells (n + 1) := by
  unfold crcCells
  rw [rowOf_set]
  exact rowOf_congr _ _ _ fun j _ => by
    unfold crcCell
    by_cases h : j = n
    · subst h; simp
    · have : (j < n) ↔ (j < n + 1) := by omega
      simp [this, h]
theorem crcCells_at (n j : Nat) (hj : j < 256) : (crcCells n)[j]? = some (crcCell n j) := rowOf_at _ _ _ hj
theorem crcStep_of (c : Int) (b : Bool) (h : (Go.bits .and .u32 c 1 == 1) = b) : crcStep c = if b then Go.bits .xor .u32 (c / 2) 3988292384 else c / 2 := by
  unfold crcStep; rw [h]
def crcNext (c b : Int) : Int := Go.bits .xor .u32 (c / 256) (crcEnt (Go.bits .xor .u8 (c % 256) b).toNat)
def crcReg (s : ByteArray) : Nat → Int
  | 0 => 4294967295
  | k + 1 => crcNext (crcReg s k) (bt s k)
/-- One step of the register. -/
def crcL (x : Nat) : Nat := x / 2 ^^^ (if x % 2 = 1 then 3988292384 else 0)
def crcLs : Nat → Nat → Nat
  | 0, x => x
  | k + 1, x => crcL (crcLs k x)
theorem crcL_lt (x : Nat) (h : x < 4294967296) : crcL x < 4294967296 := by
  unfold crcL
  have : x / 2 ^^^ (if x % 2 = 1 then 3988292384 else 0) < 2 ^ 32 := Nat.xor_lt_two_pow (by omega) (by split <;> decide)
  omega
theorem crcLs_lt (k x : Nat) (h : x < 4294967296) : crcLs k x < 4294967296 := by
  induction k with
  | zero => exact h
  | succ k ih => exact crcL_lt _ ih
theorem crcL_xor (x y : Nat) : crcL (x ^^^ y) = crcL x ^^^ crcL y := by
  unfold crcL
  have h1 : (x ^^^ y) / 2 = x / 2 ^^^ y / 2 := by
    have := Nat.xor_div_two_pow (a := x) (b := y) (n := 1)
    simpa using this
  have h2 : (x ^^^ y) % 2 = (x % 2) ^^^ (y % 2) := by
    have := Nat.xor_mod_two_pow (a := x) (b := y) (n := 1)
    simpa using this
  rw [h1, h2]
  rcases Nat.mod_two_eq_zero_or_one x with hx | hx <;> rcases Nat.mod_two_eq_zero_or_one y with hy | hy <;> simp [hx, hy]
  · rw [Nat.xor_assoc]
  · rw [Nat.xor_assoc, Nat.xor_comm (y / 2), ← Nat.xor_assoc]
  · rw [Nat.xor_assoc, Nat.xor_comm 3988292384, Nat.xor_assoc, Nat.xor_self, Nat.xor_zero]
theorem crcLs_xor (k x y : Nat) : crcLs k (x ^^^ y) = crcLs k x ^^^ crcLs k y := by
  induction k with
  | zero => rfl
  | succ k ih => simp only [crcLs]; rw [ih, crcL_xor]
theorem crcLs_add (j k x : Nat) : crcLs (j + k) x = crcLs j (crcLs k x) := by
  induction j with
  | zero => simp [crcLs]
  | succ j ih => rw [Nat.add_right_comm]; simp only [crcLs]; rw [ih]
theorem crcLs_shift (k y : Nat) : crcLs k (2 ^ k * y) = y := by
  induction k generalizing y with
  | zero => simp [crcLs]
  | succ k ih =>
    rw [crcLs_add k 1]
    have : crcLs 1 (2 ^ (k + 1) * y) = 2 ^ k * y := by
      show crcL (2 ^ (k + 1) * y) = 2 ^ k * y
      unfold crcL
      have e : 2 ^ (k + 1) * y = 2 * (2 ^ k * y) := by rw [Nat.pow_succ]; rw [Nat.mul_comm (2 ^ k) 2, Nat.mul_assoc]
      rw [e]
      simp
    rw [this, ih]
/-- The table's way through a byte is the same as eight steps of the register and the byte together. -/
theorem crc_byte (r b : Nat) (hb : b < 256) : crcLs 8 (r ^^^ b) = r / 256 ^^^ crcLs 8 ((r % 256) ^^^ b) := by
  have e : r = 2 ^ 8 * (r / 256) ^^^ (r % 256) := by
    apply Nat.eq_of_testBit_eq
    intro i
    have h1 : (r % 256).testBit i = (decide (i < 8) && r.testBit i) := Nat.testBit_mod_two_pow r 8 i
    have h2 : ∀ j, (r / 256).testBit j = r.testBit (8 + j) := fun j => by
      have h : (r / 2 ^ 8).testBit j = r.testBit (j + 8) := Nat.testBit_div_two_pow r j
      rw [Nat.add_comm]; exact h
    rw [Nat.testBit_xor, Nat.testBit_two_pow_mul, h1, h2]
    by_cases hi : i < 8
    · have : ¬ 8 ≤ i := by omega
      simp [hi, this]
    · have h8 : 8 ≤ i := by omega
      simp [hi, h8, show 8 + (i - 8) = i from by omega]
  conv => lhs; rw [e]
  rw [Nat.xor_assoc, crcLs_xor, crcLs_shift]
/-! The walk's numbers, as natural ones. -/
theorem crcStep_nat (n : Nat) (h : n < 4294967296) : crcStep n = (crcL n : Nat) := by
  unfold crcStep crcL
  rw [andN_one_u32 n h]
  have h2 : ((n : Int) / 2) = ((n / 2 : Nat) : Int) := by omega
  rw [h2]
  have h3 : (3988292384 : Int) = ((3988292384 : Nat) : Int) := rfl
  rcases Nat.mod_two_eq_zero_or_one n with hx | hx
  · simp [hx]
  · rw [h3, xorN_u32 _ _ (by omega) (by omega)]; simp [hx]
theorem crcSteps_nat (k n : Nat) (h : n < 4294967296) : crcSteps k n = (crcLs k n : Nat) := by
  induction k with
  | zero => rfl
  | succ k ih => simp only [crcSteps, crcLs]; rw [ih, crcStep_nat _ (crcLs_lt k n h)]
theorem crcSteps_range (k n : Nat) (h : n < 4294967296) : 0 ≤ crcSteps k n ∧ crcSteps k n ≤ 4294967295 := by
  rw [crcSteps_nat k n h]
  have := crcLs_lt k n h
  omega
/-- The register behind so many bytes. -/
def crcN (s : ByteArray) : Nat → Nat
  | 0 => 4294967295
  | k + 1 => crcLs 8 (crcN s k ^^^ (bt s k).toNat)
theorem bt_nat (s : ByteArray) (i : Int) : bt s i = ((bt s i).toNat : Int) ∧ (bt s i).toNat < 256 := by
  have := bt_range s i
  omega
theorem crcN_lt (s : ByteArray) (k : Nat) : crcN s k < 4294967296 := by
  induction k with
  | zero => show 4294967295 < 4294967296; decide
  | succ k ih =>
    have hb := (bt_nat s k).2
    have : crcN s k ^^^ (bt s k).toNat < 2 ^ 32 := Nat.xor_lt_two_pow (by omega) (by omega)
    exact crcLs_lt _ _ (by omega)
theorem crcIdx (c b : Int) (hc0 : 0 ≤ c) (hb0 : 0 ≤ b) (hb1 : b ≤ 255) : 0 ≤ Go.bits .xor .u8 (c % 256) b ∧ Go.bits .xor .u8 (c % 256) b ≤ 255 := by
  obtain ⟨x, hx⟩ : ∃ x : Nat, c % 256 = x := ⟨(c % 256).toNat, by omega⟩
  obtain ⟨y, rfl⟩ : ∃ y : Nat, b = y := ⟨b.toNat, by omega⟩
  rw [hx, xorN_u8 _ _ (by omega) (by omega)]
  have : x ^^^ y < 2 ^ 8 := Nat.xor_lt_two_pow (by omega) (by omega)
  omega
theorem crcNext_nat (n b : Nat) (hn : n < 4294967296) (hb : b < 256) : crcNext n b = (crcLs 8 (n ^^^ b) : Nat) := by
  have e1 : ((n : Int) % 256) = ((n % 256 : Nat) : Int) := by omega
  have e2 : ((n : Int) / 256) = ((n / 256 : Nat) : Int) := by omega
  unfold crcNext crcEnt
  rw [e1, e2, xorN_u8 _ _ (by omega) hb]
  have hx : n % 256 ^^^ b < 2 ^ 8 := Nat.xor_lt_two_pow (by omega) (by omega)
  rw [Int.toNat_natCast, crcSteps_nat 8 _ (by omega), xorN_u32 _ _ (by omega) (crcLs_lt 8 _ (by omega)), ← crc_byte n b hb]
theorem crcReg_nat (s : ByteArray) (k : Nat) : crcReg s k = (crcN s k : Nat) := by
  induction k with
  | zero => rfl
  | succ k ih =>
    have hb := bt_nat s k
    simp only [crcReg, crcN]
    rw [ih]
    conv => lhs; rw [hb.1]
    exact crcNext_nat _ _ (crcN_lt s k) hb.2
theorem crcReg_range (s : ByteArray) (k : Nat) : 0 ≤ crcReg s k ∧ crcReg s k ≤ 4294967295 := by
  rw [crcReg_nat]
  have := crcN_lt s k
  omega
theorem crcOut_nat (n : Nat) (h : n < 4294967296) : wrap64 (Go.bits .xor .u32 IntKind.u32.max n) = 4294967295 - n := by
  rw [notN_u32 n h]
  unfold wrap64
  omega
end Go.Proofs.Ytcacdneodpoboaa
