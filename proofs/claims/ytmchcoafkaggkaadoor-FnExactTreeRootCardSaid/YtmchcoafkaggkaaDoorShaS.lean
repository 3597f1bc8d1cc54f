/- SHA-256 as plain Lean functions: the padded text, the states from block to block, the digest. No condition but those that each theorem states. -/
import Derived.Test.YtmchcoafkaggkaaDoorShaW
import Derived.Test.YtmchcoafkaggkaaDoorNumD
set_option linter.unusedVariables false
set_option linter.unusedSimpArgs false
namespace Go.Proofs.YtmchcoafkaggkaaDoor
open Go Go.RowKit Go.Proofs.YtmchcoafkaggkaaDoorW.PrintWords Go.Proofs.YtmchcoafkaggkaaDoorW.PrintMore
/-- The state behind one block. -/
def cmp (st : Nat → Int) (block : ByteArray) : Nat → Int := fin (rds st (wst block 48) 64) st 8
theorem cmp_range (st : Nat → Int) (b : ByteArray) (j : Nat) (hj : j < 8) : 0 ≤ cmp st b j ∧ cmp st b j ≤ 4294967295 := by
  have : cmp st b j = (rds st (wst b 48) 64 j + st j) % 4294967296 := by simp [cmp, fin, hj]
  rw [this]
  omega
/-- So many zero bytes behind t. -/
def padTo : Nat → ByteArray → ByteArray
  | 0, t => t
  | n + 1, t => padTo n (t ++ ⟨#[0]⟩)
theorem padTo_size (n : Nat) : ∀ t : ByteArray, (padTo n t).size = t.size + n := by
  induction n with
  | zero => intro t; rfl
  | succ n ih =>
    intro t
    rw [padTo, ih]
    have : (t ++ (⟨#[0]⟩ : ByteArray)).size = t.size + 1 := by rw [ByteArray.size_append]; rfl
    omega
def sha0 : Nat → Int := oct 1779033703 3144134277 1013904242 2773480762 1359893119 2600822924 528734635 1541459225
theorem sha0_range (j : Nat) (hj : j < 8) : 0 ≤ sha0 j ∧ sha0 j ≤ 4294967295 := by
  have : j = 0 ∨ j = 1 ∨ j = 2 ∨ j = 3 ∨ j = 4 ∨ j = 5 ∨ j = 6 ∨ j = 7 := by omega
  rcases this with rfl | rfl | rfl | rfl | rfl | rfl | rfl | rfl <;> (simp only [sha0, oct]; omega)
def shaSt (t : ByteArray) : Nat → Nat → Int
  | 0 => sha0
  | i + 1 => cmp (shaSt t i) (t.extract (64 * i) (64 * i + 64))
theorem shaSt_range (t : ByteArray) (i j : Nat) (hj : j < 8) : 0 ≤ shaSt t i j ∧ shaSt t i j ≤ 4294967295 := by
  cases i with
  | zero => exact sha0_range j hj
  | succ i => exact cmp_range _ _ j hj
def shaOut (st : Nat → Int) : Nat → ByteArray
  | 0 => ⟨#[]⟩
  | i + 1 => shaOut st i ++ strOfNums (numB 4 (st i))
theorem shaOut_size (st : Nat → Int) (i : Nat) : (shaOut st i).size = 4 * i := by
  induction i with
  | zero => rfl
  | succ i ih => rw [shaOut, ByteArray.size_append, ih, strOfNums_size, numB_length]; omega
/-- The text with the one bit and the zeros. -/
def shaPad (s : ByteArray) : ByteArray := padTo ((120 - (s.size + 1) % 64) % 64) (s ++ ⟨#[128]⟩)
theorem one_size (s : ByteArray) (b : UInt8) : (s ++ (⟨#[b]⟩ : ByteArray)).size = s.size + 1 := by rw [ByteArray.size_append]; rfl
theorem shaPad_size (s : ByteArray) : (shaPad s).size = s.size + 1 + (120 - (s.size + 1) % 64) % 64 := by rw [shaPad, padTo_size, one_size]
theorem shaPad_mod (s : ByteArray) : (shaPad s).size % 64 = 56 := by rw [shaPad_size]; omega
def shaText (s : ByteArray) : ByteArray := shaPad s ++ strOfNums (numB 8 (8 * (s.size : Int)))
theorem shaText_size (s : ByteArray) : (shaText s).size = (shaPad s).size + 8 := by rw [shaText, ByteArray.size_append, strOfNums_size, numB_length]
theorem shaText_mod (s : ByteArray) : (shaText s).size % 64 = 0 := by
  have := shaPad_mod s
  rw [shaText_size]
  omega
theorem shaText_le (s : ByteArray) : (shaText s).size ≤ s.size + 72 := by rw [shaText_size, shaPad_size]; omega
def shaI (s : ByteArray) : ByteArray := shaOut (shaSt (shaText s) ((shaText s).size / 64)) 8
theorem shaI_size (s : ByteArray) : (shaI s).size = 32 := by rw [shaI, shaOut_size]
theorem extract_extract (t : ByteArray) (i n : Nat) (hn : n = t.size) (h : i + 64 ≤ t.size) : (t.extract i n).extract 64 (n - i) = t.extract (i + 64) n := by
  subst hn
  rw [ByteArray.extract_extract]
  congr 1
  omega
theorem extract_head (t : ByteArray) (i n : Nat) (hn : n = t.size) (h : i + 64 ≤ t.size) : (t.extract i n).extract 0 64 = t.extract i (i + 64) := by
  subst hn
  rw [ByteArray.extract_extract]
  congr 1
  omega
end Go.Proofs.YtmchcoafkaggkaaDoor
