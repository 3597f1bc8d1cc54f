/- The lowest bytes of a number, the highest first. -/
import Derived.Test.YtmchcoafkaggkaaDoorBase
set_option linter.unusedVariables false
set_option linter.unusedSimpArgs false
namespace Go.Proofs.YtmchcoafkaggkaaDoor
open Go.RowKit Go.Proofs.YtmchcoafkaggkaaDoorW.PrintWords

/-- The lowest bytes of v, the highest first: so many. -/
def numB : Nat → Int → List Int
  | 0, _ => []
  | n + 1, v => (v / 256 ^ n) % 256 :: numB n v

theorem numB_length (n : Nat) (v : Int) : (numB n v).length = n := by
  induction n with
  | zero => rfl
  | succ n ih => simp [numB, ih]

theorem numB_get (n : Nat) : ∀ (v : Int) (i : Nat), i < n → (numB n v)[i]? = some ((v / 256 ^ (n - 1 - i)) % 256) := by
  induction n with
  | zero => intro v i h; omega
  | succ n ih =>
    intro v i h
    cases i with
    | zero => simp [numB]
    | succ i => simp only [numB, List.getElem?_cons_succ]; rw [ih v i (by omega)]; congr 4; omega

theorem strOfNums_size (l : List Int) : (strOfNums l).size = l.length := by simp [strOfNums, ByteArray.size]
end Go.Proofs.YtmchcoafkaggkaaDoor
