/- General facts that the texts of this seat share: rows told by a function of the place; worlds with blocks just made; whole arrays stored and loaded; 'xor' on natural numbers. -/
import Derived.Test.YtmchcoafkaggkaaDoorProg
import Derived.WalkKit
import Derived.WalkSpells
import Derived.WalkLawsBesides
import Derived.Deep.WholeRow
import Derived.Deep.LoopGhost
import Derived.Test.YtmchcoafkaggkaaDoorWWords
set_option linter.unusedVariables false
set_option linter.unusedSimpArgs false
namespace Go.Proofs.YtmchcoafkaggkaaDoor
open Go.RowKit Go.Proofs.YtmchcoafkaggkaaDoorW.PrintWords
/-- A row of N cells, told by a function of the place. -/
def rowOf (N : Nat) (f : Nat → Value) : Array Value := ((List.range N).map f).toArray
theorem rowOf_size (N : Nat) (f : Nat → Value) : (rowOf N f).size = N := by simp [rowOf]
theorem rowOf_at (N : Nat) (f : Nat → Value) (j : Nat) (hj : j < N) : (rowOf N f)[j]? = some (f j) := by simp [rowOf, hj]
theorem rowOf_congr (N : Nat) (f g : Nat → Value) (h : ∀ j, j < N → f j = g j) : rowOf N f = rowOf N g := by
  unfold rowOf
  congr 1
  apply List.map_congr_left
  intro j hj
  exact h j (List.mem_range.1 hj)
theorem rowOf_replicate (N : Nat) (v : Value) : Array.replicate N v = rowOf N (fun _ => v) := by
  apply Array.ext
  · simp [rowOf]
  · intro i h1 h2
    simp [rowOf]
theorem rowOf_one (N : Nat) (f : Nat → Value) (h : ∀ j, (f j).oneCell' = true) : (rowOf N f).all (·.oneCell') = true := by
  simp [rowOf, h]
theorem rowOf_set (N : Nat) (f : Nat → Value) (n : Nat) (v : Value) : (rowOf N f).setIfInBounds n v = rowOf N (fun j => if j = n then v else f j) := by
  apply Array.ext
  · simp [rowOf]
  · intro j h1 h2
    have hj : j < N := by simpa [rowOf] using h2
    rw [Array.getElem_setIfInBounds (by simpa [rowOf] using hj)]
    by_cases h : n = j
    · subst h; simp [rowOf]
    · have h' : ¬ j = n := fun e => h e.symm
      simp [h, h', rowOf]
theorem heap_two_new (w : World) (A B : Obj) : ((w.alloc A).alloc B).heap[w.heap.size + 1]? = some B := heap_alloc2_new w A B
theorem setRow_two_new (w : World) (A : Obj) (c c' : Array Value) (t : TypeId) : ((w.alloc A).alloc (.cells c t)).setRow (w.heap.size + 1) c' = (w.alloc A).alloc (.cells c' t) := by
  have := World.setRow_alloc_new (w.alloc A) c c' t
  rw [World.size_alloc] at this
  exact this
theorem setRow_two_old (w : World) (B : Obj) (c c' : Array Value) (t : TypeId) : ((w.alloc (.cells c t)).alloc B).setRow w.heap.size c' = (w.alloc (.cells c' t)).alloc B := by
  simp only [World.setRow, World.alloc]
  congr 1
  apply Array.ext_getElem?
  intro i
  rw [Array.getElem?_modify]
  simp only [Array.getElem?_push, Array.size_push]
  by_cases h : w.heap.size = i
  · subst h
    simp
  · have h' : ¬ i = w.heap.size := fun e => h e.symm
    simp [h, h']
theorem heap_three (w : World) (A B C : Obj) : (((w.alloc A).alloc B).alloc C).heap[w.heap.size + 1 + 1]? = some C := by
  have := heap_alloc2_new (w.alloc A) B C
  rw [World.size_alloc] at this
  exact this
theorem setRow_three (w : World) (A B : Obj) (c c' : Array Value) (t : TypeId) : (((w.alloc A).alloc B).alloc (.cells c t)).setRow (w.heap.size + 1 + 1) c' = ((w.alloc A).alloc B).alloc (.cells c' t) := by
  have := setRow_two_new (w.alloc A) B c c' t
  rw [World.size_alloc] at this
  exact this
theorem xor_nat (k : IntKind) (j : Nat) (hj : j ≤ k.bits) (hk : ∀ n : Int, 0 ≤ n → n < 2 ^ j → k.wrap n = n) (a b : Nat) (ha : a < 2 ^ j) (hb : b < 2 ^ j) :
    Go.bits .xor k a b = ((a ^^^ b : Nat) : Int) := by
  have hp : 2 ^ j ≤ 2 ^ k.bits := Nat.pow_le_pow_right (by decide) hj
  have ha' : a % 2 ^ k.bits = a := Nat.mod_eq_of_lt (Nat.lt_of_lt_of_le ha hp)
  have hb' : b % 2 ^ k.bits = b := Nat.mod_eq_of_lt (Nat.lt_of_lt_of_le hb hp)
  have cast : ∀ n : Nat, n < 2 ^ j → ((n : Nat) : Int) < 2 ^ j := fun n h => by exact_mod_cast h
  simp only [Go.bits, BitVec.ofInt_natCast, BitVec.toNat_xor, BitVec.toNat_ofNat, ha', hb']
  exact hk _ (Int.natCast_nonneg _) (cast _ (Nat.xor_lt_two_pow ha hb))
theorem xorN_u32 (a b : Nat) (ha : a < 4294967296) (hb : b < 4294967296) : Go.bits .xor .u32 a b = ((a ^^^ b : Nat) : Int) :=
  xor_nat .u32 32 (by decide) (fun n h0 h1 => by rw [IntKind.wrap_u32]; omega) a b (by omega) (by omega)
theorem xorN_u8 (a b : Nat) (ha : a < 256) (hb : b < 256) : Go.bits .xor .u8 a b = ((a ^^^ b : Nat) : Int) :=
  xor_nat .u8 8 (by decide) (fun n h0 h1 => by rw [IntKind.wrap_u8]; omega) a b (by omega) (by omega)
theorem xorN_i64 (a b : Nat) (ha : a < 9223372036854775808) (hb : b < 9223372036854775808) : Go.bits .xor .i64 a b = ((a ^^^ b : Nat) : Int) :=
  xor_nat .i64 63 (by decide) (fun n h0 h1 => by rw [IntKind.wrap_i64]; omega) a b (by omega) (by omega)
theorem andN_one_u32 (a : Nat) (ha : a < 4294967296) : Go.bits .and .u32 a 1 = ((a % 2 : Nat) : Int) := by
  have := bits_mask .u32 32 (by decide) (fun n h0 h1 => by rw [IntKind.wrap_u32]; omega) 1 (by decide) a (by omega) (by omega)
  simpa using this
theorem notN_u32 (a : Nat) (ha : a < 4294967296) : Go.bits .xor .u32 IntKind.u32.max a = ((4294967295 - a : Nat) : Int) := by
  have e : IntKind.u32.max = ((4294967295 : Nat) : Int) := by decide
  rw [e, xorN_u32 _ _ (by omega) ha]
  have hv : (4294967295 : Nat) ^^^ a = 4294967295 - a := by
    have h1 := congrArg BitVec.toNat (BitVec.allOnes_xor (x := BitVec.ofNat 32 a))
    simp only [BitVec.toNat_xor, BitVec.toNat_allOnes, BitVec.toNat_ofNat, BitVec.toNat_not] at h1
    rw [Nat.mod_eq_of_lt (by omega)] at h1
    simpa using h1
  rw [hv]
end Go.Proofs.YtmchcoafkaggkaaDoor
