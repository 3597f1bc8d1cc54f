/- The block function of SHA-256 as plain Lean functions, and the worlds through which its walk goes: rows of 64 and 8 words, stored, loaded, kept by draws. No condition but those that each theorem states. -/
import Derived.Test.YtmchcoafkaggkaaDoorGlob
import Derived.Test.YtmchcoafkaggkaaDoorWMore
import Derived.Deep.QuietTactic
import Derived.BigQuiet
import Derived.Deep.RegionHeld3
import Derived.StillTailTactics
set_option linter.unusedVariables false
namespace Go.Proofs.YtmchcoafkaggkaaDoor
open Go Go.RowKit Go.Proofs.YtmchcoafkaggkaaDoorW.PrintWords Go.Proofs.YtmchcoafkaggkaaDoorW.PrintMore
theorem a64_info : (Tryd.prog.info? 154).map (fun i => (i.zero, i.size)) = some (some (.agg (Array.replicate 64 (.int .u32 0))), 64) := by kernel_rfl
theorem a8_info : (Tryd.prog.info? 144).map (fun i => (i.zero, i.size)) = some (some (.agg (Array.replicate 8 (.int .u32 0))), 8) := by kernel_rfl
def wrow (f : Nat → Int) : Array Value := rowOf 64 fun j => .int .u32 (f j)
def srow (f : Nat → Int) : Array Value := rowOf 8 fun j => .int .u32 (f j)
theorem wrow_zero : Array.replicate 64 (Value.int .u32 0) = wrow (fun _ => 0) := rowOf_replicate _ _
theorem srow_zero : Array.replicate 8 (Value.int .u32 0) = srow (fun _ => 0) := rowOf_replicate _ _
theorem wrow_size (f : Nat → Int) : (wrow f).size = 64 := rowOf_size _ _
theorem srow_size (f : Nat → Int) : (srow f).size = 8 := rowOf_size _ _
theorem wrow_one (f : Nat → Int) : (wrow f).all (·.oneCell') = true := rowOf_one _ _ fun _ => rfl
theorem srow_one (f : Nat → Int) : (srow f).all (·.oneCell') = true := rowOf_one _ _ fun _ => rfl
theorem wrow_at (f : Nat → Int) (j : Nat) (hj : j < 64) : (wrow f)[j]? = some (.int .u32 (f j)) := rowOf_at _ _ _ hj
theorem srow_at (f : Nat → Int) (j : Nat) (hj : j < 8) : (srow f)[j]? = some (.int .u32 (f j)) := rowOf_at _ _ _ hj
theorem wrow_set (f : Nat → Int) (i : Nat) (v : Int) : (wrow f).setIfInBounds i (.int .u32 v) = wrow fun j => if j = i then v else f j := by
  rw [wrow, rowOf_set]
  exact rowOf_congr _ _ _ fun j _ => by by_cases h : j = i <;> simp [h]
theorem srow_set (f : Nat → Int) (i : Nat) (v : Int) : (srow f).setIfInBounds i (.int .u32 v) = srow fun j => if j = i then v else f j := by
  rw [srow, rowOf_set]
  exact rowOf_congr _ _ _ fun j _ => by by_cases h : j = i <;> simp [h]
theorem srow_congr (f g : Nat → Int) (h : ∀ j, j < 8 → f j = g j) : srow f = srow g := rowOf_congr _ _ _ fun j hj => by rw [h j hj]
theorem srow_lit (f : Nat → Int) : (#[.int .u32 (f 0), .int .u32 (f 1), .int .u32 (f 2), .int .u32 (f 3), .int .u32 (f 4), .int .u32 (f 5), .int .u32 (f 6), .int .u32 (f 7)] : Array Value) = srow f := rfl
def oct (a0 a1 a2 a3 a4 a5 a6 a7 : Int) : Nat → Int
  | 0 => a0
  | 1 => a1
  | 2 => a2
  | 3 => a3
  | 4 => a4
  | 5 => a5
  | 6 => a6
  | 7 => a7
  | _ => 0
theorem srow8 (a0 a1 a2 a3 a4 a5 a6 a7 : Int) : (#[.int .u32 a0, .int .u32 a1, .int .u32 a2, .int .u32 a3, .int .u32 a4, .int .u32 a5, .int .u32 a6, .int .u32 a7] : Array Value) = srow (oct a0 a1 a2 a3 a4 a5 a6 a7) := rfl
attribute [irreducible] wrow srow
def ld (b : ByteArray) (j : Nat) : Nat → Int
  | 0 => 0
  | k + 1 => Go.bits .or .u32 (ld b j k * 256 % 4294967296) (bt b (4 * (j : Int) + (k : Int)) % 4294967296)
def ph1 (b : ByteArray) (i k : Nat) (j : Nat) : Int := if j < i then ld b j 4 else if j = i then ld b i k else 0
def wof (w : World) (s0 f : Nat → Int) : World := ((w.alloc (.cells (srow s0) 144)).alloc (.cells (srow fun _ => 0) 144)).alloc (.cells (wrow f) 154)
theorem heap_drewN (w : World) (n : Nat) : (w.drewN n).heap = w.heap := rfl
theorem wof_heap (w : World) (s0 f : Nat → Int) (n : Nat) : ((wof w s0 f).drewN n).heap[w.heap.size + 1 + 1]? = some (.cells (wrow f) 154) := heap_three _ _ _ _
theorem wof_cell (w : World) (s0 f : Nat → Int) (n i : Nat) (hi : i < 64) : ((wof w s0 f).drewN n).cell? ⟨w.heap.size + 1 + 1, i, none⟩ = some (.int .u32 (f i)) :=
  (cell_of_row _ _ _ _ _ _ (wof_heap w s0 f n)).trans (wrow_at f i hi)
theorem wof_frozen (w : World) (s0 f : Nat → Int) (n i : Nat) : ((wof w s0 f).drewN n).frozen? ⟨w.heap.size + 1 + 1, i, none⟩ = false := by
  have := wof_heap w s0 f n
  simp only [World.frozen?, this]
  rfl
theorem setCell_row {w : World} {b : Nat} {t : TypeId} {cs : Array Value} (h : w.heap[b]? = some (.cells cs t)) (i : Nat) (v : Value) : w.setCell ⟨b, i, none⟩ v = w.setRow b (cs.setIfInBounds i v) := by
  simp only [World.setCell, World.setRow]
  congr 1
  apply Array.ext_getElem?
  intro k
  rw [Array.getElem?_modify, Array.getElem?_modify]
  by_cases hk : b = k
  · subst hk
    simp [h]
  · simp [hk]
theorem setRow_drewN (w : World) (n b : Nat) (cs : Array Value) : (w.drewN n).setRow b cs = (w.setRow b cs).drewN n := rfl
theorem wof_set (w : World) (s0 f : Nat → Int) (n i : Nat) (v : Int) : ((wof w s0 f).drewN n).setCell ⟨w.heap.size + 1 + 1, i, none⟩ (.int .u32 v) = (wof w s0 (fun j => if j = i then v else f j)).drewN n := by
  rw [setCell_row (wof_heap w s0 f n), setRow_drewN, wof, setRow_three, wrow_set]
  rfl
theorem drew_one (w : World) (n : Nat) : ({ w.drewN n with drawn := (w.drewN n).drawn + 1 } : World) = w.drewN (n + 1) := rfl
theorem ph1_step (b : ByteArray) (i k : Nat) : (fun j => if j = i then Go.bits .or .u32 (ph1 b i k i * 256 % 4294967296) (bt b (4 * (i : Int) + (k : Int)) % 4294967296) else ph1 b i k j) = ph1 b i (k + 1) := by
  funext j
  by_cases h : j = i
  · subst h
    simp [ph1, ld]
  · simp [ph1, h]
def rotI (x n : Int) : Int := Go.bits .or .u32 (shl .u32 x (32 - n)) (shr .u32 x n)
def wnx (f : Nat → Int) (t : Nat) : Int := (((f (t - 16) + Go.bits .xor .u32 (Go.bits .xor .u32 (rotI (f (t - 15)) 7) (rotI (f (t - 15)) 18)) (f (t - 15) / 8)) % 4294967296 + f (t - 7)) % 4294967296 + Go.bits .xor .u32 (Go.bits .xor .u32 (rotI (f (t - 2)) 17) (rotI (f (t - 2)) 19)) (f (t - 2) / 1024)) % 4294967296
def wst (b : ByteArray) : Nat → Nat → Int
  | 0 => ph1 b 16 0
  | t + 1 => fun j => if j = t + 16 then wnx (wst b t) (t + 16) else wst b t j
theorem wof_cellZ (w : World) (s0 f : Nat → Int) (n : Nat) (i : Int) (j : Nat) (x : Int) (hi : i = j) (hj : j < 64) (hx : f j = x) : ((wof w s0 f).drewN n).cell? ⟨w.heap.size + 1 + 1, i.toNat, none⟩ = some (.int .u32 x) := by
  subst hi
  subst hx
  exact wof_cell w s0 f n _ hj
theorem cell_other {W : World} {b o o' : Nat} {v : Value} (h : W.cell? ⟨b, o', none⟩ = some v) (hn : ¬ o = o') (n : Nat) (u : Value) : ((W.drewN n).setCell ⟨b, o, none⟩ u).cell? ⟨b, o', none⟩ = some v := by
  have : (W.drewN n).cell? ⟨b, o', none⟩ = some v := h
  rw [← this]
  simp only [World.cell?, World.setCell, Array.getElem?_modify]
  cases hb : (W.drewN n).heap[b]? with
  | none => simp
  | some x => cases x <;> simp [hn]
theorem wof_heap0 (w : World) (s0 f : Nat → Int) (n : Nat) : ((wof w s0 f).drewN n).heap[w.heap.size]? = some (.cells (srow s0) 144) := by
  rw [heap_drewN, wof]
  rw [Below.heap_alloc _ _ _ (by simp; omega), Below.heap_alloc _ _ _ (by simp)]
  exact heap_alloc_last w _
def wof2 (w : World) (s0 f g : Nat → Int) : World := (wof w s0 f).alloc (.cells (srow g) 144)
theorem wof_size (w : World) (s0 f : Nat → Int) : (wof w s0 f).heap.size = w.heap.size + 1 + 1 + 1 := by simp [wof, World.size_alloc]
theorem wof2_heap (w : World) (s0 f g : Nat → Int) (n : Nat) : ((wof2 w s0 f g).drewN n).heap[w.heap.size + 1 + 1 + 1]? = some (.cells (srow g) 144) := by
  rw [heap_drewN, wof2, ← wof_size w s0 f]
  exact heap_alloc_last _ _
theorem wof2_low (w : World) (s0 f g : Nat → Int) (n b : Nat) (h : b < w.heap.size + 1 + 1 + 1) : ((wof2 w s0 f g).drewN n).heap[b]? = ((wof w s0 f).drewN 0).heap[b]? := by
  rw [heap_drewN, heap_drewN, wof2]
  exact Below.heap_alloc _ _ _ (by rw [wof_size]; exact h)
theorem wof2_congr (w : World) (s0 f g g' : Nat → Int) (h : ∀ j, j < 8 → g j = g' j) : wof2 w s0 f g = wof2 w s0 f g' := by
  rw [wof2, wof2, srow_congr g g' h]
theorem wof2_setRow (w : World) (s0 f g g' : Nat → Int) (n : Nat) : ((wof2 w s0 f g).drewN n).setRow (w.heap.size + 1 + 1 + 1) (srow g') = (wof2 w s0 f g').drewN n := by
  rw [setRow_drewN, wof2, ← wof_size w s0 f, World.setRow_alloc_new]
  rfl
theorem wof2_set (w : World) (s0 f g : Nat → Int) (n i : Nat) (v : Int) : ((wof2 w s0 f g).drewN n).setCell ⟨w.heap.size + 1 + 1 + 1, i, none⟩ (.int .u32 v) = (wof2 w s0 f (fun j => if j = i then v else g j)).drewN n := by
  rw [setCell_row (wof2_heap w s0 f g n), srow_set, wof2_setRow]
theorem wof2_cell (w : World) (s0 f g : Nat → Int) (n i : Nat) (hi : i < 8) : ((wof2 w s0 f g).drewN n).cell? ⟨w.heap.size + 1 + 1 + 1, i, none⟩ = some (.int .u32 (g i)) :=
  (cell_of_row _ _ _ _ _ _ (wof2_heap w s0 f g n)).trans (srow_at g i hi)
theorem wof2_cellw (w : World) (s0 f g : Nat → Int) (n i : Nat) (hi : i < 64) : ((wof2 w s0 f g).drewN n).cell? ⟨w.heap.size + 1 + 1, i, none⟩ = some (.int .u32 (f i)) :=
  (cell_of_row _ _ _ _ _ _ ((wof2_low w s0 f g n _ (by omega)).trans (wof_heap w s0 f 0))).trans (wrow_at f i hi)
theorem wof2_cell0 (w : World) (s0 f g : Nat → Int) (n i : Nat) (hi : i < 8) : ((wof2 w s0 f g).drewN n).cell? ⟨w.heap.size, i, none⟩ = some (.int .u32 (s0 i)) :=
  (cell_of_row _ _ _ _ _ _ ((wof2_low w s0 f g n _ (by omega)).trans (wof_heap0 w s0 f 0))).trans (srow_at s0 i hi)
theorem wof_below (w : World) (s0 f : Nat → Int) : Below w.heap.size w (wof w s0 f) := by
  refine Below.alloc (Below.alloc (Below.alloc (Below.refl _ _) (Nat.le_refl _) _) ?_ _) ?_ _
  · simp
  · simp; omega
theorem wof2_below (w : World) (s0 f g : Nat → Int) (n : Nat) : Below w.heap.size w ((wof2 w s0 f g).drewN n) := by
  have h : Below w.heap.size w (wof2 w s0 f g) := (wof_below w s0 f).alloc (by rw [wof_size]; omega) _
  exact ⟨h.os, h.tape, h.output, h.size, h.block⟩
theorem below_setRow {B : Nat} {a w : World} (h : Below B a w) {b : Nat} (hb : B ≤ b) (cs : Array Value) : Below B a (w.setRow b cs) := by
  refine h.trans ⟨rfl, rfl, rfl, by simp [World.setRow], fun k hk => ?_⟩
  simp only [World.setRow, Array.getElem?_modify]
  rw [if_neg (by omega)]
def rnd1 (F : Nat → Int) (t : Nat) (g : Nat → Int) : Int :=
  (g 7 + Go.bits .xor .u32 (Go.bits .xor .u32 (rotI (g 4) 6) (rotI (g 4) 11)) (rotI (g 4) 25) + Go.bits .xor .u32 (Go.bits .and .u32 (g 4) (g 5)) (Go.bits .and .u32 (Go.bits .xor .u32 IntKind.u32.max (g 4)) (g 6)) + kw.getD t 0 + F t) % 4294967296
def rnd2 (g : Nat → Int) : Int :=
  (Go.bits .xor .u32 (Go.bits .xor .u32 (rotI (g 0) 2) (rotI (g 0) 13)) (rotI (g 0) 22) + Go.bits .xor .u32 (Go.bits .xor .u32 (Go.bits .and .u32 (g 0) (g 1)) (Go.bits .and .u32 (g 0) (g 2))) (Go.bits .and .u32 (g 1) (g 2))) % 4294967296
def rnd (F : Nat → Int) (t : Nat) (g : Nat → Int) : Nat → Int
  | 0 => (rnd1 F t g + rnd2 g) % 4294967296
  | 4 => (g 3 + rnd1 F t g) % 4294967296
  | j + 1 => g j
def rds (s0 F : Nat → Int) : Nat → Nat → Int
  | 0 => s0
  | t + 1 => rnd F t (rds s0 F t)
theorem quietA {P : Program} {f : FuncId} {args : Array Value} {W : World} {q a : Nat} {v : Value} (h : Calls P f args (W.drewN (q + a)) fun e w' => e = .returned v ∧ ∃ m, w' = (W.drewN (q + a)).drewN m) : Calls P f args (W.drewN (q + a)) fun e w'' => e = .returned v ∧ ∃ n, w'' = W.drewN (q + n) :=
  h.mono fun _ _ ⟨he, m, hm⟩ => ⟨he, a + m, by rw [hm, World.drewN_drewN, Nat.add_assoc]⟩
def fin (g s0 : Nat → Int) (i j : Nat) : Int := if j < i then (g j + s0 j) % 4294967296 else g j
theorem fin_zero (g s0 : Nat → Int) : fin g s0 0 = g := by
  funext j
  simp [fin]
theorem fin_at (g s0 : Nat → Int) (i : Nat) : fin g s0 i i = g i := by simp [fin]
theorem fin_succ (g s0 : Nat → Int) (i : Nat) : (fun j => if j = i then (g i + s0 i) % 4294967296 else fin g s0 i j) = fin g s0 (i + 1) := by
  funext j
  by_cases h : j = i
  · subst h
    simp [fin]
  · by_cases h2 : j < i
    · simp [fin, h, h2, Nat.lt_succ_of_lt h2]
    · simp only [fin, h, h2, if_false]
      rw [if_neg (by omega)]
theorem wof_heap4 (w : World) (s0 f : Nat → Int) (n : Nat) : ((wof w s0 f).drewN n).heap[w.heap.size + 1]? = some (.cells (srow fun _ => 0) 144) := by
  rw [heap_drewN, wof]
  rw [Below.heap_alloc _ _ _ (by simp)]
  exact heap_two_new _ _ _
theorem wof2_heap4 (w : World) (s0 f g : Nat → Int) (n : Nat) : ((wof2 w s0 f g).drewN n).heap[w.heap.size + 1]? = some (.cells (srow fun _ => 0) 144) :=
  (wof2_low w s0 f g n _ (by omega)).trans (wof_heap4 w s0 f 0)
theorem wof2_frozen (w : World) (s0 f g : Nat → Int) (n i : Nat) : ((wof2 w s0 f g).drewN n).frozen? ⟨w.heap.size + 1 + 1 + 1, i, none⟩ = false := by
  have := wof2_heap w s0 f g n
  simp only [World.frozen?, this]
  rfl
theorem heap_setRow_same {w : World} {b : Nat} {cs cs' : Array Value} {t : TypeId} (h : w.heap[b]? = some (.cells cs t)) : (w.setRow b cs').heap[b]? = some (.cells cs' t) := by
  simp [World.setRow, Array.getElem?_modify, h]
theorem drew_one' (w : World) : ({ w with drawn := w.drawn + 1 } : World) = w.drewN 1 := rfl
theorem wpList_store_oct {P : Program} {ops : Array Oper} {rest : List Oper} {o : Oper} {a : Act} {w : World} {Q : Exit → Act → World → Prop} (hgd : o.guard = none) (ty : TypeId) (x y : Operand) (ho : o.op = .store ty x y)
    (b : Nat) (hx : a.eval x = .pointer (some ⟨b, 0, none⟩)) {a0 a1 a2 a3 a4 a5 a6 a7 : Int} (hy : a.eval y = .agg #[.int .u32 a0, .int .u32 a1, .int .u32 a2, .int .u32 a3, .int .u32 a4, .int .u32 a5, .int .u32 a6, .int .u32 a7])
    (t : TypeId) (old : Nat → Int) (hg : w.heap[b]? = some (.cells (srow old) t (0, 0))) (hi : (P.info? ty).map (·.size) = some 8)
    (h : wpList P ops Q rest (a.put o.dst undef) (w.setRow b (srow (oct a0 a1 a2 a3 a4 a5 a6 a7)))) : wpList P ops Q (o :: rest) a w :=
  wpList_store_row hgd ty x y ho b _ hx (hy.trans (congrArg Value.agg (srow8 _ _ _ _ _ _ _ _))) t _ hg (by rw [srow_size]; exact hi) (by rw [srow_size, srow_size]) (srow_one _) h
theorem emod_two (a b m : Int) : (a + b) % m = (a % m + b % m) % m := Int.add_emod _ _ _
theorem emod_one (a b m : Int) : (a + b) % m = (a + b % m) % m := (Int.add_emod_emod _ _ _).symm
theorem rds_step (w : World) (s0 F g : Nat → Int) (n t : Nat) {W : World} {N : Nat} {T : Nat → Int} (hW : (wof2 w s0 F g).drewN n = W) (hg : rds s0 F t = g) (hT : ∀ j, j < 8 → T j = rnd F t g j) :
    (W.drewN N).setRow (w.heap.size + 1 + 1 + 1) (srow T) = (wof2 w s0 F (rds s0 F (t + 1))).drewN (n + N) := by
  rw [← hW, World.drewN_drewN, wof2_setRow, wof2_congr w s0 F T (rds s0 F (t + 1)) (fun j hj => by rw [hT j hj, ← hg]; rfl)]
theorem ph1_zero (b : ByteArray) : ph1 b 0 0 = fun _ => 0 := by
  funext j
  simp [ph1, ld]
theorem ph1_next (b : ByteArray) (i : Nat) : ph1 b (i + 1) 0 = ph1 b i 4 := by
  funext j
  simp only [ph1]
  by_cases h1 : j < i
  · simp [h1, Nat.lt_succ_of_lt h1]
  · by_cases h2 : j = i
    · subst h2
      simp
    · rw [if_neg (by omega), if_neg h1, if_neg h2]
      split <;> simp [ld]
end Go.Proofs.YtmchcoafkaggkaaDoor
