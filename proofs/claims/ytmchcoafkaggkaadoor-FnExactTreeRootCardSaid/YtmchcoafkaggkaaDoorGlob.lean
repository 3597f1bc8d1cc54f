/- What the package-level variables hold, as the functions that read them ask it of the world (GOK); kept by whatever leaves the blocks that were there as they were. -/
import Derived.Test.YtmchcoafkaggkaaDoorBase
import Derived.Below
set_option linter.unusedVariables false
namespace Go.Proofs.YtmchcoafkaggkaaDoor
open Go Go.RowKit Go.Proofs.YtmchcoafkaggkaaDoorW.PrintWords
/-- The round words. -/
def kw : List Int := [1116352408, 1899447441, 3049323471, 3921009573, 961987163, 1508970993, 2453635748, 2870763221, 3624381080, 310598401, 607225278, 1426881987, 1925078388, 2162078206, 2614888103, 3248222580, 3835390401, 4022224774, 264347078, 604807628, 770255983, 1249150122, 1555081692, 1996064986, 2554220882, 2821834349, 2952996808, 3210313671, 3336571891, 3584528711, 113926993, 338241895, 666307205, 773529912, 1294757372, 1396182291, 1695183700, 1986661051, 2177026350, 2456956037, 2730485921, 2820302411, 3259730800, 3345764771, 3516065817, 3600352804, 4094571909, 275423344, 430227734, 506948616, 659060556, 883997877, 958139571, 1322822218, 1537002063, 1747873779, 1955562222, 2024104815, 2227730452, 2361852424, 2428436474, 2756734187, 3204031479, 3329325298]
/-- The world holds the round words. -/
def GOK (w : World) : Prop := ∀ i : Nat, i < 64 → w.cell? ⟨1, i, none⟩ = some (.int .u32 (kw.getD i 0))
theorem lt_of_cell {w : World} {b o : Nat} {v : Value} (h : w.cell? ⟨b, o, none⟩ = some v) : b < w.heap.size := by
  refine Classical.byContradiction fun hn => ?_
  have : w.heap[b]? = none := Array.getElem?_eq_none (by omega)
  simp [World.cell?, this] at h
theorem GOK.below {w w' : World} (h : GOK w) (hb : Below w.heap.size w w') : GOK w' := fun i hi => by
  rw [hb.cell (lt_of_cell (h i hi))]
  exact h i hi
end Go.Proofs.YtmchcoafkaggkaaDoor
