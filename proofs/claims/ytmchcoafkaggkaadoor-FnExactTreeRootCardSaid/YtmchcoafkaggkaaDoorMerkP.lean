/- Digests, leaves, nodes: the reference's functions and the program's tell the same plain functions; conditions: bounds on lengths. -/
import Derived.Test.YtmchcoafkaggkaaDoorLx4
import Derived.Test.YtmchcoafkaggkaaDoorLx9
import Derived.Test.YtmchcoafkaggkaaDoorLx10
import Derived.Test.YtmchcoafkaggkaaDoorShaP
set_option linter.unusedVariables false
set_option linter.unusedSimpArgs false
namespace Go.Proofs.YtmchcoafkaggkaaDoor.Pure
open Go Go.RowKit Go.Proofs.YtmchcoafkaggkaaDoor Go.Proofs.YtmchcoafkaggkaaDoor.L Go.Proofs.YtmchcoafkaggkaaDoorW.PrintWords Go.Proofs.YtmchcoafkaggkaaDoorW.PrintMore Go.Proofs.YtmchcoafkaggkaaDoorW.PrintLast

/-- The digest of a kind. -/
def dig (kind : Int) (s : ByteArray) : ByteArray := if kind = 0 then shaI s else if kind = 1 then (shaI s).extract 0 1 else ⟨#[]⟩
theorem dig_size (kind : Int) (s : ByteArray) : (dig kind s).size ≤ 32 := by
  have := shaI_size s
  unfold dig
  split
  · omega
  · split
    · rw [ByteArray.size_extract]; omega
    · show (0 : Nat) ≤ 32
      omega
theorem impl_sha (s : ByteArray) (hs : s.size ≤ 1099511627776) : impl_Sha256.f s = some (shaI s) := by rw [impl_Sha256.f, if_pos hs]
theorem impl_dig (kind : Int) (s : ByteArray) (hs : s.size ≤ 1099511627776) : impl_Digest.f kind s = some (dig kind s) := by
  have h1 : (1 : Int) ≤ ((shaI s).size : Int) := by rw [shaI_size]; decide
  unfold impl_Digest.f dig
  rw [impl_sha s hs]
  by_cases h : kind = 0
  · rw [if_pos h, if_pos h]; rfl
  · rw [if_neg h, if_neg h]
    by_cases h2 : kind = 1
    · rw [if_pos h2, if_pos h2]
      simp only [Option.bind_some, if_pos h1]
      rfl
    · rw [if_neg h2, if_neg h2]
theorem spec_dig (kind : Int) (s : ByteArray) (hs : s.size ≤ 1099511627776) : Ev (fun k => spec_Digest.f k kind s) (dig kind s) := by
  have h1 : (1 : Int) ≤ ((shaI s).size : Int) := by rw [shaI_size]; decide
  unfold spec_Digest.f dig
  by_cases h : kind = 0
  · simp only [if_pos h]
    exact (spec_sha s hs).bind (Ev.now _)
  · simp only [if_neg h]
    by_cases h2 : kind = 1
    · simp only [if_pos h2]
      refine (spec_sha s hs).bind ?_
      simp only [if_pos (show (0 : Int) ≤ 1 by decide), if_pos h1]
      exact Ev.now _
    · simp only [if_neg h2]
      exact Ev.now _
def leafB (kind : Int) (e : ByteArray) : ByteArray := dig kind ((⟨#[0]⟩ : ByteArray) ++ e)
def nodeB (kind : Int) (l r : ByteArray) : ByteArray := dig kind (((⟨#[1]⟩ : ByteArray) ++ l) ++ r)
theorem leafB_size (kind : Int) (e : ByteArray) : (leafB kind e).size ≤ 32 := dig_size _ _
theorem nodeB_size (kind : Int) (l r : ByteArray) : (nodeB kind l r).size ≤ 32 := dig_size _ _
theorem pre_size (b : UInt8) (e : ByteArray) : ((⟨#[b]⟩ : ByteArray) ++ e).size = 1 + e.size := by rw [ByteArray.size_append]; rfl
theorem impl_leaf (kind : Int) (e : ByteArray) (he : e.size ≤ 10000000000) : impl_Leaf.f kind e = some (leafB kind e) := by
  rw [impl_Leaf.f, if_pos (by omega), impl_dig kind _ (by rw [pre_size]; omega)]; rfl
theorem spec_leaf (kind : Int) (e : ByteArray) (he : e.size ≤ 10000000000) : Ev (fun k => spec_Leaf.f k kind e) (leafB kind e) := by
  unfold spec_Leaf.f
  simp only [if_pos (show 1 + e.size ≤ 9223372036854775807 by omega)]
  exact (spec_dig kind _ (by rw [pre_size]; omega)).bind (Ev.now _)
theorem impl_node (kind : Int) (l r : ByteArray) (hl : l.size ≤ 10000000000) (hr : r.size ≤ 10000000000) : impl_Node.f kind l r = some (nodeB kind l r) := by
  have hp := pre_size 1 l
  rw [impl_Node.f, if_pos (by omega), if_pos (by omega), impl_dig kind _ (by rw [ByteArray.size_append]; omega)]; rfl
theorem spec_node (kind : Int) (l r : ByteArray) (hl : l.size ≤ 10000000000) (hr : r.size ≤ 10000000000) : Ev (fun k => spec_Node.f k kind l r) (nodeB kind l r) := by
  have hp := pre_size 1 l
  unfold spec_Node.f
  simp only [if_pos (show 1 + l.size ≤ 9223372036854775807 by omega), if_pos (show ((⟨#[1]⟩ : ByteArray) ++ l).size + r.size ≤ 9223372036854775807 by omega)]
  exact (spec_dig kind _ (by rw [ByteArray.size_append]; omega)).bind (Ev.now _)
end Go.Proofs.YtmchcoafkaggkaaDoor.Pure
