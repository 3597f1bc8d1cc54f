/- The texts that the proof of the law FnExactDbOK rests on, part 4: printed functions with their contracts, words, plain laws; the last part ends in the statement itself. No condition but those that each theorem states. -/
import Derived.Test.YtoebfjfhdodakaaDoorKFnExactDbOK3
set_option linter.unusedVariables false
set_option linter.unusedSimpArgs false
section
set_option linter.unusedVariables false
set_option linter.unusedSimpArgs false
namespace Go.Proofs.YtoebfjfhdodakaaDoor.L
open Go.RowKit Go.Maps Go.Proofs.YtoebfjfhdodakaaDoor Go.Proofs.YtoebfjfhdodakaaDoorW.PrintWords Go.Proofs.YtoebfjfhdodakaaDoorW.PrintLast Go.Proofs.YtoebfjfhdodakaaDoorW.PrintMore
abbrev DTab := S37
def dbGo (ok : DTab → Bool) (less : ByteArray → ByteArray → Bool) : Option DTab → List DTab → Bool
  | _, [] => true
  | p, t :: r => ok t && ((match p with | none => true | some q => less q.f0 t.f0) && dbGo ok less (some t) r)
theorem dbGo_none (ok : DTab → Bool) (less : ByteArray → ByteArray → Bool) (t : DTab) (r : List DTab) : dbGo ok less none (t :: r) = (ok t && dbGo ok less (some t) r) := by
  rw [dbGo.eq_def]
  simp only [Bool.true_and]
theorem dbGo_some (ok : DTab → Bool) (less : ByteArray → ByteArray → Bool) (q t : DTab) (r : List DTab) : dbGo ok less (some q) (t :: r) = (ok t && (less q.f0 t.f0 && dbGo ok less (some t) r)) := by
  rw [dbGo.eq_def]
set_option maxHeartbeats 4000000 in
set_option maxRecDepth 100000 in
theorem dbOK_any (A : Option Addr) (c : Nat) (l : List DTab) (w : World) (ok : DTab → Bool) (less : ByteArray → ByteArray → Bool) (hr : Kd.C k37 w A l.length l)
    (hT : ∀ t ∈ l, ∀ (p : Addr) A1 c1 A2 c2, w.cell? p = some (.string t.f0) → w.cell? ⟨p.block, p.off + 1, none⟩ = some (.slice A1 t.f1.length c1) → w.cell? ⟨p.block, p.off + 2, none⟩ = some (.slice A2 t.f2.length c2) → t.f1.length ≤ c1 → k52.C w A1 t.f1.length t.f1 → t.f2.length ≤ c2 → (Kd.slice 57 k57).C w A2 t.f2.length t.f2 → ∀ w', Below w.heap.size w w' →
      Calls Tryd.prog 12 #[.pointer (some p)] w' fun e w'' => e = .returned (.bool (ok t)) ∧ Below w'.heap.size w' w'')
    (hS : ∀ a b w', Calls Tryd.prog 13 #[.string a, .string b] w' fun e w'' => e = .returned (.bool (less a b)) ∧ Drawn0 w' w'')
    (r : Bool) (hrr : (decide (l.length ≤ 100) && dbGo ok less none l) = r) :
    Calls Tryd.prog 7 #[.agg #[.slice A l.length c]] w fun e w' => e = .returned (.bool r) ∧ Below w.heap.size w w' := by
  have hu41 := Tryd.underlying29
  have hu72 := Tryd.underlying37
  have HR0 := Aside0.mk hr
  have HT := Aside0.mk hT
  have HS := Aside0.mk hS
  have HB := Aside0.mk (Below.refl w.heap.size w)
  clear hr hT hS
  by_cases g : l.length ≤ 100
  case neg =>
    obtain rfl : r = false := by rw [← hrr]; simp [g]
    have c2b0 : decide (100 < (l.length : Int)) = true := decide_eq_true (by omega)
    have c2b1 : decide (100 < l.length) = true := decide_eq_true (by omega)
    clear hrr
    go_enter Tryd.func7, Tryd.ntmps7
    go_wp2_with (first | ((with_reducible refine gds (N := 1) rfl ?_); refine bxe ?hg (N := 1) ?hd (cs := #[.slice A l.length c]) (t := 29) ?hr ?_; (case hd => rfl); (case hg => rfl); (case hr => first | (go_simp; done) | (go_simp; rfl)); intro gb hg w3 hbox hb; have n0_ := Aside0.mk (bst HB.out hb); have n1_ := Aside0.mk (hbox); have n2_ := Aside0.mk ((by rw [hg]; exact bsz HB.out) : w.heap.size ≤ gb); clear HB; have HB := n0_; have BK := n1_; have GE := n2_; clear n0_ n1_ n2_; clear hb hbox hg; have hcz4_0 : w3.cell? ⟨gb, 0, none⟩ = some (.slice A l.length c) := (bce BK.out 0).trans rfl; have hfz4_0 := bfz BK.out 0))
    go_ret
    exact ⟨rfl, HB.out⟩
  case pos =>
  have c2b0 : decide (100 < (l.length : Int)) = false := decide_eq_false (by omega)
  have c2b1 : decide (100 < l.length) = false := decide_eq_false (by omega)
  rw [decide_eq_true g, Bool.true_and] at hrr
  have HL := Aside0.mk g
  have HG := Aside0.mk hrr
  clear g hrr
  go_enter Tryd.func7, Tryd.ntmps7
  go_wp2_with (first | ((with_reducible refine gds (N := 1) rfl ?_); refine bxe ?hg (N := 1) ?hd (cs := #[.slice A l.length c]) (t := 29) ?hr ?_; (case hd => rfl); (case hg => rfl); (case hr => first | (go_simp; done) | (go_simp; rfl)); intro gb hg w3 hbox hb; have n0_ := Aside0.mk (bst HB.out hb); have n1_ := Aside0.mk (hbox); have n2_ := Aside0.mk ((by rw [hg]; exact bsz HB.out) : w.heap.size ≤ gb); clear HB; have HB := n0_; have BK := n1_; have GE := n2_; clear n0_ n1_ n2_; clear hb hbox hg; have hcz4_0 : w3.cell? ⟨gb, 0, none⟩ = some (.slice A l.length c) := (bce BK.out 0).trans rfl; have hfz4_0 := bfz BK.out 0))
  go_loopg [11] l.length (fun kq v11 w' => ∃ j : Nat, v11 = .int .i64 (j : Int) ∧ Aside0 (kq + j = l.length) ∧ Aside0 (dbGo ok less (if j = 0 then none else l[j - 1]?) (l.drop j) = r) ∧ Aside0 (w'.heap[gb]? = some (.cells #[(.slice A l.length c)] 29 (0, 0))) ∧ Aside0 (Below w.heap.size w w'))
  case atStart => exact ⟨0, rfl, ⟨by omega⟩, ⟨by rw [List.drop_zero, if_pos rfl]; exact HG.out⟩, BK, HB⟩
  case round =>
    clear HB HG BK hcz4_0 hfz4_0
    obtain ⟨j, rfl, HJ, HG, BK, HB⟩ := hrel
    cases gk with
    | zero =>
      have d1 : decide ((j : Int) < (l.length : Int)) = false := decide_eq_false (by have := HJ.out; omega)
      have d2 : decide (j < l.length) = false := decide_eq_false (by have := HJ.out; omega)
      have hr' := HG.out
      rw [List.drop_eq_nil_of_le (by have := HJ.out; omega)] at hr'
      obtain rfl : r = true := by rw [← hr']; unfold dbGo; rfl
      clear hr'
      go_wp2
      go_ret
      exact ⟨rfl, HB.out⟩
    | succ k1 =>
      have hjl : j < l.length := by have := HJ.out; omega
      have d1 : decide ((j : Int) < (l.length : Int)) = true := decide_eq_true (by omega)
      have d2 : decide (j < l.length) = true := decide_eq_true hjl
      have p147 : 0 ≤ (j : Int) := by omega
      have q147 : (j : Int) < (l.length : Int) := by omega
      obtain ⟨ad, A1, c1, A2, c2, e147, hx0, hx1, hx2, hl1, hi1, hl2, hi2⟩ := at_T37 HR0.out j p147 q147
      obtain ⟨t, ht⟩ : ∃ t, rd_T37 l j = t := ⟨_, rfl⟩
      rw [ht] at hx0 hx1 hx2 hl1 hi1 hl2 hi2
      simp only [Int.toNat_natCast] at hx0 hx1 hx2
      have ht2 : l[j]? = some t := by
        rw [← ht]
        unfold rd_T37
        rw [Int.toNat_natCast, List.getD_eq_getElem?_getD, List.getElem?_eq_getElem hjl]; rfl
      have hdl : l.drop j = t :: l.drop (j + 1) := by
        rw [List.drop_eq_getElem_cons hjl]
        rw [List.getElem?_eq_getElem hjl] at ht2
        rw [Option.some.inj ht2]
      have HTK := Aside0.mk (HT.out t (List.mem_of_getElem? ht2) (ad.add (j * 3)) A1 c1 A2 c2 hx0 hx1 hx2 hl1 hi1 hl2 hi2)
      have HXB := Aside0.mk hx0
      have HRT := Aside0.mk ht2
      have hr' := HG.out
      rw [hdl] at hr'
      clear HG hdl ht ht2 hi1 hl1 hi2 hl2 hx0 hx1 hx2
      cases e147
      replace p147 := eq_true p147
      replace q147 := eq_true q147
      have hcz4_0 : wr.cell? ⟨gb, 0, none⟩ = some (.slice (some ad) l.length c) := (bce BK.out 0).trans rfl
      go_wp2
      clear hcz4_0
      obtain ⟨fr, hfr⟩ : ∃ fr, ok t = fr := ⟨_, rfl⟩
      rw [hfr] at HTK
      have n0_ := Aside0.mk (bd1 HB.out)
      have n1_ := Aside0.mk (bkD BK.out)
      clear HB BK
      have HB := n0_
      have BK := n1_
      clear n0_ n1_
      cases fr with
      | false =>
        obtain rfl : r = false := by
          rw [← hr']
          by_cases hj : j = 0
          · rw [if_pos hj, dbGo_none, hfr, Bool.false_and]
          · rw [if_neg hj]
            rw [List.getElem?_eq_getElem (show j - 1 < l.length by omega), dbGo_some, hfr, Bool.false_and]
        clear hr' hfr
        refine start_ (n := 27) (S := (fun w' => w'.cell? ⟨gb, 0, none⟩ = some (.slice (some ad) l.length c) ∧ True)) (ds := []) #[false, false, false, false, false, false, false, false, false, false, false, false, false, false, false, false, false, false, false, false, false, false, false, false, false, false, false] (by kernel_rfl) rfl rfl ⟨(bce BK.out 0).trans rfl, trivial⟩ (fun hHeld => ?_)
        refine pure_ (i := 0) (N := some 14) (v := ?_) (a' := ?_) #[true, false, false, false, false, false, false, false, false, false, false, false, false, false, false, false, false, false, false, false, false, false, false, false, false, false, false] rfl rfl (by kernel_rfl) (fun _ _ _ h => h) (Or.inl ⟨by rfl, ?_⟩) ?_ ?_
        rotate_left
        · intro w'
          go_simp
          with_reducible rfl
        rotate_left
        · simp only [Act.put, List.setIfInBounds_toArray, List.set_cons_zero, List.set_cons_succ, i64_w, i32_w]
          rfl
        refine take_ (i := 1) (N := some 15) (v := ?_) (a' := ?_) #[true, true, false, false, false, false, false, false, false, false, false, false, false, false, false, false, false, false, false, false, false, false, false, false, false, false, false] rfl rfl (by kernel_rfl) (fun _ _ _ h => h) (Or.inl ⟨by rfl, ?_⟩) hHeld ?_ ?_
        rotate_left
        · rintro w' ⟨s0, _⟩
          go_simp
          with_reducible rfl
        rotate_left
        · simp only [Act.put, List.setIfInBounds_toArray, List.set_cons_zero, List.set_cons_succ, i64_w, i32_w]
          rfl
        refine pure_ (i := 2) (N := some 16) (v := ?_) (a' := ?_) #[true, true, true, false, false, false, false, false, false, false, false, false, false, false, false, false, false, false, false, false, false, false, false, false, false, false, false] rfl rfl (by kernel_rfl) (fun _ _ _ h => h) (Or.inl ⟨by rfl, ?_⟩) ?_ ?_
        rotate_left
        · intro w'
          go_simp
          with_reducible rfl
        rotate_left
        · simp only [Act.put, List.setIfInBounds_toArray, List.set_cons_zero, List.set_cons_succ, i64_w, i32_w]
          rfl
        refine pure_ (i := 3) (N := some 17) (v := ?_) (a' := ?_) #[true, true, true, true, false, false, false, false, false, false, false, false, false, false, false, false, false, false, false, false, false, false, false, false, false, false, false] rfl rfl (by kernel_rfl) (fun _ _ _ h => h) (Or.inl ⟨by rfl, ?_⟩) ?_ ?_
        rotate_left
        · intro w'
          go_simp
          with_reducible rfl
        rotate_left
        · simp only [Act.put, List.setIfInBounds_toArray, List.set_cons_zero, List.set_cons_succ, i64_w, i32_w]
          rfl
        refine one_ (i := 4) (N := some 18) #[true, true, true, true, true, false, false, false, false, false, false, false, false, false, false, false, false, false, false, false, false, false, false, false, false, false, false] rfl rfl (by kernel_rfl) (by decide) (fun K hK => ?_)
        refine goes_ Tryd.func12 (by kernel_rfl) rfl #[.pointer (some (ad.add (j * 3)))] (by rfl) rfl rfl (by (try simp only [List.map_toArray, List.map_cons, List.map_nil]); first | done | rfl) ?_
        with_reducible refine (HTK.out _ HB.out).mono ?_
        rintro e wc ⟨rfl, hb⟩
        refine ⟨_, rfl, ?_⟩
        have n0_ := Aside0.mk (bst HB.out hb)
        have n1_ := Aside0.mk (bbe (g := gb) BK.out hb)
        clear hb
        clear HB BK
        have HB := n0_
        have BK := n1_
        clear n0_ n1_
        refine hK.out _ _ ⟨(bce BK.out 0).trans rfl, trivial⟩ (fun hHeld => ?_)
        clear hK K
        refine norm_ (a' := ?_) ?_ ?_
        rotate_left
        · show Act.put _ (some 18) _ = _
          simp only [Act.put, List.setIfInBounds_toArray, List.set_cons_zero, List.set_cons_succ, i64_w, i32_w]
          rfl
        refine pure_ (i := 5) (N := some 19) (v := ?_) (a' := ?_) #[true, true, true, true, true, true, false, false, false, false, false, false, false, false, false, false, false, false, false, false, false, false, false, false, false, false, false] rfl rfl (by kernel_rfl) (fun _ _ _ h => h) (Or.inl ⟨by rfl, ?_⟩) ?_ ?_
        rotate_left
        · intro w'
          go_simp
          with_reducible rfl
        rotate_left
        · simp only [Act.put, List.setIfInBounds_toArray, List.set_cons_zero, List.set_cons_succ, i64_w, i32_w]
          rfl
        refine pure_ (i := 6) (N := some 20) (v := ?_) (a' := ?_) #[true, true, true, true, true, true, true, false, false, false, false, false, false, false, false, false, false, false, false, false, false, false, false, false, false, false, false] rfl rfl (by kernel_rfl) (fun _ _ _ h => h) (Or.inl ⟨by rfl, ?_⟩) ?_ ?_
        rotate_left
        · intro w'
          go_simp
          with_reducible rfl
        rotate_left
        · simp only [Act.put, List.setIfInBounds_toArray, List.set_cons_zero, List.set_cons_succ, i64_w, i32_w]
          rfl
        refine pure_ (i := 7) (N := some 21) (v := undef) (a' := ?_) #[true, true, true, true, true, true, true, true, false, false, false, false, false, false, false, false, false, false, false, false, false, false, false, false, false, false, false] rfl rfl (by kernel_rfl) (fun _ _ _ h => h) (Or.inr ⟨by rfl, rfl⟩) ?_ ?_
        rotate_left
        · simp only [Act.put, List.setIfInBounds_toArray, List.set_cons_zero, List.set_cons_succ, i64_w, i32_w]
          rfl
        refine pure_ (i := 8) (N := some 22) (v := undef) (a' := ?_) #[true, true, true, true, true, true, true, true, true, false, false, false, false, false, false, false, false, false, false, false, false, false, false, false, false, false, false] rfl rfl (by kernel_rfl) (fun _ _ _ h => h) (Or.inr ⟨by rfl, rfl⟩) ?_ ?_
        rotate_left
        · simp only [Act.put, List.setIfInBounds_toArray, List.set_cons_zero, List.set_cons_succ, i64_w, i32_w]
          rfl
        refine pure_ (i := 9) (N := some 23) (v := undef) (a' := ?_) #[true, true, true, true, true, true, true, true, true, true, false, false, false, false, false, false, false, false, false, false, false, false, false, false, false, false, false] rfl rfl (by kernel_rfl) (fun _ _ _ h => h) (Or.inr ⟨by rfl, rfl⟩) ?_ ?_
        rotate_left
        · simp only [Act.put, List.setIfInBounds_toArray, List.set_cons_zero, List.set_cons_succ, i64_w, i32_w]
          rfl
        refine pure_ (i := 10) (N := some 24) (v := undef) (a' := ?_) #[true, true, true, true, true, true, true, true, true, true, true, false, false, false, false, false, false, false, false, false, false, false, false, false, false, false, false] rfl rfl (by kernel_rfl) (fun _ _ _ h => h) (Or.inr ⟨by rfl, rfl⟩) ?_ ?_
        rotate_left
        · simp only [Act.put, List.setIfInBounds_toArray, List.set_cons_zero, List.set_cons_succ, i64_w, i32_w]
          rfl
        refine pure_ (i := 11) (N := some 25) (v := undef) (a' := ?_) #[true, true, true, true, true, true, true, true, true, true, true, true, false, false, false, false, false, false, false, false, false, false, false, false, false, false, false] rfl rfl (by kernel_rfl) (fun _ _ _ h => h) (Or.inr ⟨by rfl, rfl⟩) ?_ ?_
        rotate_left
        · simp only [Act.put, List.setIfInBounds_toArray, List.set_cons_zero, List.set_cons_succ, i64_w, i32_w]
          rfl
        refine pure_ (i := 12) (N := some 26) (v := undef) (a' := ?_) #[true, true, true, true, true, true, true, true, true, true, true, true, true, false, false, false, false, false, false, false, false, false, false, false, false, false, false] rfl rfl (by kernel_rfl) (fun _ _ _ h => h) (Or.inr ⟨by rfl, rfl⟩) ?_ ?_
        rotate_left
        · simp only [Act.put, List.setIfInBounds_toArray, List.set_cons_zero, List.set_cons_succ, i64_w, i32_w]
          rfl
        refine pure_ (i := 13) (N := some 27) (v := undef) (a' := ?_) #[true, true, true, true, true, true, true, true, true, true, true, true, true, true, false, false, false, false, false, false, false, false, false, false, false, false, false] rfl rfl (by kernel_rfl) (fun _ _ _ h => h) (Or.inr ⟨by rfl, rfl⟩) ?_ ?_
        rotate_left
        · simp only [Act.put, List.setIfInBounds_toArray, List.set_cons_zero, List.set_cons_succ, i64_w, i32_w]
          rfl
        refine pure_ (i := 14) (N := some 28) (v := undef) (a' := ?_) #[true, true, true, true, true, true, true, true, true, true, true, true, true, true, true, false, false, false, false, false, false, false, false, false, false, false, false] rfl rfl (by kernel_rfl) (fun _ _ _ h => h) (Or.inr ⟨by rfl, rfl⟩) ?_ ?_
        rotate_left
        · simp only [Act.put, List.setIfInBounds_toArray, List.set_cons_zero, List.set_cons_succ, i64_w, i32_w]
          rfl
        refine pure_ (i := 15) (N := some 29) (v := undef) (a' := ?_) #[true, true, true, true, true, true, true, true, true, true, true, true, true, true, true, true, false, false, false, false, false, false, false, false, false, false, false] rfl rfl (by kernel_rfl) (fun _ _ _ h => h) (Or.inr ⟨by rfl, rfl⟩) ?_ ?_
        rotate_left
        · simp only [Act.put, List.setIfInBounds_toArray, List.set_cons_zero, List.set_cons_succ, i64_w, i32_w]
          rfl
        refine pure_ (i := 16) (N := some 30) (v := undef) (a' := ?_) #[true, true, true, true, true, true, true, true, true, true, true, true, true, true, true, true, true, false, false, false, false, false, false, false, false, false, false] rfl rfl (by kernel_rfl) (fun _ _ _ h => h) (Or.inr ⟨by rfl, rfl⟩) ?_ ?_
        rotate_left
        · simp only [Act.put, List.setIfInBounds_toArray, List.set_cons_zero, List.set_cons_succ, i64_w, i32_w]
          rfl
        refine pure_ (i := 17) (N := some 31) (v := undef) (a' := ?_) #[true, true, true, true, true, true, true, true, true, true, true, true, true, true, true, true, true, true, false, false, false, false, false, false, false, false, false] rfl rfl (by kernel_rfl) (fun _ _ _ h => h) (Or.inr ⟨by rfl, rfl⟩) ?_ ?_
        rotate_left
        · simp only [Act.put, List.setIfInBounds_toArray, List.set_cons_zero, List.set_cons_succ, i64_w, i32_w]
          rfl
        refine pure_ (i := 18) (N := some 32) (v := undef) (a' := ?_) #[true, true, true, true, true, true, true, true, true, true, true, true, true, true, true, true, true, true, true, false, false, false, false, false, false, false, false] rfl rfl (by kernel_rfl) (fun _ _ _ h => h) (Or.inr ⟨by rfl, rfl⟩) ?_ ?_
        rotate_left
        · simp only [Act.put, List.setIfInBounds_toArray, List.set_cons_zero, List.set_cons_succ, i64_w, i32_w]
          rfl
        refine pure_ (i := 19) (N := some 33) (v := undef) (a' := ?_) #[true, true, true, true, true, true, true, true, true, true, true, true, true, true, true, true, true, true, true, true, false, false, false, false, false, false, false] rfl rfl (by kernel_rfl) (fun _ _ _ h => h) (Or.inr ⟨by rfl, rfl⟩) ?_ ?_
        rotate_left
        · simp only [Act.put, List.setIfInBounds_toArray, List.set_cons_zero, List.set_cons_succ, i64_w, i32_w]
          rfl
        refine pure_ (i := 20) (N := some 34) (v := undef) (a' := ?_) #[true, true, true, true, true, true, true, true, true, true, true, true, true, true, true, true, true, true, true, true, true, false, false, false, false, false, false] rfl rfl (by kernel_rfl) (fun _ _ _ h => h) (Or.inr ⟨by rfl, rfl⟩) ?_ ?_
        rotate_left
        · simp only [Act.put, List.setIfInBounds_toArray, List.set_cons_zero, List.set_cons_succ, i64_w, i32_w]
          rfl
        refine pure_ (i := 21) (N := some 35) (v := undef) (a' := ?_) #[true, true, true, true, true, true, true, true, true, true, true, true, true, true, true, true, true, true, true, true, true, true, false, false, false, false, false] rfl rfl (by kernel_rfl) (fun _ _ _ h => h) (Or.inr ⟨by rfl, rfl⟩) ?_ ?_
        rotate_left
        · simp only [Act.put, List.setIfInBounds_toArray, List.set_cons_zero, List.set_cons_succ, i64_w, i32_w]
          rfl
        refine pure_ (i := 22) (N := some 36) (v := undef) (a' := ?_) #[true, true, true, true, true, true, true, true, true, true, true, true, true, true, true, true, true, true, true, true, true, true, true, false, false, false, false] rfl rfl (by kernel_rfl) (fun _ _ _ h => h) (Or.inr ⟨by rfl, rfl⟩) ?_ ?_
        rotate_left
        · simp only [Act.put, List.setIfInBounds_toArray, List.set_cons_zero, List.set_cons_succ, i64_w, i32_w]
          rfl
        refine pure_ (i := 23) (N := some 37) (v := undef) (a' := ?_) #[true, true, true, true, true, true, true, true, true, true, true, true, true, true, true, true, true, true, true, true, true, true, true, true, false, false, false] rfl rfl (by kernel_rfl) (fun _ _ _ h => h) (Or.inr ⟨by rfl, rfl⟩) ?_ ?_
        rotate_left
        · simp only [Act.put, List.setIfInBounds_toArray, List.set_cons_zero, List.set_cons_succ, i64_w, i32_w]
          rfl
        refine pure_ (i := 24) (N := some 38) (v := undef) (a' := ?_) #[true, true, true, true, true, true, true, true, true, true, true, true, true, true, true, true, true, true, true, true, true, true, true, true, true, false, false] rfl rfl (by kernel_rfl) (fun _ _ _ h => h) (Or.inr ⟨by rfl, rfl⟩) ?_ ?_
        rotate_left
        · simp only [Act.put, List.setIfInBounds_toArray, List.set_cons_zero, List.set_cons_succ, i64_w, i32_w]
          rfl
        refine pure_ (i := 25) (N := some 39) (v := undef) (a' := ?_) #[true, true, true, true, true, true, true, true, true, true, true, true, true, true, true, true, true, true, true, true, true, true, true, true, true, true, false] rfl rfl (by kernel_rfl) (fun _ _ _ h => h) (Or.inr ⟨by rfl, rfl⟩) ?_ ?_
        rotate_left
        · simp only [Act.put, List.setIfInBounds_toArray, List.set_cons_zero, List.set_cons_succ, i64_w, i32_w]
          rfl
        refine pure_ (i := 26) (N := some 40) (v := ?_) (a' := ?_) #[true, true, true, true, true, true, true, true, true, true, true, true, true, true, true, true, true, true, true, true, true, true, true, true, true, true, true] rfl rfl (by kernel_rfl) (fun _ _ _ h => h) (Or.inl ⟨by rfl, ?_⟩) ?_ ?_
        rotate_left
        · intro w'
          go_simp
          with_reducible rfl
        rotate_left
        · simp only [Act.put, List.setIfInBounds_toArray, List.set_cons_zero, List.set_cons_succ, i64_w, i32_w]
          rfl
        refine done_ (by kernel_rfl) ?_
        go_wp2
        go_ret
        exact ⟨rfl, HB.out⟩
      | true =>
        by_cases hj : j = 0
        case pos =>
          rw [if_pos hj, dbGo_none, hfr, Bool.true_and] at hr'
          have HJ0 := Aside0.mk hj
          have HG := Aside0.mk hr'
          clear hr'
          have d4 : decide (0 < (j : Int)) = false := decide_eq_false (by omega)
          have d5 : decide (0 < j) = false := decide_eq_false (by omega)
          clear hj
          refine start_ (n := 27) (S := (fun w' => w'.cell? ⟨gb, 0, none⟩ = some (.slice (some ad) l.length c) ∧ True)) (ds := []) #[false, false, false, false, false, false, false, false, false, false, false, false, false, false, false, false, false, false, false, false, false, false, false, false, false, false, false] (by kernel_rfl) rfl rfl ⟨(bce BK.out 0).trans rfl, trivial⟩ (fun hHeld => ?_)
          refine pure_ (i := 0) (N := some 14) (v := ?_) (a' := ?_) #[true, false, false, false, false, false, false, false, false, false, false, false, false, false, false, false, false, false, false, false, false, false, false, false, false, false, false] rfl rfl (by kernel_rfl) (fun _ _ _ h => h) (Or.inl ⟨by rfl, ?_⟩) ?_ ?_
          rotate_left
          · intro w'
            go_simp
            with_reducible rfl
          rotate_left
          · simp only [Act.put, List.setIfInBounds_toArray, List.set_cons_zero, List.set_cons_succ, i64_w, i32_w]
            rfl
          refine take_ (i := 1) (N := some 15) (v := ?_) (a' := ?_) #[true, true, false, false, false, false, false, false, false, false, false, false, false, false, false, false, false, false, false, false, false, false, false, false, false, false, false] rfl rfl (by kernel_rfl) (fun _ _ _ h => h) (Or.inl ⟨by rfl, ?_⟩) hHeld ?_ ?_
          rotate_left
          · rintro w' ⟨s0, _⟩
            go_simp
            with_reducible rfl
          rotate_left
          · simp only [Act.put, List.setIfInBounds_toArray, List.set_cons_zero, List.set_cons_succ, i64_w, i32_w]
            rfl
          refine pure_ (i := 2) (N := some 16) (v := ?_) (a' := ?_) #[true, true, true, false, false, false, false, false, false, false, false, false, false, false, false, false, false, false, false, false, false, false, false, false, false, false, false] rfl rfl (by kernel_rfl) (fun _ _ _ h => h) (Or.inl ⟨by rfl, ?_⟩) ?_ ?_
          rotate_left
          · intro w'
            go_simp
            with_reducible rfl
          rotate_left
          · simp only [Act.put, List.setIfInBounds_toArray, List.set_cons_zero, List.set_cons_succ, i64_w, i32_w]
            rfl
          refine pure_ (i := 3) (N := some 17) (v := ?_) (a' := ?_) #[true, true, true, true, false, false, false, false, false, false, false, false, false, false, false, false, false, false, false, false, false, false, false, false, false, false, false] rfl rfl (by kernel_rfl) (fun _ _ _ h => h) (Or.inl ⟨by rfl, ?_⟩) ?_ ?_
          rotate_left
          · intro w'
            go_simp
            with_reducible rfl
          rotate_left
          · simp only [Act.put, List.setIfInBounds_toArray, List.set_cons_zero, List.set_cons_succ, i64_w, i32_w]
            rfl
          refine one_ (i := 4) (N := some 18) #[true, true, true, true, true, false, false, false, false, false, false, false, false, false, false, false, false, false, false, false, false, false, false, false, false, false, false] rfl rfl (by kernel_rfl) (by decide) (fun K hK => ?_)
          refine goes_ Tryd.func12 (by kernel_rfl) rfl #[.pointer (some (ad.add (j * 3)))] (by rfl) rfl rfl (by (try simp only [List.map_toArray, List.map_cons, List.map_nil]); first | done | rfl) ?_
          with_reducible refine (HTK.out _ HB.out).mono ?_
          rintro e wc ⟨rfl, hb⟩
          refine ⟨_, rfl, ?_⟩
          have n0_ := Aside0.mk (bst HB.out hb)
          have n1_ := Aside0.mk (bbe (g := gb) BK.out hb)
          clear hb
          clear HB BK
          have HB := n0_
          have BK := n1_
          clear n0_ n1_
          refine hK.out _ _ ⟨(bce BK.out 0).trans rfl, trivial⟩ (fun hHeld => ?_)
          clear hK K
          refine norm_ (a' := ?_) ?_ ?_
          rotate_left
          · show Act.put _ (some 18) _ = _
            simp only [Act.put, List.setIfInBounds_toArray, List.set_cons_zero, List.set_cons_succ, i64_w, i32_w]
            rfl
          refine pure_ (i := 5) (N := some 19) (v := ?_) (a' := ?_) #[true, true, true, true, true, true, false, false, false, false, false, false, false, false, false, false, false, false, false, false, false, false, false, false, false, false, false] rfl rfl (by kernel_rfl) (fun _ _ _ h => h) (Or.inl ⟨by rfl, ?_⟩) ?_ ?_
          rotate_left
          · intro w'
            go_simp
            with_reducible rfl
          rotate_left
          · simp only [Act.put, List.setIfInBounds_toArray, List.set_cons_zero, List.set_cons_succ, i64_w, i32_w]
            rfl
          refine pure_ (i := 6) (N := some 20) (v := ?_) (a' := ?_) #[true, true, true, true, true, true, true, false, false, false, false, false, false, false, false, false, false, false, false, false, false, false, false, false, false, false, false] rfl rfl (by kernel_rfl) (fun _ _ _ h => h) (Or.inl ⟨by rfl, ?_⟩) ?_ ?_
          rotate_left
          · intro w'
            go_simp
            with_reducible rfl
          rotate_left
          · simp only [Act.put, List.setIfInBounds_toArray, List.set_cons_zero, List.set_cons_succ, i64_w, i32_w]
            rfl
          refine pure_ (i := 7) (N := some 21) (v := ?_) (a' := ?_) #[true, true, true, true, true, true, true, true, false, false, false, false, false, false, false, false, false, false, false, false, false, false, false, false, false, false, false] rfl rfl (by kernel_rfl) (fun _ _ _ h => h) (Or.inl ⟨by rfl, ?_⟩) ?_ ?_
          rotate_left
          · intro w'
            go_simp
            with_reducible rfl
          rotate_left
          · simp only [Act.put, List.setIfInBounds_toArray, List.set_cons_zero, List.set_cons_succ, i64_w, i32_w]
            rfl
          refine pure_ (i := 8) (N := some 22) (v := ?_) (a' := ?_) #[true, true, true, true, true, true, true, true, true, false, false, false, false, false, false, false, false, false, false, false, false, false, false, false, false, false, false] rfl rfl (by kernel_rfl) (fun _ _ _ h => h) (Or.inl ⟨by rfl, ?_⟩) ?_ ?_
          rotate_left
          · intro w'
            go_simp
            with_reducible rfl
          rotate_left
          · simp only [Act.put, List.setIfInBounds_toArray, List.set_cons_zero, List.set_cons_succ, i64_w, i32_w]
            rfl
          refine pure_ (i := 9) (N := some 23) (v := ?_) (a' := ?_) #[true, true, true, true, true, true, true, true, true, true, false, false, false, false, false, false, false, false, false, false, false, false, false, false, false, false, false] rfl rfl (by kernel_rfl) (fun _ _ _ h => h) (Or.inl ⟨by rfl, ?_⟩) ?_ ?_
          rotate_left
          · intro w'
            go_simp
            with_reducible rfl
          rotate_left
          · simp only [Act.put, List.setIfInBounds_toArray, List.set_cons_zero, List.set_cons_succ, i64_w, i32_w]
            rfl
          refine pure_ (i := 10) (N := some 24) (v := undef) (a' := ?_) #[true, true, true, true, true, true, true, true, true, true, true, false, false, false, false, false, false, false, false, false, false, false, false, false, false, false, false] rfl rfl (by kernel_rfl) (fun _ _ _ h => h) (Or.inr ⟨by rfl, rfl⟩) ?_ ?_
          rotate_left
          · simp only [Act.put, List.setIfInBounds_toArray, List.set_cons_zero, List.set_cons_succ, i64_w, i32_w]
            rfl
          refine pure_ (i := 11) (N := some 25) (v := undef) (a' := ?_) #[true, true, true, true, true, true, true, true, true, true, true, true, false, false, false, false, false, false, false, false, false, false, false, false, false, false, false] rfl rfl (by kernel_rfl) (fun _ _ _ h => h) (Or.inr ⟨by rfl, rfl⟩) ?_ ?_
          rotate_left
          · simp only [Act.put, List.setIfInBounds_toArray, List.set_cons_zero, List.set_cons_succ, i64_w, i32_w]
            rfl
          refine pure_ (i := 12) (N := some 26) (v := undef) (a' := ?_) #[true, true, true, true, true, true, true, true, true, true, true, true, true, false, false, false, false, false, false, false, false, false, false, false, false, false, false] rfl rfl (by kernel_rfl) (fun _ _ _ h => h) (Or.inr ⟨by rfl, rfl⟩) ?_ ?_
          rotate_left
          · simp only [Act.put, List.setIfInBounds_toArray, List.set_cons_zero, List.set_cons_succ, i64_w, i32_w]
            rfl
          refine pure_ (i := 13) (N := some 27) (v := undef) (a' := ?_) #[true, true, true, true, true, true, true, true, true, true, true, true, true, true, false, false, false, false, false, false, false, false, false, false, false, false, false] rfl rfl (by kernel_rfl) (fun _ _ _ h => h) (Or.inr ⟨by rfl, rfl⟩) ?_ ?_
          rotate_left
          · simp only [Act.put, List.setIfInBounds_toArray, List.set_cons_zero, List.set_cons_succ, i64_w, i32_w]
            rfl
          refine pure_ (i := 14) (N := some 28) (v := undef) (a' := ?_) #[true, true, true, true, true, true, true, true, true, true, true, true, true, true, true, false, false, false, false, false, false, false, false, false, false, false, false] rfl rfl (by kernel_rfl) (fun _ _ _ h => h) (Or.inr ⟨by rfl, rfl⟩) ?_ ?_
          rotate_left
          · simp only [Act.put, List.setIfInBounds_toArray, List.set_cons_zero, List.set_cons_succ, i64_w, i32_w]
            rfl
          refine pure_ (i := 15) (N := some 29) (v := undef) (a' := ?_) #[true, true, true, true, true, true, true, true, true, true, true, true, true, true, true, true, false, false, false, false, false, false, false, false, false, false, false] rfl rfl (by kernel_rfl) (fun _ _ _ h => h) (Or.inr ⟨by rfl, rfl⟩) ?_ ?_
          rotate_left
          · simp only [Act.put, List.setIfInBounds_toArray, List.set_cons_zero, List.set_cons_succ, i64_w, i32_w]
            rfl
          refine pure_ (i := 16) (N := some 30) (v := undef) (a' := ?_) #[true, true, true, true, true, true, true, true, true, true, true, true, true, true, true, true, true, false, false, false, false, false, false, false, false, false, false] rfl rfl (by kernel_rfl) (fun _ _ _ h => h) (Or.inr ⟨by rfl, rfl⟩) ?_ ?_
          rotate_left
          · simp only [Act.put, List.setIfInBounds_toArray, List.set_cons_zero, List.set_cons_succ, i64_w, i32_w]
            rfl
          refine pure_ (i := 17) (N := some 31) (v := undef) (a' := ?_) #[true, true, true, true, true, true, true, true, true, true, true, true, true, true, true, true, true, true, false, false, false, false, false, false, false, false, false] rfl rfl (by kernel_rfl) (fun _ _ _ h => h) (Or.inr ⟨by rfl, rfl⟩) ?_ ?_
          rotate_left
          · simp only [Act.put, List.setIfInBounds_toArray, List.set_cons_zero, List.set_cons_succ, i64_w, i32_w]
            rfl
          refine pure_ (i := 18) (N := some 32) (v := undef) (a' := ?_) #[true, true, true, true, true, true, true, true, true, true, true, true, true, true, true, true, true, true, true, false, false, false, false, false, false, false, false] rfl rfl (by kernel_rfl) (fun _ _ _ h => h) (Or.inr ⟨by rfl, rfl⟩) ?_ ?_
          rotate_left
          · simp only [Act.put, List.setIfInBounds_toArray, List.set_cons_zero, List.set_cons_succ, i64_w, i32_w]
            rfl
          refine pure_ (i := 19) (N := some 33) (v := undef) (a' := ?_) #[true, true, true, true, true, true, true, true, true, true, true, true, true, true, true, true, true, true, true, true, false, false, false, false, false, false, false] rfl rfl (by kernel_rfl) (fun _ _ _ h => h) (Or.inr ⟨by rfl, rfl⟩) ?_ ?_
          rotate_left
          · simp only [Act.put, List.setIfInBounds_toArray, List.set_cons_zero, List.set_cons_succ, i64_w, i32_w]
            rfl
          refine pure_ (i := 20) (N := some 34) (v := undef) (a' := ?_) #[true, true, true, true, true, true, true, true, true, true, true, true, true, true, true, true, true, true, true, true, true, false, false, false, false, false, false] rfl rfl (by kernel_rfl) (fun _ _ _ h => h) (Or.inr ⟨by rfl, rfl⟩) ?_ ?_
          rotate_left
          · simp only [Act.put, List.setIfInBounds_toArray, List.set_cons_zero, List.set_cons_succ, i64_w, i32_w]
            rfl
          refine pure_ (i := 21) (N := some 35) (v := undef) (a' := ?_) #[true, true, true, true, true, true, true, true, true, true, true, true, true, true, true, true, true, true, true, true, true, true, false, false, false, false, false] rfl rfl (by kernel_rfl) (fun _ _ _ h => h) (Or.inr ⟨by rfl, rfl⟩) ?_ ?_
          rotate_left
          · simp only [Act.put, List.setIfInBounds_toArray, List.set_cons_zero, List.set_cons_succ, i64_w, i32_w]
            rfl
          refine pure_ (i := 22) (N := some 36) (v := undef) (a' := ?_) #[true, true, true, true, true, true, true, true, true, true, true, true, true, true, true, true, true, true, true, true, true, true, true, false, false, false, false] rfl rfl (by kernel_rfl) (fun _ _ _ h => h) (Or.inr ⟨by rfl, rfl⟩) ?_ ?_
          rotate_left
          · simp only [Act.put, List.setIfInBounds_toArray, List.set_cons_zero, List.set_cons_succ, i64_w, i32_w]
            rfl
          refine pure_ (i := 23) (N := some 37) (v := undef) (a' := ?_) #[true, true, true, true, true, true, true, true, true, true, true, true, true, true, true, true, true, true, true, true, true, true, true, true, false, false, false] rfl rfl (by kernel_rfl) (fun _ _ _ h => h) (Or.inr ⟨by rfl, rfl⟩) ?_ ?_
          rotate_left
          · simp only [Act.put, List.setIfInBounds_toArray, List.set_cons_zero, List.set_cons_succ, i64_w, i32_w]
            rfl
          refine pure_ (i := 24) (N := some 38) (v := undef) (a' := ?_) #[true, true, true, true, true, true, true, true, true, true, true, true, true, true, true, true, true, true, true, true, true, true, true, true, true, false, false] rfl rfl (by kernel_rfl) (fun _ _ _ h => h) (Or.inr ⟨by rfl, rfl⟩) ?_ ?_
          rotate_left
          · simp only [Act.put, List.setIfInBounds_toArray, List.set_cons_zero, List.set_cons_succ, i64_w, i32_w]
            rfl
          refine pure_ (i := 25) (N := some 39) (v := ?_) (a' := ?_) #[true, true, true, true, true, true, true, true, true, true, true, true, true, true, true, true, true, true, true, true, true, true, true, true, true, true, false] rfl rfl (by kernel_rfl) (fun _ _ _ h => h) (Or.inl ⟨by rfl, ?_⟩) ?_ ?_
          rotate_left
          · intro w'
            go_simp
            with_reducible rfl
          rotate_left
          · simp only [Act.put, List.setIfInBounds_toArray, List.set_cons_zero, List.set_cons_succ, i64_w, i32_w]
            rfl
          refine pure_ (i := 26) (N := some 40) (v := ?_) (a' := ?_) #[true, true, true, true, true, true, true, true, true, true, true, true, true, true, true, true, true, true, true, true, true, true, true, true, true, true, true] rfl rfl (by kernel_rfl) (fun _ _ _ h => h) (Or.inl ⟨by rfl, ?_⟩) ?_ ?_
          rotate_left
          · intro w'
            go_simp
            with_reducible rfl
          rotate_left
          · simp only [Act.put, List.setIfInBounds_toArray, List.set_cons_zero, List.set_cons_succ, i64_w, i32_w]
            rfl
          refine done_ (by kernel_rfl) ?_
          go_wp2
          go_roundg k1
          case measure => have := HJ.out; omega
          case rel => exact ⟨j + 1, by have e_ : wrap64 ((j : Int) + 1) = ((j + 1 : Nat) : Int) := (by have := HL.out; have := HJ.out; unfold wrap64; omega); rw [e_], ⟨by have := HJ.out; omega⟩, ⟨by rw [if_neg (by omega), Nat.add_sub_cancel, HRT.out]; exact HG.out⟩, BK, HB⟩
        case neg =>
          have d4 : decide (0 < (j : Int)) = true := decide_eq_true (by omega)
          have d5 : decide (0 < j) = true := decide_eq_true (by omega)
          obtain ⟨ji, hji⟩ : ∃ ji : Int, wrap64 ((j : Int) - 1) = ji := ⟨_, rfl⟩
          have hji1 : ji = ((j - 1 : Nat) : Int) := by rw [← hji]; have := HL.out; unfold wrap64; omega
          have hjiw : (IntKind.i64.wrap ((j : Int) - 1)) = ji := (i64_w _).trans hji
          have p152 : 0 ≤ ji := by omega
          have q152 : ji < (l.length : Int) := by omega
          obtain ⟨ad2, A3, c3, A4, c4, e152, hy0, hy1, hy2, hm1, hj1, hm2, hj2⟩ := at_T37 HR0.out ji p152 q152
          obtain ⟨q, hq⟩ : ∃ q, rd_T37 l ji = q := ⟨_, rfl⟩
          have hq2 : l[j - 1]? = some q := by
            rw [← hq]
            unfold rd_T37
            rw [hji1, Int.toNat_natCast, List.getD_eq_getElem?_getD, List.getElem?_eq_getElem (show j - 1 < l.length by omega)]; rfl
          rw [hq] at hy0
          obtain rfl : ad = ad2 := by injection e152
          have HXA := Aside0.mk hy0
          rw [if_neg hj, hq2, dbGo_some, hfr, Bool.true_and] at hr'
          have hss := HS.out q.f0 t.f0
          obtain ⟨lr, hlr⟩ : ∃ lr, less q.f0 t.f0 = lr := ⟨_, rfl⟩
          rw [hlr] at hr' hss
          have HSS := Aside0.mk hss
          replace p152 := eq_true p152
          replace q152 := eq_true q152
          clear hss hlr hq hq2 e152 hy0 hy1 hy2 hm1 hj1 hm2 hj2 hji hji1
          cases lr with
          | false =>
            obtain rfl : r = false := by rw [← hr', Bool.false_and]
            clear hr'
            refine start_ (n := 27) (S := (fun w' => w'.cell? ⟨gb, 0, none⟩ = some (.slice (some ad) l.length c) ∧ w'.cell? (ad.add (ji.toNat * 3)) = some (.string q.f0) ∧ w'.cell? (ad.add (j * 3)) = some (.string t.f0))) (ds := []) #[false, false, false, false, false, false, false, false, false, false, false, false, false, false, false, false, false, false, false, false, false, false, false, false, false, false, false] (by kernel_rfl) rfl rfl ⟨(bce BK.out 0).trans rfl, (HB.out.cell (World.block_lt_of_cell? w _ HXA.out)).trans HXA.out, (HB.out.cell (World.block_lt_of_cell? w _ HXB.out)).trans HXB.out⟩ (fun hHeld => ?_)
            refine pure_ (i := 0) (N := some 14) (v := ?_) (a' := ?_) #[true, false, false, false, false, false, false, false, false, false, false, false, false, false, false, false, false, false, false, false, false, false, false, false, false, false, false] rfl rfl (by kernel_rfl) (fun _ _ _ h => h) (Or.inl ⟨by rfl, ?_⟩) ?_ ?_
            rotate_left
            · intro w'
              go_simp
              with_reducible rfl
            rotate_left
            · simp only [Act.put, List.setIfInBounds_toArray, List.set_cons_zero, List.set_cons_succ, i64_w, i32_w]
              rfl
            refine take_ (i := 1) (N := some 15) (v := ?_) (a' := ?_) #[true, true, false, false, false, false, false, false, false, false, false, false, false, false, false, false, false, false, false, false, false, false, false, false, false, false, false] rfl rfl (by kernel_rfl) (fun _ _ _ h => h) (Or.inl ⟨by rfl, ?_⟩) hHeld ?_ ?_
            rotate_left
            · rintro w' ⟨s0, s1, s2⟩
              go_simp
              with_reducible rfl
            rotate_left
            · simp only [Act.put, List.setIfInBounds_toArray, List.set_cons_zero, List.set_cons_succ, i64_w, i32_w]
              rfl
            refine pure_ (i := 2) (N := some 16) (v := ?_) (a' := ?_) #[true, true, true, false, false, false, false, false, false, false, false, false, false, false, false, false, false, false, false, false, false, false, false, false, false, false, false] rfl rfl (by kernel_rfl) (fun _ _ _ h => h) (Or.inl ⟨by rfl, ?_⟩) ?_ ?_
            rotate_left
            · intro w'
              go_simp
              with_reducible rfl
            rotate_left
            · simp only [Act.put, List.setIfInBounds_toArray, List.set_cons_zero, List.set_cons_succ, i64_w, i32_w]
              rfl
            refine pure_ (i := 3) (N := some 17) (v := ?_) (a' := ?_) #[true, true, true, true, false, false, false, false, false, false, false, false, false, false, false, false, false, false, false, false, false, false, false, false, false, false, false] rfl rfl (by kernel_rfl) (fun _ _ _ h => h) (Or.inl ⟨by rfl, ?_⟩) ?_ ?_
            rotate_left
            · intro w'
              go_simp
              with_reducible rfl
            rotate_left
            · simp only [Act.put, List.setIfInBounds_toArray, List.set_cons_zero, List.set_cons_succ, i64_w, i32_w]
              rfl
            refine one_ (i := 4) (N := some 18) #[true, true, true, true, true, false, false, false, false, false, false, false, false, false, false, false, false, false, false, false, false, false, false, false, false, false, false] rfl rfl (by kernel_rfl) (by decide) (fun K hK => ?_)
            refine goes_ Tryd.func12 (by kernel_rfl) rfl #[.pointer (some (ad.add (j * 3)))] (by rfl) rfl rfl (by (try simp only [List.map_toArray, List.map_cons, List.map_nil]); first | done | rfl) ?_
            with_reducible refine (HTK.out _ HB.out).mono ?_
            rintro e wc ⟨rfl, hb⟩
            refine ⟨_, rfl, ?_⟩
            have n0_ := Aside0.mk (bst HB.out hb)
            have n1_ := Aside0.mk (bbe (g := gb) BK.out hb)
            clear hb
            clear HB BK
            have HB := n0_
            have BK := n1_
            clear n0_ n1_
            refine hK.out _ _ ⟨(bce BK.out 0).trans rfl, (HB.out.cell (World.block_lt_of_cell? w _ HXA.out)).trans HXA.out, (HB.out.cell (World.block_lt_of_cell? w _ HXB.out)).trans HXB.out⟩ (fun hHeld => ?_)
            clear hK K
            refine norm_ (a' := ?_) ?_ ?_
            rotate_left
            · show Act.put _ (some 18) _ = _
              simp only [Act.put, List.setIfInBounds_toArray, List.set_cons_zero, List.set_cons_succ, i64_w, i32_w]
              rfl
            refine pure_ (i := 5) (N := some 19) (v := ?_) (a' := ?_) #[true, true, true, true, true, true, false, false, false, false, false, false, false, false, false, false, false, false, false, false, false, false, false, false, false, false, false] rfl rfl (by kernel_rfl) (fun _ _ _ h => h) (Or.inl ⟨by rfl, ?_⟩) ?_ ?_
            rotate_left
            · intro w'
              go_simp
              with_reducible rfl
            rotate_left
            · simp only [Act.put, List.setIfInBounds_toArray, List.set_cons_zero, List.set_cons_succ, i64_w, i32_w]
              rfl
            refine pure_ (i := 6) (N := some 20) (v := ?_) (a' := ?_) #[true, true, true, true, true, true, true, false, false, false, false, false, false, false, false, false, false, false, false, false, false, false, false, false, false, false, false] rfl rfl (by kernel_rfl) (fun _ _ _ h => h) (Or.inl ⟨by rfl, ?_⟩) ?_ ?_
            rotate_left
            · intro w'
              go_simp
              with_reducible rfl
            rotate_left
            · simp only [Act.put, List.setIfInBounds_toArray, List.set_cons_zero, List.set_cons_succ, i64_w, i32_w]
              rfl
            refine pure_ (i := 7) (N := some 21) (v := ?_) (a' := ?_) #[true, true, true, true, true, true, true, true, false, false, false, false, false, false, false, false, false, false, false, false, false, false, false, false, false, false, false] rfl rfl (by kernel_rfl) (fun _ _ _ h => h) (Or.inl ⟨by rfl, ?_⟩) ?_ ?_
            rotate_left
            · intro w'
              go_simp
              with_reducible rfl
            rotate_left
            · simp only [Act.put, List.setIfInBounds_toArray, List.set_cons_zero, List.set_cons_succ, i64_w, i32_w]
              rfl
            refine pure_ (i := 8) (N := some 22) (v := ?_) (a' := ?_) #[true, true, true, true, true, true, true, true, true, false, false, false, false, false, false, false, false, false, false, false, false, false, false, false, false, false, false] rfl rfl (by kernel_rfl) (fun _ _ _ h => h) (Or.inl ⟨by rfl, ?_⟩) ?_ ?_
            rotate_left
            · intro w'
              go_simp
              with_reducible rfl
            rotate_left
            · simp only [Act.put, List.setIfInBounds_toArray, List.set_cons_zero, List.set_cons_succ, i64_w, i32_w]
              rfl
            refine pure_ (i := 9) (N := some 23) (v := ?_) (a' := ?_) #[true, true, true, true, true, true, true, true, true, true, false, false, false, false, false, false, false, false, false, false, false, false, false, false, false, false, false] rfl rfl (by kernel_rfl) (fun _ _ _ h => h) (Or.inl ⟨by rfl, ?_⟩) ?_ ?_
            rotate_left
            · intro w'
              go_simp
              with_reducible rfl
            rotate_left
            · simp only [Act.put, List.setIfInBounds_toArray, List.set_cons_zero, List.set_cons_succ, i64_w, i32_w]
              rfl
            refine pure_ (i := 10) (N := some 24) (v := ?_) (a' := ?_) #[true, true, true, true, true, true, true, true, true, true, true, false, false, false, false, false, false, false, false, false, false, false, false, false, false, false, false] rfl rfl (by kernel_rfl) (fun _ _ _ h => h) (Or.inl ⟨by rfl, ?_⟩) ?_ ?_
            rotate_left
            · intro w'
              go_simp
              with_reducible rfl
            rotate_left
            · simp only [Act.put, List.setIfInBounds_toArray, List.set_cons_zero, List.set_cons_succ, i64_w, i32_w]
              rfl
            refine take_ (i := 11) (N := some 25) (v := ?_) (a' := ?_) #[true, true, true, true, true, true, true, true, true, true, true, true, false, false, false, false, false, false, false, false, false, false, false, false, false, false, false] rfl rfl (by kernel_rfl) (fun _ _ _ h => h) (Or.inl ⟨by rfl, ?_⟩) hHeld ?_ ?_
            rotate_left
            · rintro w' ⟨s0, s1, s2⟩
              go_simp
              with_reducible rfl
            rotate_left
            · simp only [Act.put, List.setIfInBounds_toArray, List.set_cons_zero, List.set_cons_succ, i64_w, i32_w]
              rfl
            refine pure_ (i := 12) (N := some 26) (v := ?_) (a' := ?_) #[true, true, true, true, true, true, true, true, true, true, true, true, true, false, false, false, false, false, false, false, false, false, false, false, false, false, false] rfl rfl (by kernel_rfl) (fun _ _ _ h => h) (Or.inl ⟨by rfl, ?_⟩) ?_ ?_
            rotate_left
            · intro w'
              go_simp
              with_reducible rfl
            rotate_left
            · simp only [Act.put, List.setIfInBounds_toArray, List.set_cons_zero, List.set_cons_succ, i64_w, i32_w]
              rfl
            refine pure_ (i := 13) (N := some 27) (v := ?_) (a' := ?_) #[true, true, true, true, true, true, true, true, true, true, true, true, true, true, false, false, false, false, false, false, false, false, false, false, false, false, false] rfl rfl (by kernel_rfl) (fun _ _ _ h => h) (Or.inl ⟨by rfl, ?_⟩) ?_ ?_
            rotate_left
            · intro w'
              go_simp
              with_reducible rfl
            rotate_left
            · simp only [Act.put, List.setIfInBounds_toArray, List.set_cons_zero, List.set_cons_succ, i64_w, i32_w]
              rfl
            refine pure_ (i := 14) (N := some 28) (v := ?_) (a' := ?_) #[true, true, true, true, true, true, true, true, true, true, true, true, true, true, true, false, false, false, false, false, false, false, false, false, false, false, false] rfl rfl (by kernel_rfl) (fun _ _ _ h => h) (Or.inl ⟨by rfl, ?_⟩) ?_ ?_
            rotate_left
            · intro w'
              go_simp
              with_reducible rfl
            rotate_left
            · simp only [Act.put, List.setIfInBounds_toArray, List.set_cons_zero, List.set_cons_succ, i64_w, i32_w]
              rfl
            refine pure_ (i := 15) (N := some 29) (v := ?_) (a' := ?_) #[true, true, true, true, true, true, true, true, true, true, true, true, true, true, true, true, false, false, false, false, false, false, false, false, false, false, false] rfl rfl (by kernel_rfl) (fun _ _ _ h => h) (Or.inl ⟨by rfl, ?_⟩) ?_ ?_
            rotate_left
            · intro w'
              go_simp
              with_reducible rfl
            rotate_left
            · simp only [Act.put, List.setIfInBounds_toArray, List.set_cons_zero, List.set_cons_succ, i64_w, i32_w]
              rfl
            refine take_ (i := 16) (N := some 30) (v := ?_) (a' := ?_) #[true, true, true, true, true, true, true, true, true, true, true, true, true, true, true, true, true, false, false, false, false, false, false, false, false, false, false] rfl rfl (by kernel_rfl) (fun _ _ _ h => h) (Or.inl ⟨by rfl, ?_⟩) hHeld ?_ ?_
            rotate_left
            · rintro w' ⟨s0, s1, s2⟩
              go_simp
              with_reducible rfl
            rotate_left
            · simp only [Act.put, List.setIfInBounds_toArray, List.set_cons_zero, List.set_cons_succ, i64_w, i32_w]
              rfl
            refine pure_ (i := 17) (N := some 31) (v := ?_) (a' := ?_) #[true, true, true, true, true, true, true, true, true, true, true, true, true, true, true, true, true, true, false, false, false, false, false, false, false, false, false] rfl rfl (by kernel_rfl) (fun _ _ _ h => h) (Or.inl ⟨by rfl, ?_⟩) ?_ ?_
            rotate_left
            · intro w'
              go_simp
              with_reducible rfl
            rotate_left
            · simp only [Act.put, List.setIfInBounds_toArray, List.set_cons_zero, List.set_cons_succ, i64_w, i32_w]
              rfl
            refine take_ (i := 18) (N := some 32) (v := ?_) (a' := ?_) #[true, true, true, true, true, true, true, true, true, true, true, true, true, true, true, true, true, true, true, false, false, false, false, false, false, false, false] rfl rfl (by kernel_rfl) (fun _ _ _ h => h) (Or.inl ⟨by rfl, ?_⟩) hHeld ?_ ?_
            rotate_left
            · rintro w' ⟨s0, s1, s2⟩
              go_simp
              with_reducible rfl
            rotate_left
            · simp only [Act.put, List.setIfInBounds_toArray, List.set_cons_zero, List.set_cons_succ, i64_w, i32_w]
              rfl
            refine pure_ (i := 19) (N := some 33) (v := ?_) (a' := ?_) #[true, true, true, true, true, true, true, true, true, true, true, true, true, true, true, true, true, true, true, true, false, false, false, false, false, false, false] rfl rfl (by kernel_rfl) (fun _ _ _ h => h) (Or.inl ⟨by rfl, ?_⟩) ?_ ?_
            rotate_left
            · intro w'
              go_simp
              with_reducible rfl
            rotate_left
            · simp only [Act.put, List.setIfInBounds_toArray, List.set_cons_zero, List.set_cons_succ, i64_w, i32_w]
              rfl
            refine pure_ (i := 20) (N := some 34) (v := ?_) (a' := ?_) #[true, true, true, true, true, true, true, true, true, true, true, true, true, true, true, true, true, true, true, true, true, false, false, false, false, false, false] rfl rfl (by kernel_rfl) (fun _ _ _ h => h) (Or.inl ⟨by rfl, ?_⟩) ?_ ?_
            rotate_left
            · intro w'
              go_simp
              with_reducible rfl
            rotate_left
            · simp only [Act.put, List.setIfInBounds_toArray, List.set_cons_zero, List.set_cons_succ, i64_w, i32_w]
              rfl
            refine pure_ (i := 21) (N := some 35) (v := ?_) (a' := ?_) #[true, true, true, true, true, true, true, true, true, true, true, true, true, true, true, true, true, true, true, true, true, true, false, false, false, false, false] rfl rfl (by kernel_rfl) (fun _ _ _ h => h) (Or.inl ⟨by rfl, ?_⟩) ?_ ?_
            rotate_left
            · intro w'
              go_simp
              with_reducible rfl
            rotate_left
            · simp only [Act.put, List.setIfInBounds_toArray, List.set_cons_zero, List.set_cons_succ, i64_w, i32_w]
              rfl
            refine take_ (i := 22) (N := some 36) (v := ?_) (a' := ?_) #[true, true, true, true, true, true, true, true, true, true, true, true, true, true, true, true, true, true, true, true, true, true, true, false, false, false, false] rfl rfl (by kernel_rfl) (fun _ _ _ h => h) (Or.inl ⟨by rfl, ?_⟩) hHeld ?_ ?_
            rotate_left
            · rintro w' ⟨s0, s1, s2⟩
              go_simp
              with_reducible rfl
            rotate_left
            · simp only [Act.put, List.setIfInBounds_toArray, List.set_cons_zero, List.set_cons_succ, i64_w, i32_w]
              rfl
            refine one_ (i := 23) (N := some 37) #[true, true, true, true, true, true, true, true, true, true, true, true, true, true, true, true, true, true, true, true, true, true, true, true, false, false, false] rfl rfl (by kernel_rfl) (by decide) (fun K hK => ?_)
            refine goes_ Tryd.func13 (by kernel_rfl) rfl #[.string q.f0, .string t.f0] (by rfl) rfl rfl (by (try simp only [List.map_toArray, List.map_cons, List.map_nil]); first | done | rfl) ?_
            with_reducible refine (HSS.out _).mono ?_
            rintro e wc ⟨rfl, ⟨n, rfl⟩⟩
            refine ⟨_, rfl, ?_⟩
            have n0_ := Aside0.mk (pbd HB.out n)
            have n1_ := Aside0.mk (bdN BK.out n)
            clear HB BK
            have HB := n0_
            have BK := n1_
            clear n0_ n1_
            refine hK.out _ _ ⟨(bce BK.out 0).trans rfl, (HB.out.cell (World.block_lt_of_cell? w _ HXA.out)).trans HXA.out, (HB.out.cell (World.block_lt_of_cell? w _ HXB.out)).trans HXB.out⟩ (fun hHeld => ?_)
            clear hK K
            refine norm_ (a' := ?_) ?_ ?_
            rotate_left
            · show Act.put _ (some 37) _ = _
              simp only [Act.put, List.setIfInBounds_toArray, List.set_cons_zero, List.set_cons_succ, i64_w, i32_w]
              rfl
            refine pure_ (i := 24) (N := some 38) (v := ?_) (a' := ?_) #[true, true, true, true, true, true, true, true, true, true, true, true, true, true, true, true, true, true, true, true, true, true, true, true, true, false, false] rfl rfl (by kernel_rfl) (fun _ _ _ h => h) (Or.inl ⟨by rfl, ?_⟩) ?_ ?_
            rotate_left
            · intro w'
              go_simp
              with_reducible rfl
            rotate_left
            · simp only [Act.put, List.setIfInBounds_toArray, List.set_cons_zero, List.set_cons_succ, i64_w, i32_w]
              rfl
            refine pure_ (i := 25) (N := some 39) (v := ?_) (a' := ?_) #[true, true, true, true, true, true, true, true, true, true, true, true, true, true, true, true, true, true, true, true, true, true, true, true, true, true, false] rfl rfl (by kernel_rfl) (fun _ _ _ h => h) (Or.inl ⟨by rfl, ?_⟩) ?_ ?_
            rotate_left
            · intro w'
              go_simp
              with_reducible rfl
            rotate_left
            · simp only [Act.put, List.setIfInBounds_toArray, List.set_cons_zero, List.set_cons_succ, i64_w, i32_w]
              rfl
            refine pure_ (i := 26) (N := some 40) (v := ?_) (a' := ?_) #[true, true, true, true, true, true, true, true, true, true, true, true, true, true, true, true, true, true, true, true, true, true, true, true, true, true, true] rfl rfl (by kernel_rfl) (fun _ _ _ h => h) (Or.inl ⟨by rfl, ?_⟩) ?_ ?_
            rotate_left
            · intro w'
              go_simp
              with_reducible rfl
            rotate_left
            · simp only [Act.put, List.setIfInBounds_toArray, List.set_cons_zero, List.set_cons_succ, i64_w, i32_w]
              rfl
            refine done_ (by kernel_rfl) ?_
            go_wp2
            go_ret
            exact ⟨rfl, HB.out⟩
          | true =>
            rw [Bool.true_and] at hr'
            have HG := Aside0.mk hr'
            clear hr'
            refine start_ (n := 27) (S := (fun w' => w'.cell? ⟨gb, 0, none⟩ = some (.slice (some ad) l.length c) ∧ w'.cell? (ad.add (ji.toNat * 3)) = some (.string q.f0) ∧ w'.cell? (ad.add (j * 3)) = some (.string t.f0))) (ds := []) #[false, false, false, false, false, false, false, false, false, false, false, false, false, false, false, false, false, false, false, false, false, false, false, false, false, false, false] (by kernel_rfl) rfl rfl ⟨(bce BK.out 0).trans rfl, (HB.out.cell (World.block_lt_of_cell? w _ HXA.out)).trans HXA.out, (HB.out.cell (World.block_lt_of_cell? w _ HXB.out)).trans HXB.out⟩ (fun hHeld => ?_)
            refine pure_ (i := 0) (N := some 14) (v := ?_) (a' := ?_) #[true, false, false, false, false, false, false, false, false, false, false, false, false, false, false, false, false, false, false, false, false, false, false, false, false, false, false] rfl rfl (by kernel_rfl) (fun _ _ _ h => h) (Or.inl ⟨by rfl, ?_⟩) ?_ ?_
            rotate_left
            · intro w'
              go_simp
              with_reducible rfl
            rotate_left
            · simp only [Act.put, List.setIfInBounds_toArray, List.set_cons_zero, List.set_cons_succ, i64_w, i32_w]
              rfl
            refine take_ (i := 1) (N := some 15) (v := ?_) (a' := ?_) #[true, true, false, false, false, false, false, false, false, false, false, false, false, false, false, false, false, false, false, false, false, false, false, false, false, false, false] rfl rfl (by kernel_rfl) (fun _ _ _ h => h) (Or.inl ⟨by rfl, ?_⟩) hHeld ?_ ?_
            rotate_left
            · rintro w' ⟨s0, s1, s2⟩
              go_simp
              with_reducible rfl
            rotate_left
            · simp only [Act.put, List.setIfInBounds_toArray, List.set_cons_zero, List.set_cons_succ, i64_w, i32_w]
              rfl
            refine pure_ (i := 2) (N := some 16) (v := ?_) (a' := ?_) #[true, true, true, false, false, false, false, false, false, false, false, false, false, false, false, false, false, false, false, false, false, false, false, false, false, false, false] rfl rfl (by kernel_rfl) (fun _ _ _ h => h) (Or.inl ⟨by rfl, ?_⟩) ?_ ?_
            rotate_left
            · intro w'
              go_simp
              with_reducible rfl
            rotate_left
            · simp only [Act.put, List.setIfInBounds_toArray, List.set_cons_zero, List.set_cons_succ, i64_w, i32_w]
              rfl
            refine pure_ (i := 3) (N := some 17) (v := ?_) (a' := ?_) #[true, true, true, true, false, false, false, false, false, false, false, false, false, false, false, false, false, false, false, false, false, false, false, false, false, false, false] rfl rfl (by kernel_rfl) (fun _ _ _ h => h) (Or.inl ⟨by rfl, ?_⟩) ?_ ?_
            rotate_left
            · intro w'
              go_simp
              with_reducible rfl
            rotate_left
            · simp only [Act.put, List.setIfInBounds_toArray, List.set_cons_zero, List.set_cons_succ, i64_w, i32_w]
              rfl
            refine one_ (i := 4) (N := some 18) #[true, true, true, true, true, false, false, false, false, false, false, false, false, false, false, false, false, false, false, false, false, false, false, false, false, false, false] rfl rfl (by kernel_rfl) (by decide) (fun K hK => ?_)
            refine goes_ Tryd.func12 (by kernel_rfl) rfl #[.pointer (some (ad.add (j * 3)))] (by rfl) rfl rfl (by (try simp only [List.map_toArray, List.map_cons, List.map_nil]); first | done | rfl) ?_
            with_reducible refine (HTK.out _ HB.out).mono ?_
            rintro e wc ⟨rfl, hb⟩
            refine ⟨_, rfl, ?_⟩
            have n0_ := Aside0.mk (bst HB.out hb)
            have n1_ := Aside0.mk (bbe (g := gb) BK.out hb)
            clear hb
            clear HB BK
            have HB := n0_
            have BK := n1_
            clear n0_ n1_
            refine hK.out _ _ ⟨(bce BK.out 0).trans rfl, (HB.out.cell (World.block_lt_of_cell? w _ HXA.out)).trans HXA.out, (HB.out.cell (World.block_lt_of_cell? w _ HXB.out)).trans HXB.out⟩ (fun hHeld => ?_)
            clear hK K
            refine norm_ (a' := ?_) ?_ ?_
            rotate_left
            · show Act.put _ (some 18) _ = _
              simp only [Act.put, List.setIfInBounds_toArray, List.set_cons_zero, List.set_cons_succ, i64_w, i32_w]
              rfl
            refine pure_ (i := 5) (N := some 19) (v := ?_) (a' := ?_) #[true, true, true, true, true, true, false, false, false, false, false, false, false, false, false, false, false, false, false, false, false, false, false, false, false, false, false] rfl rfl (by kernel_rfl) (fun _ _ _ h => h) (Or.inl ⟨by rfl, ?_⟩) ?_ ?_
            rotate_left
            · intro w'
              go_simp
              with_reducible rfl
            rotate_left
            · simp only [Act.put, List.setIfInBounds_toArray, List.set_cons_zero, List.set_cons_succ, i64_w, i32_w]
              rfl
            refine pure_ (i := 6) (N := some 20) (v := ?_) (a' := ?_) #[true, true, true, true, true, true, true, false, false, false, false, false, false, false, false, false, false, false, false, false, false, false, false, false, false, false, false] rfl rfl (by kernel_rfl) (fun _ _ _ h => h) (Or.inl ⟨by rfl, ?_⟩) ?_ ?_
            rotate_left
            · intro w'
              go_simp
              with_reducible rfl
            rotate_left
            · simp only [Act.put, List.setIfInBounds_toArray, List.set_cons_zero, List.set_cons_succ, i64_w, i32_w]
              rfl
            refine pure_ (i := 7) (N := some 21) (v := ?_) (a' := ?_) #[true, true, true, true, true, true, true, true, false, false, false, false, false, false, false, false, false, false, false, false, false, false, false, false, false, false, false] rfl rfl (by kernel_rfl) (fun _ _ _ h => h) (Or.inl ⟨by rfl, ?_⟩) ?_ ?_
            rotate_left
            · intro w'
              go_simp
              with_reducible rfl
            rotate_left
            · simp only [Act.put, List.setIfInBounds_toArray, List.set_cons_zero, List.set_cons_succ, i64_w, i32_w]
              rfl
            refine pure_ (i := 8) (N := some 22) (v := ?_) (a' := ?_) #[true, true, true, true, true, true, true, true, true, false, false, false, false, false, false, false, false, false, false, false, false, false, false, false, false, false, false] rfl rfl (by kernel_rfl) (fun _ _ _ h => h) (Or.inl ⟨by rfl, ?_⟩) ?_ ?_
            rotate_left
            · intro w'
              go_simp
              with_reducible rfl
            rotate_left
            · simp only [Act.put, List.setIfInBounds_toArray, List.set_cons_zero, List.set_cons_succ, i64_w, i32_w]
              rfl
            refine pure_ (i := 9) (N := some 23) (v := ?_) (a' := ?_) #[true, true, true, true, true, true, true, true, true, true, false, false, false, false, false, false, false, false, false, false, false, false, false, false, false, false, false] rfl rfl (by kernel_rfl) (fun _ _ _ h => h) (Or.inl ⟨by rfl, ?_⟩) ?_ ?_
            rotate_left
            · intro w'
              go_simp
              with_reducible rfl
            rotate_left
            · simp only [Act.put, List.setIfInBounds_toArray, List.set_cons_zero, List.set_cons_succ, i64_w, i32_w]
              rfl
            refine pure_ (i := 10) (N := some 24) (v := ?_) (a' := ?_) #[true, true, true, true, true, true, true, true, true, true, true, false, false, false, false, false, false, false, false, false, false, false, false, false, false, false, false] rfl rfl (by kernel_rfl) (fun _ _ _ h => h) (Or.inl ⟨by rfl, ?_⟩) ?_ ?_
            rotate_left
            · intro w'
              go_simp
              with_reducible rfl
            rotate_left
            · simp only [Act.put, List.setIfInBounds_toArray, List.set_cons_zero, List.set_cons_succ, i64_w, i32_w]
              rfl
            refine take_ (i := 11) (N := some 25) (v := ?_) (a' := ?_) #[true, true, true, true, true, true, true, true, true, true, true, true, false, false, false, false, false, false, false, false, false, false, false, false, false, false, false] rfl rfl (by kernel_rfl) (fun _ _ _ h => h) (Or.inl ⟨by rfl, ?_⟩) hHeld ?_ ?_
            rotate_left
            · rintro w' ⟨s0, s1, s2⟩
              go_simp
              with_reducible rfl
            rotate_left
            · simp only [Act.put, List.setIfInBounds_toArray, List.set_cons_zero, List.set_cons_succ, i64_w, i32_w]
              rfl
            refine pure_ (i := 12) (N := some 26) (v := ?_) (a' := ?_) #[true, true, true, true, true, true, true, true, true, true, true, true, true, false, false, false, false, false, false, false, false, false, false, false, false, false, false] rfl rfl (by kernel_rfl) (fun _ _ _ h => h) (Or.inl ⟨by rfl, ?_⟩) ?_ ?_
            rotate_left
            · intro w'
              go_simp
              with_reducible rfl
            rotate_left
            · simp only [Act.put, List.setIfInBounds_toArray, List.set_cons_zero, List.set_cons_succ, i64_w, i32_w]
              rfl
            refine pure_ (i := 13) (N := some 27) (v := ?_) (a' := ?_) #[true, true, true, true, true, true, true, true, true, true, true, true, true, true, false, false, false, false, false, false, false, false, false, false, false, false, false] rfl rfl (by kernel_rfl) (fun _ _ _ h => h) (Or.inl ⟨by rfl, ?_⟩) ?_ ?_
            rotate_left
            · intro w'
              go_simp
              with_reducible rfl
            rotate_left
            · simp only [Act.put, List.setIfInBounds_toArray, List.set_cons_zero, List.set_cons_succ, i64_w, i32_w]
              rfl
            refine pure_ (i := 14) (N := some 28) (v := ?_) (a' := ?_) #[true, true, true, true, true, true, true, true, true, true, true, true, true, true, true, false, false, false, false, false, false, false, false, false, false, false, false] rfl rfl (by kernel_rfl) (fun _ _ _ h => h) (Or.inl ⟨by rfl, ?_⟩) ?_ ?_
            rotate_left
            · intro w'
              go_simp
              with_reducible rfl
            rotate_left
            · simp only [Act.put, List.setIfInBounds_toArray, List.set_cons_zero, List.set_cons_succ, i64_w, i32_w]
              rfl
            refine pure_ (i := 15) (N := some 29) (v := ?_) (a' := ?_) #[true, true, true, true, true, true, true, true, true, true, true, true, true, true, true, true, false, false, false, false, false, false, false, false, false, false, false] rfl rfl (by kernel_rfl) (fun _ _ _ h => h) (Or.inl ⟨by rfl, ?_⟩) ?_ ?_
            rotate_left
            · intro w'
              go_simp
              with_reducible rfl
            rotate_left
            · simp only [Act.put, List.setIfInBounds_toArray, List.set_cons_zero, List.set_cons_succ, i64_w, i32_w]
              rfl
            refine take_ (i := 16) (N := some 30) (v := ?_) (a' := ?_) #[true, true, true, true, true, true, true, true, true, true, true, true, true, true, true, true, true, false, false, false, false, false, false, false, false, false, false] rfl rfl (by kernel_rfl) (fun _ _ _ h => h) (Or.inl ⟨by rfl, ?_⟩) hHeld ?_ ?_
            rotate_left
            · rintro w' ⟨s0, s1, s2⟩
              go_simp
              with_reducible rfl
            rotate_left
            · simp only [Act.put, List.setIfInBounds_toArray, List.set_cons_zero, List.set_cons_succ, i64_w, i32_w]
              rfl
            refine pure_ (i := 17) (N := some 31) (v := ?_) (a' := ?_) #[true, true, true, true, true, true, true, true, true, true, true, true, true, true, true, true, true, true, false, false, false, false, false, false, false, false, false] rfl rfl (by kernel_rfl) (fun _ _ _ h => h) (Or.inl ⟨by rfl, ?_⟩) ?_ ?_
            rotate_left
            · intro w'
              go_simp
              with_reducible rfl
            rotate_left
            · simp only [Act.put, List.setIfInBounds_toArray, List.set_cons_zero, List.set_cons_succ, i64_w, i32_w]
              rfl
            refine take_ (i := 18) (N := some 32) (v := ?_) (a' := ?_) #[true, true, true, true, true, true, true, true, true, true, true, true, true, true, true, true, true, true, true, false, false, false, false, false, false, false, false] rfl rfl (by kernel_rfl) (fun _ _ _ h => h) (Or.inl ⟨by rfl, ?_⟩) hHeld ?_ ?_
            rotate_left
            · rintro w' ⟨s0, s1, s2⟩
              go_simp
              with_reducible rfl
            rotate_left
            · simp only [Act.put, List.setIfInBounds_toArray, List.set_cons_zero, List.set_cons_succ, i64_w, i32_w]
              rfl
            refine pure_ (i := 19) (N := some 33) (v := ?_) (a' := ?_) #[true, true, true, true, true, true, true, true, true, true, true, true, true, true, true, true, true, true, true, true, false, false, false, false, false, false, false] rfl rfl (by kernel_rfl) (fun _ _ _ h => h) (Or.inl ⟨by rfl, ?_⟩) ?_ ?_
            rotate_left
            · intro w'
              go_simp
              with_reducible rfl
            rotate_left
            · simp only [Act.put, List.setIfInBounds_toArray, List.set_cons_zero, List.set_cons_succ, i64_w, i32_w]
              rfl
            refine pure_ (i := 20) (N := some 34) (v := ?_) (a' := ?_) #[true, true, true, true, true, true, true, true, true, true, true, true, true, true, true, true, true, true, true, true, true, false, false, false, false, false, false] rfl rfl (by kernel_rfl) (fun _ _ _ h => h) (Or.inl ⟨by rfl, ?_⟩) ?_ ?_
            rotate_left
            · intro w'
              go_simp
              with_reducible rfl
            rotate_left
            · simp only [Act.put, List.setIfInBounds_toArray, List.set_cons_zero, List.set_cons_succ, i64_w, i32_w]
              rfl
            refine pure_ (i := 21) (N := some 35) (v := ?_) (a' := ?_) #[true, true, true, true, true, true, true, true, true, true, true, true, true, true, true, true, true, true, true, true, true, true, false, false, false, false, false] rfl rfl (by kernel_rfl) (fun _ _ _ h => h) (Or.inl ⟨by rfl, ?_⟩) ?_ ?_
            rotate_left
            · intro w'
              go_simp
              with_reducible rfl
            rotate_left
            · simp only [Act.put, List.setIfInBounds_toArray, List.set_cons_zero, List.set_cons_succ, i64_w, i32_w]
              rfl
            refine take_ (i := 22) (N := some 36) (v := ?_) (a' := ?_) #[true, true, true, true, true, true, true, true, true, true, true, true, true, true, true, true, true, true, true, true, true, true, true, false, false, false, false] rfl rfl (by kernel_rfl) (fun _ _ _ h => h) (Or.inl ⟨by rfl, ?_⟩) hHeld ?_ ?_
            rotate_left
            · rintro w' ⟨s0, s1, s2⟩
              go_simp
              with_reducible rfl
            rotate_left
            · simp only [Act.put, List.setIfInBounds_toArray, List.set_cons_zero, List.set_cons_succ, i64_w, i32_w]
              rfl
            refine one_ (i := 23) (N := some 37) #[true, true, true, true, true, true, true, true, true, true, true, true, true, true, true, true, true, true, true, true, true, true, true, true, false, false, false] rfl rfl (by kernel_rfl) (by decide) (fun K hK => ?_)
            refine goes_ Tryd.func13 (by kernel_rfl) rfl #[.string q.f0, .string t.f0] (by rfl) rfl rfl (by (try simp only [List.map_toArray, List.map_cons, List.map_nil]); first | done | rfl) ?_
            with_reducible refine (HSS.out _).mono ?_
            rintro e wc ⟨rfl, ⟨n, rfl⟩⟩
            refine ⟨_, rfl, ?_⟩
            have n0_ := Aside0.mk (pbd HB.out n)
            have n1_ := Aside0.mk (bdN BK.out n)
            clear HB BK
            have HB := n0_
            have BK := n1_
            clear n0_ n1_
            refine hK.out _ _ ⟨(bce BK.out 0).trans rfl, (HB.out.cell (World.block_lt_of_cell? w _ HXA.out)).trans HXA.out, (HB.out.cell (World.block_lt_of_cell? w _ HXB.out)).trans HXB.out⟩ (fun hHeld => ?_)
            clear hK K
            refine norm_ (a' := ?_) ?_ ?_
            rotate_left
            · show Act.put _ (some 37) _ = _
              simp only [Act.put, List.setIfInBounds_toArray, List.set_cons_zero, List.set_cons_succ, i64_w, i32_w]
              rfl
            refine pure_ (i := 24) (N := some 38) (v := ?_) (a' := ?_) #[true, true, true, true, true, true, true, true, true, true, true, true, true, true, true, true, true, true, true, true, true, true, true, true, true, false, false] rfl rfl (by kernel_rfl) (fun _ _ _ h => h) (Or.inl ⟨by rfl, ?_⟩) ?_ ?_
            rotate_left
            · intro w'
              go_simp
              with_reducible rfl
            rotate_left
            · simp only [Act.put, List.setIfInBounds_toArray, List.set_cons_zero, List.set_cons_succ, i64_w, i32_w]
              rfl
            refine pure_ (i := 25) (N := some 39) (v := ?_) (a' := ?_) #[true, true, true, true, true, true, true, true, true, true, true, true, true, true, true, true, true, true, true, true, true, true, true, true, true, true, false] rfl rfl (by kernel_rfl) (fun _ _ _ h => h) (Or.inl ⟨by rfl, ?_⟩) ?_ ?_
            rotate_left
            · intro w'
              go_simp
              with_reducible rfl
            rotate_left
            · simp only [Act.put, List.setIfInBounds_toArray, List.set_cons_zero, List.set_cons_succ, i64_w, i32_w]
              rfl
            refine pure_ (i := 26) (N := some 40) (v := ?_) (a' := ?_) #[true, true, true, true, true, true, true, true, true, true, true, true, true, true, true, true, true, true, true, true, true, true, true, true, true, true, true] rfl rfl (by kernel_rfl) (fun _ _ _ h => h) (Or.inl ⟨by rfl, ?_⟩) ?_ ?_
            rotate_left
            · intro w'
              go_simp
              with_reducible rfl
            rotate_left
            · simp only [Act.put, List.setIfInBounds_toArray, List.set_cons_zero, List.set_cons_succ, i64_w, i32_w]
              rfl
            refine done_ (by kernel_rfl) ?_
            go_wp2
            go_roundg k1
            case measure => have := HJ.out; omega
            case rel => exact ⟨j + 1, by have e_ : wrap64 ((j : Int) + 1) = ((j + 1 : Nat) : Int) := (by have := HL.out; have := HJ.out; unfold wrap64; omega); rw [e_], ⟨by have := HJ.out; omega⟩, ⟨by rw [if_neg (by omega), Nat.add_sub_cancel, HRT.out]; exact HG.out⟩, BK, HB⟩
end Go.Proofs.YtoebfjfhdodakaaDoor.L
end
section
namespace Go.Proofs.YtoebfjfhdodakaaDoor.L
open Go.RowKit Go.Proofs.YtoebfjfhdodakaaDoorW.PrintWords Go.Proofs.YtoebfjfhdodakaaDoorW.PrintLast Go.Proofs.YtoebfjfhdodakaaDoorW.PrintMore
attribute [local go_sem] max2_int min2_int max_two min_two max_three min_three max_four min_four
set_option linter.unusedVariables false
set_option linter.unusedSimpArgs false
def fitB (cols : List DCol) (row : List DVal) : Bool := (impl_fitsCols.f (row.length + 1) cols row).getD false
def keyB (a b : DVal) : Bool := (impl_keyLess.f a.f0 a.f1 a.f2 b.f0 b.f1 b.f2).getD false
def lessB (a b : ByteArray) : Bool := Op.bytesLess a.toList b.toList
def tabB (t : DTab) : Bool := tabHead t.f0 t.f1 t.f2 && (t.f1.all colOKb && rowsGo (fitB t.f1) keyB none t.f2)
def tabFine (t : DTab) : Bool := decide (t.f0.size ≤ 9223372036854775807) && (impl_doubled.ok t.f1 && t.f2.all fun row => (impl_fitsCols.f (row.length + 1) t.f1 row).isSome)
theorem fitB_len (cols : List DCol) (row : List DVal) (h : fitB cols row = true) : row.length = cols.length := by
  unfold fitB impl_fitsCols.f at h
  by_cases e : (row.length : Int) = (cols.length : Int)
  · omega
  · rw [if_neg e] at h
    cases h
theorem keyB_some (a b : DVal) : impl_keyLess.f a.f0 a.f1 a.f2 b.f0 b.f1 b.f2 = some (keyB a b) := by
  unfold keyB impl_keyLess.f impl_less_int.f impl_less_string.f
  split <;> rfl
def impl_DbOK.f (l0_0 : List (S37)) : Option Bool := if (l0_0.all tabFine) = true then some (decide (l0_0.length ≤ 100) && dbGo tabB lessB none l0_0) else none
theorem impl_DbOK.calls (A0_0 : Option Addr) (c0_0 : Nat) (l0_0 : List (S37)) (r : Bool) (w : World) (hG : GOK w) (hr0_0 : Kd.C k37 w A0_0 l0_0.length l0_0) (hc0_0 : l0_0.length ≤ c0_0) (h : impl_DbOK.f l0_0 = some r) :
    Calls Tryd.prog 7 #[.agg #[.slice A0_0 l0_0.length c0_0]] w fun e w' => e = .returned (.bool r) ∧ Below w.heap.size w w' := by
  unfold impl_DbOK.f at h
  by_cases hs : (l0_0.all tabFine) = true
  · rw [if_pos hs] at h
    have hr := Option.some.inj h
    rw [List.all_eq_true] at hs
    refine dbOK_any A0_0 c0_0 l0_0 w tabB lessB hr0_0 (fun t ht p A1 c1 A2 c2 hx0 hx1 hx2 hc1 hi1 hc2 hi2 w' hb => ?_) (fun a b w' => impl_less_string.calls a b _ w' rfl) r hr
    have hf := hs t ht
    unfold tabFine impl_doubled.ok at hf
    simp only [Bool.and_eq_true, decide_eq_true_eq, List.all_eq_true] at hf
    obtain ⟨hf1, ⟨hf2, hf3⟩, hf4⟩ := hf
    have hlt : ∀ {q : Addr} {v : Value}, w.cell? q = some v → w'.cell? q = some v := fun h0 => (hb.cell (World.block_lt_of_cell? w _ h0)).trans h0
    have hup : ∀ w'', Below w'.heap.size w' w'' → Below w.heap.size w w'' := fun w'' h2 => bst hb h2
    refine tableOK_any p t.f0 A1 c1 t.f1 A2 c2 t.f2 (fitB t.f1) keyB w' (hlt hx0) (hlt hx1) (hlt hx2) (Kd.Cbe hi1 hb) (Kd.Cbe hi2 hb) (fun s w'' hs2 hb2 => ?_) (fun w'' hb2 => ?_) (fun w'' A c row hrow hc hC hb2 => ?_) (fun w'' a b => ?_) (fun row hrow hfit => fitB_len t.f1 row hfit) _ rfl
    · have hsz : s.size ≤ 9223372036854775807 := by
        rcases hs2 with rfl | ⟨x, hx, rfl⟩
        · exact hf1
        · have := hf3 x hx
          unfold maxLen at this
          omega
      exact isName_any s w'' (hG.below (hup w'' hb2)) hsz
    · exact impl_doubled.calls A1 c1 t.f1 _ w'' (Kd.Cbe hi1 (hup w'' hb2)) hc1 (by
        unfold impl_doubled.f
        rw [if_pos (by unfold impl_doubled.ok; simp only [Bool.and_eq_true, decide_eq_true_eq, List.all_eq_true]; exact ⟨hf2, hf3⟩)])
    · have h1 : impl_fitsCols.f (row.length + 1) t.f1 row = some (fitB t.f1 row) := by
        obtain ⟨b, hb3⟩ := Option.isSome_iff_exists.mp (hf4 row hrow)
        unfold fitB
        rw [hb3]
        rfl
      exact impl_fitsCols.calls (row.length + 1) A1 c1 t.f1 A c row _ w'' (Kd.Cbe hi1 (hup w'' hb2)) hc1 (Kd.Cbe hC hb2) hc h1
    · exact impl_keyLess.calls a.f0 a.f1 a.f2 b.f0 b.f1 b.f2 _ w'' (keyB_some a b)
  · rw [if_neg hs] at h
    cases h
def laws_eqColumn.f (a0_0 : ByteArray) (a0_1 : Int) (a1_0 : ByteArray) (a1_1 : Int) : Option (Bool) := if a0_0.toList = a1_0.toList then (if a0_1 = a1_1 then (some true) else (some false)) else (some false)
set_option maxHeartbeats 8000000 in
set_option maxRecDepth 100000 in
theorem laws_eqColumn.calls (a0_0 : ByteArray) (a0_1 : Int) (a1_0 : ByteArray) (a1_1 : Int) (r : Bool) (w : World) (h : laws_eqColumn.f a0_0 a0_1 a1_0 a1_1 = some r) :
    Calls Tryd.prog 50 #[.agg #[.string a0_0, .int .i64 a0_1], .agg #[.string a1_0, .int .i64 a1_1]] w fun e w' => e = .returned (.bool r) ∧ Below w.heap.size w w' := by
  have hu52 := Tryd.underlying52; have HB := qK (Below.refl w.heap.size w); have H : (if a0_0.toList = a1_0.toList then (if a0_1 = a1_1 then (some true) else (some false)) else (some false)) = some r := h; clear h; by_cases c3 : a0_0.toList = a1_0.toList
  · rw [if_pos c3] at H; have c3b0 : (a0_0.toList == a1_0.toList) = true := beq_iff_eq.mpr c3; have c3b1 : (a0_0.toList != a1_0.toList) = false := bne_eq_false_iff_eq.mpr c3; clear c3; by_cases c4 : a0_1 = a1_1
    · rw [if_pos c4] at H; have c4b0 : (a0_1 == a1_1) = true := beq_iff_eq.mpr c4; have c4b1 : (a0_1 != a1_1) = false := bne_eq_false_iff_eq.mpr c4; clear c4; obtain rfl := Option.some.inj H; go_enter Tryd.func50, Tryd.ntmps50; go_wp2_with (first | ((with_reducible refine gds (N := 2) rfl ?_); refine qbx 2 #[.string a0_0, .int .i64 a0_1] 52 ?_; intro gb240 hg w5 hbox hb; have BK240 := qK (hbox); have GW240 := qK ((qW : w.heap.size ≤ gb240)); have GE240 := GW240; replace HB := qHB HB hb; clear hb hbox hg) | ((with_reducible refine gds (N := 3) rfl ?_); refine qbx 3 #[.string a1_0, .int .i64 a1_1] 52 ?_; intro gb241 hg w6 hbox hb; have BK241 := qK (hbox); have GW241 := qK ((qW : w.heap.size ≤ gb241)); have GE241 := GW241; replace HB := qHB HB hb; have NB240_241 := qK (qlt BK240 hg); have NB241_240 := qK (qgt BK240 hg); replace BK240 := qbb BK240 hb; clear hb hbox hg; have hnb7 := NB240_241.out; have hnc7 := NB241_240.out; have hz8 := qz2 BK240.out; have hz9 := qz2 BK241.out)); go_ret; exact ⟨qR, qB⟩
    · rw [if_neg c4] at H; have c4b0 : (a0_1 == a1_1) = false := beq_eq_false_iff_ne.mpr c4; have c4b1 : (a0_1 != a1_1) = true := bne_iff_ne.mpr c4; obtain rfl := Option.some.inj H; go_enter Tryd.func50, Tryd.ntmps50; go_wp2_with (first | ((with_reducible refine gds (N := 2) rfl ?_); refine qbx 2 #[.string a0_0, .int .i64 a0_1] 52 ?_; intro gb240 hg w10 hbox hb; have BK240 := qK (hbox); have GW240 := qK ((qW : w.heap.size ≤ gb240)); have GE240 := GW240; replace HB := qHB HB hb; clear hb hbox hg) | ((with_reducible refine gds (N := 3) rfl ?_); refine qbx 3 #[.string a1_0, .int .i64 a1_1] 52 ?_; intro gb241 hg w11 hbox hb; have BK241 := qK (hbox); have GW241 := qK ((qW : w.heap.size ≤ gb241)); have GE241 := GW241; replace HB := qHB HB hb; have NB240_241 := qK (qlt BK240 hg); have NB241_240 := qK (qgt BK240 hg); replace BK240 := qbb BK240 hb; clear hb hbox hg; have hnb12 := NB240_241.out; have hnc12 := NB241_240.out; have hz13 := qz2 BK240.out; have hz14 := qz2 BK241.out)); go_ret; exact ⟨qR, qB⟩
  · rw [if_neg c3] at H; have c3b0 : (a0_0.toList == a1_0.toList) = false := beq_eq_false_iff_ne.mpr c3; have c3b1 : (a0_0.toList != a1_0.toList) = true := bne_iff_ne.mpr c3; obtain rfl := Option.some.inj H; go_enter Tryd.func50, Tryd.ntmps50; go_wp2_with (first | ((with_reducible refine gds (N := 2) rfl ?_); refine qbx 2 #[.string a0_0, .int .i64 a0_1] 52 ?_; intro gb240 hg w15 hbox hb; have BK240 := qK (hbox); have GW240 := qK ((qW : w.heap.size ≤ gb240)); have GE240 := GW240; replace HB := qHB HB hb; clear hb hbox hg) | ((with_reducible refine gds (N := 3) rfl ?_); refine qbx 3 #[.string a1_0, .int .i64 a1_1] 52 ?_; intro gb241 hg w16 hbox hb; have BK241 := qK (hbox); have GW241 := qK ((qW : w.heap.size ≤ gb241)); have GE241 := GW241; replace HB := qHB HB hb; have NB240_241 := qK (qlt BK240 hg); have NB241_240 := qK (qgt BK240 hg); replace BK240 := qbb BK240 hb; clear hb hbox hg; have hnb17 := NB240_241.out; have hnc17 := NB241_240.out; have hz18 := qz2 BK240.out; have hz19 := qz2 BK241.out)); go_ret; exact ⟨qR, qB⟩
def laws_eqColumnS.l0 : Nat → List (S52) → List (S52) → Int → Option (Bool)
  | 0, _, _, _ => none
  | k + 1, x0, x1, x5 => if x5 < (x0.length : Int) then (if 0 ≤ x5 then (if x5 < (x1.length : Int) then ((laws_eqColumn.f ((rd_T52 x0 x5).f0) ((rd_T52 x0 x5).f1) ((rd_T52 x1 x5).f0) ((rd_T52 x1 x5).f1)).bind fun t244 => (if t244 = true then (laws_eqColumnS.l0 k x0 x1 (wrap64 (x5 + 1))) else (some false))) else (none)) else (none)) else (some true)
def laws_eqColumnS.f (k : Nat) (l0 : List (S52)) (l1 : List (S52)) : Option (Bool) := if (l0.length : Int) = (l1.length : Int) then (laws_eqColumnS.l0 k l0 l1 0) else (some false)
theorem laws_eqColumnS.mono_l : ∀ k, (∀ y0 y1 y2, LeO (laws_eqColumnS.l0 k y0 y1 y2) (laws_eqColumnS.l0 (k + 1) y0 y1 y2))
  | 0 => fun _ _ _ r h => by simp [laws_eqColumnS.l0] at h
  | k + 1 => by
    have ih0 := laws_eqColumnS.mono_l k
    · intro y0 y1 y2
      unfold laws_eqColumnS.l0
      repeat' first
      | (with_reducible exact ih0 _ _ _)
      | (with_reducible exact LeO.refl _)
      | (with_reducible exact LeO.none _)
      | (with_reducible refine LeO.ite ?_ ?_)
      | (with_reducible refine LeO.bind ?_ (fun _ => ?_))
      | exact ih0 _ _ _
      | exact LeO.none _
      | refine LeO.ite ?_ ?_
      | refine LeO.bind ?_ (fun _ => ?_)
theorem laws_eqColumnS.mono : ∀ a0 a1 k, LeO (laws_eqColumnS.f k a0 a1) (laws_eqColumnS.f (k + 1) a0 a1) := by
  intro a0 a1 k
  have ih0 := laws_eqColumnS.mono_l k
  unfold laws_eqColumnS.f
  repeat' first
      | (with_reducible exact ih0 _ _ _)
      | (with_reducible exact LeO.refl _)
      | (with_reducible exact LeO.none _)
      | (with_reducible refine LeO.ite ?_ ?_)
      | (with_reducible refine LeO.bind ?_ (fun _ => ?_))
      | exact ih0 _ _ _
      | exact LeO.none _
      | refine LeO.ite ?_ ?_
      | refine LeO.bind ?_ (fun _ => ?_)
def laws_eqColumnS.T6 : Bool × List (List Nat × List Nat) := (true, [([], []), ([], []), ([0, 1], [0, 1]), ([2], [2]), ([], []), ([], []), ([4, 5], [4, 5]), ([6], [6]), ([3, 7], [3, 7]), ([8], [8])])
def laws_eqColumnS.B6 : List Nat := [0, 0, 3, 7, 0, 0, 48, 112, 255, 511]
theorem laws_eqColumnS.tab6 : rtab .any (opsOf Tryd.f42 6) = laws_eqColumnS.T6 := by kernel_rfl
theorem laws_eqColumnS.bits6 : waitsOk laws_eqColumnS.T6.2 laws_eqColumnS.B6 = true := by kernel_rfl
set_option maxHeartbeats 8000000 in
set_option maxRecDepth 100000 in
theorem laws_eqColumnS.calls (k : Nat) (A0 : Option Addr) (c0 : Nat) (l0 : List (S52)) (A1 : Option Addr) (c1 : Nat) (l1 : List (S52)) (r : Bool) (w : World) (hr0 : Kd.C k52 w A0 l0.length l0) (hc0 : l0.length ≤ c0) (hr1 : Kd.C k52 w A1 l1.length l1) (hc1 : l1.length ≤ c1) (h : laws_eqColumnS.f k l0 l1 = some r) :
    Calls Tryd.prog 42 #[.slice A0 l0.length c0, .slice A1 l1.length c1] w fun e w' => e = .returned (.bool r) ∧ Below w.heap.size w w' := by
  have hu52 := Tryd.underlying52; have HR0 := qK hr0; have HC0 := qK hc0; clear hr0 hc0; have HR1 := qK hr1; have HC1 := qK hc1; clear hr1 hc1; have HB := qK (Below.refl w.heap.size w); have H : (if (l0.length : Int) = (l1.length : Int) then (laws_eqColumnS.l0 k l0 l1 0) else (some false)) = some r := h; clear h; by_cases c3 : (l0.length : Int) = (l1.length : Int)
  · rw [if_pos c3] at H; have c3b0 : ((l0.length : Int) == (l1.length : Int)) = true := beq_iff_eq.mpr c3; have c3b1 : ((l0.length : Int) != (l1.length : Int)) = false := bne_eq_false_iff_eq.mpr c3; (have c3b2 : (l0.length == l1.length) = true := by first | simpa using c3 | (simp at c3 ⊢; omega)); clear c3; have H' := qK H; clear H; go_enter Tryd.func42, Tryd.ntmps42; go_wp2; go_loopg [5] k (fun kq v5 w' => ∃ (x5_1 : Int), v5 = .int .i64 x5_1 ∧ Aside0 (laws_eqColumnS.l0 kq l0 l1 x5_1 = some r) ∧ Aside0 (kq ≤ k) ∧ Aside0 (Below w.heap.size w w'))
    case atStart => exact ⟨(0), qS, H', ⟨Nat.le_refl _⟩, ⟨qB⟩⟩
    case round =>
      clear H'; (try clear c1); (try clear p2); (try clear c3); (try clear c3b0); (try clear c3b1); (try clear c3b2); obtain ⟨x5_1, rfl, HA, HK1, HB⟩ := hrel
      cases gk with
      | zero => exact absurd HA.out (by simp [laws_eqColumnS.l0])
      | succ k1 =>
        have H := HA.out; clear HA; simp only [laws_eqColumnS.l0] at H; by_cases c4 : x5_1 < (l0.length : Int)
        · rw [if_pos c4] at H; have c4b0 : decide (x5_1 < (l0.length : Int)) = true := decide_eq_true c4; clear c4; by_cases c5 : 0 ≤ x5_1
          · rw [if_pos c5] at H; have c5b0 : decide (0 ≤ x5_1) = true := decide_eq_true c5; clear c5; by_cases c6 : x5_1 < (l1.length : Int)
            · rw [if_pos c6] at H; have c6b0 : decide (x5_1 < (l1.length : Int)) = true := decide_eq_true c6; clear c6; replace H := Option.bind_eq_some_iff.mp H; obtain ⟨t244, A70, H⟩ := H; have A7 := qK A70; clear A70; by_cases c8 : t244 = true
              · subst c8; rw [if_pos rfl] at H; have H' := qK H; clear H; (try go_wp2); replace HB := qK (bd1 HB.out); have p242 : 0 ≤ (x5_1 : Int) := of_decide_eq_true qa; have q242 : x5_1 < (l0.length : Int) := of_decide_eq_true qa; obtain ⟨ad242, e242, hx242_0, hx242_1⟩ := at_T52 HR0.out x5_1 p242 q242; have hw242_1 := hx242_1; have hw242_0 := hx242_0; cases e242; replace hx242_0 := (HB.out.cell (World.block_lt_of_cell? w _ hx242_0)).trans hx242_0; replace hx242_1 := (HB.out.cell (World.block_lt_of_cell? w _ hx242_1)).trans hx242_1; replace p242 := eq_true p242; replace q242 := eq_true q242; have p243 : 0 ≤ (x5_1 : Int) := of_decide_eq_true qa; have q243 : x5_1 < (l1.length : Int) := of_decide_eq_true qa; obtain ⟨ad243, e243, hx243_0, hx243_1⟩ := at_T52 HR1.out x5_1 p243 q243; have hw243_1 := hx243_1; have hw243_0 := hx243_0; cases e243; replace hx243_0 := (HB.out.cell (World.block_lt_of_cell? w _ hx243_0)).trans hx243_0; replace hx243_1 := (HB.out.cell (World.block_lt_of_cell? w _ hx243_1)).trans hx243_1; replace p243 := eq_true p243; replace q243 := eq_true q243; refine start_ (n := 10) (S := fun w' => w'.cell? (ad242.add ((x5_1).toNat * 2)) = some (.string ((rd_T52 l0 x5_1).f0)) ∧ w'.cell? ⟨(ad242.add ((x5_1).toNat * 2)).block, (ad242.add ((x5_1).toNat * 2)).off + 1, none⟩ = some (.int .i64 ((rd_T52 l0 x5_1).f1)) ∧ w'.cell? (ad243.add ((x5_1).toNat * 2)) = some (.string ((rd_T52 l1 x5_1).f0)) ∧ w'.cell? ⟨(ad243.add ((x5_1).toNat * 2)).block, (ad243.add ((x5_1).toNat * 2)).off + 1, none⟩ = some (.int .i64 ((rd_T52 l1 x5_1).f1))) (ds := []) #[false, false, false, false, false, false, false, false, false, false] (by kernel_rfl) rfl rfl ⟨((HB.out.cell (World.block_lt_of_cell? w _ hw242_0)).trans hw242_0), ((HB.out.cell (World.block_lt_of_cell? w _ hw242_1)).trans hw242_1), ((HB.out.cell (World.block_lt_of_cell? w _ hw243_0)).trans hw243_0), ((HB.out.cell (World.block_lt_of_cell? w _ hw243_1)).trans hw243_1)⟩ (fun hHeld => ?_); refine with_tabW laws_eqColumnS.tab6 laws_eqColumnS.bits6 (fun HT_ HW_ => ?_); generalize wr.drew = w9 at HB hx242_0 hx242_1 hx243_0 hx243_1 hHeld ⊢; refine pure_ (i := 0) (N := some 17) (v := ?_) (a' := ?_) #[true, false, false, false, false, false, false, false, false, false] rfl rfl (any_of HT_.out (by kernel_rfl)) (fun _ _ _ h => h) (Or.inl ⟨by rfl, ?_⟩) ?_ ?_; rotate_left
                · intro w'; go_simp; (with_reducible rfl)
                rotate_left
                · simp only [Act.put, List.setIfInBounds_toArray, List.set_cons_zero, List.set_cons_succ, i64_w, i32_w]; rfl
                refine pure_ (i := 1) (N := some 18) (v := ?_) (a' := ?_) #[true, true, false, false, false, false, false, false, false, false] rfl rfl (any_of HT_.out (by kernel_rfl)) (fun _ _ _ h => h) (Or.inl ⟨by rfl, ?_⟩) ?_ ?_; rotate_left
                · intro w'; go_simp; (with_reducible rfl)
                rotate_left
                · simp only [Act.put, List.setIfInBounds_toArray, List.set_cons_zero, List.set_cons_succ, i64_w, i32_w]; rfl
                refine pure_ (i := 2) (N := some 19) (v := ?_) (a' := ?_) #[true, true, true, false, false, false, false, false, false, false] rfl rfl (any_of HT_.out (by kernel_rfl)) (fun _ _ _ h => h) (Or.inl ⟨by rfl, ?_⟩) ?_ ?_; rotate_left
                · intro w'; go_simp; (with_reducible rfl)
                rotate_left
                · simp only [Act.put, List.setIfInBounds_toArray, List.set_cons_zero, List.set_cons_succ, i64_w, i32_w]; rfl
                refine pure_ (i := 4) (N := some 21) (v := ?_) (a' := ?_) #[true, true, true, false, true, false, false, false, false, false] rfl rfl (any_of HT_.out (by kernel_rfl)) (fun _ _ _ h => h) (Or.inl ⟨by rfl, ?_⟩) ?_ ?_; rotate_left
                · intro w'; go_simp; (with_reducible rfl)
                rotate_left
                · simp only [Act.put, List.setIfInBounds_toArray, List.set_cons_zero, List.set_cons_succ, i64_w, i32_w]; rfl
                refine pure_ (i := 5) (N := some 22) (v := ?_) (a' := ?_) #[true, true, true, false, true, true, false, false, false, false] rfl rfl (any_of HT_.out (by kernel_rfl)) (fun _ _ _ h => h) (Or.inl ⟨by rfl, ?_⟩) ?_ ?_; rotate_left
                · intro w'; go_simp; (with_reducible rfl)
                rotate_left
                · simp only [Act.put, List.setIfInBounds_toArray, List.set_cons_zero, List.set_cons_succ, i64_w, i32_w]; rfl
                refine pure_ (i := 6) (N := some 23) (v := ?_) (a' := ?_) #[true, true, true, false, true, true, true, false, false, false] rfl rfl (any_of HT_.out (by kernel_rfl)) (fun _ _ _ h => h) (Or.inl ⟨by rfl, ?_⟩) ?_ ?_; rotate_left
                · intro w'; go_simp; (with_reducible rfl)
                rotate_left
                · simp only [Act.put, List.setIfInBounds_toArray, List.set_cons_zero, List.set_cons_succ, i64_w, i32_w]; rfl
                refine take_ (i := 3) (N := some 20) (v := ?_) (a' := ?_) #[true, true, true, true, true, true, true, false, false, false] rfl rfl (take_ofW HT_.out HW_.out (by kernel_rfl)) (fun _ _ _ h => h) (Or.inl ⟨by rfl, ?_⟩) hHeld ?_ ?_; rotate_left
                · rintro w' ⟨s0, s1, s2, s3⟩; go_simp; (with_reducible rfl)
                rotate_left
                · simp only [Act.put, List.setIfInBounds_toArray, List.set_cons_zero, List.set_cons_succ, i64_w, i32_w]; rfl
                refine take_ (i := 7) (N := some 24) (v := ?_) (a' := ?_) #[true, true, true, true, true, true, true, true, false, false] rfl rfl (take_ofW HT_.out HW_.out (by kernel_rfl)) (fun _ _ _ h => h) (Or.inl ⟨by rfl, ?_⟩) hHeld ?_ ?_; rotate_left
                · rintro w' ⟨s0, s1, s2, s3⟩; go_simp; (with_reducible rfl)
                rotate_left
                · simp only [Act.put, List.setIfInBounds_toArray, List.set_cons_zero, List.set_cons_succ, i64_w, i32_w]; rfl
                refine one_ (i := 8) (N := some 25) #[true, true, true, true, true, true, true, true, true, false] rfl rfl (one_of HT_.out (by kernel_rfl)) (by decide) (fun K hK => ?_); refine goes_ Tryd.func50 (by kernel_rfl) rfl #[.agg #[.string ((rd_T52 l0 x5_1).f0), .int .i64 ((rd_T52 l0 x5_1).f1)], .agg #[.string ((rd_T52 l1 x5_1).f0), .int .i64 ((rd_T52 l1 x5_1).f1)]] (by rfl) rfl rfl qA ?_; (with_reducible refine (laws_eqColumn.calls ((rd_T52 l0 x5_1).f0) ((rd_T52 l0 x5_1).f1) ((rd_T52 l1 x5_1).f0) ((rd_T52 l1 x5_1).f1) true _ A7.out).mono ?_); rintro e w10 ⟨rfl, hb⟩; refine ⟨_, rfl, ?_⟩; replace HB := qHB HB hb; (try clear hb); (try clear hb2); (try clear hk); (try clear hi); refine hK.out _ _ ⟨((HB.out.cell (World.block_lt_of_cell? w _ hw242_0)).trans hw242_0), ((HB.out.cell (World.block_lt_of_cell? w _ hw242_1)).trans hw242_1), ((HB.out.cell (World.block_lt_of_cell? w _ hw243_0)).trans hw243_0), ((HB.out.cell (World.block_lt_of_cell? w _ hw243_1)).trans hw243_1)⟩ (fun hHeld => ?_); clear hK K; refine norm_ (a' := ?_) ?_ ?_; rotate_left
                · show Act.put _ (some 25) _ = _; simp only [Act.put, List.setIfInBounds_toArray, List.set_cons_zero, List.set_cons_succ, i64_w, i32_w]; rfl
                refine pure_ (i := 9) (N := some 26) (v := ?_) (a' := ?_) #[true, true, true, true, true, true, true, true, true, true] rfl rfl (any_of HT_.out (by kernel_rfl)) (fun _ _ _ h => h) (Or.inl ⟨by rfl, ?_⟩) ?_ ?_; rotate_left
                · intro w'; go_simp; (with_reducible rfl)
                rotate_left
                · simp only [Act.put, List.setIfInBounds_toArray, List.set_cons_zero, List.set_cons_succ, i64_w, i32_w]; rfl
                refine done_ (done_of HT_.out (by kernel_rfl)) ?_; (try go_wp2); go_roundg k1
                case measure => have := HK1.out; omega
                case rel => exact ⟨(wrap64 (x5_1 + 1)), qS, H', ⟨by have := HK1.out; omega⟩, ⟨qB⟩⟩
              · replace c8 := Bool.eq_false_iff.mpr c8; subst c8; rw [if_neg qff] at H; obtain rfl := Option.some.inj H; (try go_wp2); replace HB := qK (bd1 HB.out); have p242 : 0 ≤ (x5_1 : Int) := of_decide_eq_true qa; have q242 : x5_1 < (l0.length : Int) := of_decide_eq_true qa; obtain ⟨ad242, e242, hx242_0, hx242_1⟩ := at_T52 HR0.out x5_1 p242 q242; have hw242_1 := hx242_1; have hw242_0 := hx242_0; cases e242; replace hx242_0 := (HB.out.cell (World.block_lt_of_cell? w _ hx242_0)).trans hx242_0; replace hx242_1 := (HB.out.cell (World.block_lt_of_cell? w _ hx242_1)).trans hx242_1; replace p242 := eq_true p242; replace q242 := eq_true q242; have p243 : 0 ≤ (x5_1 : Int) := of_decide_eq_true qa; have q243 : x5_1 < (l1.length : Int) := of_decide_eq_true qa; obtain ⟨ad243, e243, hx243_0, hx243_1⟩ := at_T52 HR1.out x5_1 p243 q243; have hw243_1 := hx243_1; have hw243_0 := hx243_0; cases e243; replace hx243_0 := (HB.out.cell (World.block_lt_of_cell? w _ hx243_0)).trans hx243_0; replace hx243_1 := (HB.out.cell (World.block_lt_of_cell? w _ hx243_1)).trans hx243_1; replace p243 := eq_true p243; replace q243 := eq_true q243; refine start_ (n := 10) (S := fun w' => w'.cell? (ad242.add ((x5_1).toNat * 2)) = some (.string ((rd_T52 l0 x5_1).f0)) ∧ w'.cell? ⟨(ad242.add ((x5_1).toNat * 2)).block, (ad242.add ((x5_1).toNat * 2)).off + 1, none⟩ = some (.int .i64 ((rd_T52 l0 x5_1).f1)) ∧ w'.cell? (ad243.add ((x5_1).toNat * 2)) = some (.string ((rd_T52 l1 x5_1).f0)) ∧ w'.cell? ⟨(ad243.add ((x5_1).toNat * 2)).block, (ad243.add ((x5_1).toNat * 2)).off + 1, none⟩ = some (.int .i64 ((rd_T52 l1 x5_1).f1))) (ds := []) #[false, false, false, false, false, false, false, false, false, false] (by kernel_rfl) rfl rfl ⟨((HB.out.cell (World.block_lt_of_cell? w _ hw242_0)).trans hw242_0), ((HB.out.cell (World.block_lt_of_cell? w _ hw242_1)).trans hw242_1), ((HB.out.cell (World.block_lt_of_cell? w _ hw243_0)).trans hw243_0), ((HB.out.cell (World.block_lt_of_cell? w _ hw243_1)).trans hw243_1)⟩ (fun hHeld => ?_); refine with_tabW laws_eqColumnS.tab6 laws_eqColumnS.bits6 (fun HT_ HW_ => ?_); generalize wr.drew = w11 at HB hx242_0 hx242_1 hx243_0 hx243_1 hHeld ⊢; refine pure_ (i := 0) (N := some 17) (v := ?_) (a' := ?_) #[true, false, false, false, false, false, false, false, false, false] rfl rfl (any_of HT_.out (by kernel_rfl)) (fun _ _ _ h => h) (Or.inl ⟨by rfl, ?_⟩) ?_ ?_; rotate_left
                · intro w'; go_simp; (with_reducible rfl)
                rotate_left
                · simp only [Act.put, List.setIfInBounds_toArray, List.set_cons_zero, List.set_cons_succ, i64_w, i32_w]; rfl
                refine pure_ (i := 1) (N := some 18) (v := ?_) (a' := ?_) #[true, true, false, false, false, false, false, false, false, false] rfl rfl (any_of HT_.out (by kernel_rfl)) (fun _ _ _ h => h) (Or.inl ⟨by rfl, ?_⟩) ?_ ?_; rotate_left
                · intro w'; go_simp; (with_reducible rfl)
                rotate_left
                · simp only [Act.put, List.setIfInBounds_toArray, List.set_cons_zero, List.set_cons_succ, i64_w, i32_w]; rfl
                refine pure_ (i := 2) (N := some 19) (v := ?_) (a' := ?_) #[true, true, true, false, false, false, false, false, false, false] rfl rfl (any_of HT_.out (by kernel_rfl)) (fun _ _ _ h => h) (Or.inl ⟨by rfl, ?_⟩) ?_ ?_; rotate_left
                · intro w'; go_simp; (with_reducible rfl)
                rotate_left
                · simp only [Act.put, List.setIfInBounds_toArray, List.set_cons_zero, List.set_cons_succ, i64_w, i32_w]; rfl
                refine pure_ (i := 4) (N := some 21) (v := ?_) (a' := ?_) #[true, true, true, false, true, false, false, false, false, false] rfl rfl (any_of HT_.out (by kernel_rfl)) (fun _ _ _ h => h) (Or.inl ⟨by rfl, ?_⟩) ?_ ?_; rotate_left
                · intro w'; go_simp; (with_reducible rfl)
                rotate_left
                · simp only [Act.put, List.setIfInBounds_toArray, List.set_cons_zero, List.set_cons_succ, i64_w, i32_w]; rfl
                refine pure_ (i := 5) (N := some 22) (v := ?_) (a' := ?_) #[true, true, true, false, true, true, false, false, false, false] rfl rfl (any_of HT_.out (by kernel_rfl)) (fun _ _ _ h => h) (Or.inl ⟨by rfl, ?_⟩) ?_ ?_; rotate_left
                · intro w'; go_simp; (with_reducible rfl)
                rotate_left
                · simp only [Act.put, List.setIfInBounds_toArray, List.set_cons_zero, List.set_cons_succ, i64_w, i32_w]; rfl
                refine pure_ (i := 6) (N := some 23) (v := ?_) (a' := ?_) #[true, true, true, false, true, true, true, false, false, false] rfl rfl (any_of HT_.out (by kernel_rfl)) (fun _ _ _ h => h) (Or.inl ⟨by rfl, ?_⟩) ?_ ?_; rotate_left
                · intro w'; go_simp; (with_reducible rfl)
                rotate_left
                · simp only [Act.put, List.setIfInBounds_toArray, List.set_cons_zero, List.set_cons_succ, i64_w, i32_w]; rfl
                refine take_ (i := 3) (N := some 20) (v := ?_) (a' := ?_) #[true, true, true, true, true, true, true, false, false, false] rfl rfl (take_ofW HT_.out HW_.out (by kernel_rfl)) (fun _ _ _ h => h) (Or.inl ⟨by rfl, ?_⟩) hHeld ?_ ?_; rotate_left
                · rintro w' ⟨s0, s1, s2, s3⟩; go_simp; (with_reducible rfl)
                rotate_left
                · simp only [Act.put, List.setIfInBounds_toArray, List.set_cons_zero, List.set_cons_succ, i64_w, i32_w]; rfl
                refine take_ (i := 7) (N := some 24) (v := ?_) (a' := ?_) #[true, true, true, true, true, true, true, true, false, false] rfl rfl (take_ofW HT_.out HW_.out (by kernel_rfl)) (fun _ _ _ h => h) (Or.inl ⟨by rfl, ?_⟩) hHeld ?_ ?_; rotate_left
                · rintro w' ⟨s0, s1, s2, s3⟩; go_simp; (with_reducible rfl)
                rotate_left
                · simp only [Act.put, List.setIfInBounds_toArray, List.set_cons_zero, List.set_cons_succ, i64_w, i32_w]; rfl
                refine one_ (i := 8) (N := some 25) #[true, true, true, true, true, true, true, true, true, false] rfl rfl (one_of HT_.out (by kernel_rfl)) (by decide) (fun K hK => ?_); refine goes_ Tryd.func50 (by kernel_rfl) rfl #[.agg #[.string ((rd_T52 l0 x5_1).f0), .int .i64 ((rd_T52 l0 x5_1).f1)], .agg #[.string ((rd_T52 l1 x5_1).f0), .int .i64 ((rd_T52 l1 x5_1).f1)]] (by rfl) rfl rfl qA ?_; (with_reducible refine (laws_eqColumn.calls ((rd_T52 l0 x5_1).f0) ((rd_T52 l0 x5_1).f1) ((rd_T52 l1 x5_1).f0) ((rd_T52 l1 x5_1).f1) false _ A7.out).mono ?_); rintro e w12 ⟨rfl, hb⟩; refine ⟨_, rfl, ?_⟩; replace HB := qHB HB hb; (try clear hb); (try clear hb2); (try clear hk); (try clear hi); refine hK.out _ _ ⟨((HB.out.cell (World.block_lt_of_cell? w _ hw242_0)).trans hw242_0), ((HB.out.cell (World.block_lt_of_cell? w _ hw242_1)).trans hw242_1), ((HB.out.cell (World.block_lt_of_cell? w _ hw243_0)).trans hw243_0), ((HB.out.cell (World.block_lt_of_cell? w _ hw243_1)).trans hw243_1)⟩ (fun hHeld => ?_); clear hK K; refine norm_ (a' := ?_) ?_ ?_; rotate_left
                · show Act.put _ (some 25) _ = _; simp only [Act.put, List.setIfInBounds_toArray, List.set_cons_zero, List.set_cons_succ, i64_w, i32_w]; rfl
                refine pure_ (i := 9) (N := some 26) (v := ?_) (a' := ?_) #[true, true, true, true, true, true, true, true, true, true] rfl rfl (any_of HT_.out (by kernel_rfl)) (fun _ _ _ h => h) (Or.inl ⟨by rfl, ?_⟩) ?_ ?_; rotate_left
                · intro w'; go_simp; (with_reducible rfl)
                rotate_left
                · simp only [Act.put, List.setIfInBounds_toArray, List.set_cons_zero, List.set_cons_succ, i64_w, i32_w]; rfl
                refine done_ (done_of HT_.out (by kernel_rfl)) ?_; (try go_wp2); go_ret; exact ⟨qR, qB⟩
            · rw [if_neg c6] at H; exact absurd H (by simp)
          · rw [if_neg c5] at H; exact absurd H (by simp)
        · rw [if_neg c4] at H; have c4b0 : decide (x5_1 < (l0.length : Int)) = false := decide_eq_false c4; clear c4; obtain rfl := Option.some.inj H; go_wp2; go_ret; exact ⟨qR, qB⟩
  · rw [if_neg c3] at H; have c3b0 : ((l0.length : Int) == (l1.length : Int)) = false := beq_eq_false_iff_ne.mpr c3; have c3b1 : ((l0.length : Int) != (l1.length : Int)) = true := bne_iff_ne.mpr c3; (have c3b2 : (l0.length == l1.length) = false := by first | simpa using c3 | (simp at c3 ⊢; omega)); obtain rfl := Option.some.inj H; go_enter Tryd.func42, Tryd.ntmps42; go_wp2; go_ret; exact ⟨qR, qB⟩
def laws_eqValue.f (a0_0 : Int) (a0_1 : Int) (a0_2 : ByteArray) (a1_0 : Int) (a1_1 : Int) (a1_2 : ByteArray) : Option (Bool) := if a0_0 = a1_0 then (if a0_1 = a1_1 then (if a0_2.toList = a1_2.toList then (some true) else (some false)) else (some false)) else (some false)
set_option maxHeartbeats 8000000 in
set_option maxRecDepth 100000 in
theorem laws_eqValue.calls (a0_0 : Int) (a0_1 : Int) (a0_2 : ByteArray) (a1_0 : Int) (a1_1 : Int) (a1_2 : ByteArray) (r : Bool) (w : World) (h : laws_eqValue.f a0_0 a0_1 a0_2 a1_0 a1_1 a1_2 = some r) :
    Calls Tryd.prog 55 #[.agg #[.int .i64 a0_0, .int .i64 a0_1, .string a0_2], .agg #[.int .i64 a1_0, .int .i64 a1_1, .string a1_2]] w fun e w' => e = .returned (.bool r) ∧ Below w.heap.size w w' := by
  have hu57 := Tryd.underlying57; have HB := qK (Below.refl w.heap.size w); have H : (if a0_0 = a1_0 then (if a0_1 = a1_1 then (if a0_2.toList = a1_2.toList then (some true) else (some false)) else (some false)) else (some false)) = some r := h; clear h; by_cases c3 : a0_0 = a1_0
  · rw [if_pos c3] at H; have c3b0 : (a0_0 == a1_0) = true := beq_iff_eq.mpr c3; have c3b1 : (a0_0 != a1_0) = false := bne_eq_false_iff_eq.mpr c3; clear c3; by_cases c4 : a0_1 = a1_1
    · rw [if_pos c4] at H; have c4b0 : (a0_1 == a1_1) = true := beq_iff_eq.mpr c4; have c4b1 : (a0_1 != a1_1) = false := bne_eq_false_iff_eq.mpr c4; clear c4; by_cases c5 : a0_2.toList = a1_2.toList
      · rw [if_pos c5] at H; have c5b0 : (a0_2.toList == a1_2.toList) = true := beq_iff_eq.mpr c5; have c5b1 : (a0_2.toList != a1_2.toList) = false := bne_eq_false_iff_eq.mpr c5; clear c5; obtain rfl := Option.some.inj H; go_enter Tryd.func55, Tryd.ntmps55; go_wp2_with (first | ((with_reducible refine gds (N := 2) rfl ?_); refine qbx 2 #[.int .i64 a0_0, .int .i64 a0_1, .string a0_2] 57 ?_; intro gb245 hg w6 hbox hb; have BK245 := qK (hbox); have GW245 := qK ((qW : w.heap.size ≤ gb245)); have GE245 := GW245; replace HB := qHB HB hb; clear hb hbox hg) | ((with_reducible refine gds (N := 3) rfl ?_); refine qbx 3 #[.int .i64 a1_0, .int .i64 a1_1, .string a1_2] 57 ?_; intro gb246 hg w7 hbox hb; have BK246 := qK (hbox); have GW246 := qK ((qW : w.heap.size ≤ gb246)); have GE246 := GW246; replace HB := qHB HB hb; have NB245_246 := qK (qlt BK245 hg); have NB246_245 := qK (qgt BK245 hg); replace BK245 := qbb BK245 hb; clear hb hbox hg; have hnb8 := NB245_246.out; have hnc8 := NB246_245.out; have hz9 := qz3 BK245.out; have hz10 := qz3 BK246.out)); go_ret; exact ⟨qR, qB⟩
      · rw [if_neg c5] at H; have c5b0 : (a0_2.toList == a1_2.toList) = false := beq_eq_false_iff_ne.mpr c5; have c5b1 : (a0_2.toList != a1_2.toList) = true := bne_iff_ne.mpr c5; obtain rfl := Option.some.inj H; go_enter Tryd.func55, Tryd.ntmps55; go_wp2_with (first | ((with_reducible refine gds (N := 2) rfl ?_); refine qbx 2 #[.int .i64 a0_0, .int .i64 a0_1, .string a0_2] 57 ?_; intro gb245 hg w11 hbox hb; have BK245 := qK (hbox); have GW245 := qK ((qW : w.heap.size ≤ gb245)); have GE245 := GW245; replace HB := qHB HB hb; clear hb hbox hg) | ((with_reducible refine gds (N := 3) rfl ?_); refine qbx 3 #[.int .i64 a1_0, .int .i64 a1_1, .string a1_2] 57 ?_; intro gb246 hg w12 hbox hb; have BK246 := qK (hbox); have GW246 := qK ((qW : w.heap.size ≤ gb246)); have GE246 := GW246; replace HB := qHB HB hb; have NB245_246 := qK (qlt BK245 hg); have NB246_245 := qK (qgt BK245 hg); replace BK245 := qbb BK245 hb; clear hb hbox hg; have hnb13 := NB245_246.out; have hnc13 := NB246_245.out; have hz14 := qz3 BK245.out; have hz15 := qz3 BK246.out)); go_ret; exact ⟨qR, qB⟩
    · rw [if_neg c4] at H; have c4b0 : (a0_1 == a1_1) = false := beq_eq_false_iff_ne.mpr c4; have c4b1 : (a0_1 != a1_1) = true := bne_iff_ne.mpr c4; obtain rfl := Option.some.inj H; go_enter Tryd.func55, Tryd.ntmps55; go_wp2_with (first | ((with_reducible refine gds (N := 2) rfl ?_); refine qbx 2 #[.int .i64 a0_0, .int .i64 a0_1, .string a0_2] 57 ?_; intro gb245 hg w16 hbox hb; have BK245 := qK (hbox); have GW245 := qK ((qW : w.heap.size ≤ gb245)); have GE245 := GW245; replace HB := qHB HB hb; clear hb hbox hg) | ((with_reducible refine gds (N := 3) rfl ?_); refine qbx 3 #[.int .i64 a1_0, .int .i64 a1_1, .string a1_2] 57 ?_; intro gb246 hg w17 hbox hb; have BK246 := qK (hbox); have GW246 := qK ((qW : w.heap.size ≤ gb246)); have GE246 := GW246; replace HB := qHB HB hb; have NB245_246 := qK (qlt BK245 hg); have NB246_245 := qK (qgt BK245 hg); replace BK245 := qbb BK245 hb; clear hb hbox hg; have hnb18 := NB245_246.out; have hnc18 := NB246_245.out; have hz19 := qz3 BK245.out; have hz20 := qz3 BK246.out)); go_ret; exact ⟨qR, qB⟩
  · rw [if_neg c3] at H; have c3b0 : (a0_0 == a1_0) = false := beq_eq_false_iff_ne.mpr c3; have c3b1 : (a0_0 != a1_0) = true := bne_iff_ne.mpr c3; obtain rfl := Option.some.inj H; go_enter Tryd.func55, Tryd.ntmps55; go_wp2_with (first | ((with_reducible refine gds (N := 2) rfl ?_); refine qbx 2 #[.int .i64 a0_0, .int .i64 a0_1, .string a0_2] 57 ?_; intro gb245 hg w21 hbox hb; have BK245 := qK (hbox); have GW245 := qK ((qW : w.heap.size ≤ gb245)); have GE245 := GW245; replace HB := qHB HB hb; clear hb hbox hg) | ((with_reducible refine gds (N := 3) rfl ?_); refine qbx 3 #[.int .i64 a1_0, .int .i64 a1_1, .string a1_2] 57 ?_; intro gb246 hg w22 hbox hb; have BK246 := qK (hbox); have GW246 := qK ((qW : w.heap.size ≤ gb246)); have GE246 := GW246; replace HB := qHB HB hb; have NB245_246 := qK (qlt BK245 hg); have NB246_245 := qK (qgt BK245 hg); replace BK245 := qbb BK245 hb; clear hb hbox hg; have hnb23 := NB245_246.out; have hnc23 := NB246_245.out; have hz24 := qz3 BK245.out; have hz25 := qz3 BK246.out)); go_ret; exact ⟨qR, qB⟩
def laws_eqValueS.l0 : Nat → List (S57) → List (S57) → Int → Option (Bool)
  | 0, _, _, _ => none
  | k + 1, x0, x1, x5 => if x5 < (x0.length : Int) then (if 0 ≤ x5 then (if x5 < (x1.length : Int) then ((laws_eqValue.f ((rd_T57 x0 x5).f0) ((rd_T57 x0 x5).f1) ((rd_T57 x0 x5).f2) ((rd_T57 x1 x5).f0) ((rd_T57 x1 x5).f1) ((rd_T57 x1 x5).f2)).bind fun t249 => (if t249 = true then (laws_eqValueS.l0 k x0 x1 (wrap64 (x5 + 1))) else (some false))) else (none)) else (none)) else (some true)
def laws_eqValueS.f (k : Nat) (l0 : List (S57)) (l1 : List (S57)) : Option (Bool) := if (l0.length : Int) = (l1.length : Int) then (laws_eqValueS.l0 k l0 l1 0) else (some false)
theorem laws_eqValueS.mono_l : ∀ k, (∀ y0 y1 y2, LeO (laws_eqValueS.l0 k y0 y1 y2) (laws_eqValueS.l0 (k + 1) y0 y1 y2))
  | 0 => fun _ _ _ r h => by simp [laws_eqValueS.l0] at h
  | k + 1 => by
    have ih0 := laws_eqValueS.mono_l k
    · intro y0 y1 y2
      unfold laws_eqValueS.l0
      repeat' first
      | (with_reducible exact ih0 _ _ _)
      | (with_reducible exact LeO.refl _)
      | (with_reducible exact LeO.none _)
      | (with_reducible refine LeO.ite ?_ ?_)
      | (with_reducible refine LeO.bind ?_ (fun _ => ?_))
      | exact ih0 _ _ _
      | exact LeO.none _
      | refine LeO.ite ?_ ?_
      | refine LeO.bind ?_ (fun _ => ?_)
theorem laws_eqValueS.mono : ∀ a0 a1 k, LeO (laws_eqValueS.f k a0 a1) (laws_eqValueS.f (k + 1) a0 a1) := by
  intro a0 a1 k
  have ih0 := laws_eqValueS.mono_l k
  unfold laws_eqValueS.f
  repeat' first
      | (with_reducible exact ih0 _ _ _)
      | (with_reducible exact LeO.refl _)
      | (with_reducible exact LeO.none _)
      | (with_reducible refine LeO.ite ?_ ?_)
      | (with_reducible refine LeO.bind ?_ (fun _ => ?_))
      | exact ih0 _ _ _
      | exact LeO.none _
      | refine LeO.ite ?_ ?_
      | refine LeO.bind ?_ (fun _ => ?_)
def laws_eqValueS.T6 : Bool × List (List Nat × List Nat) := (true, [([], []), ([], []), ([0, 1], [0, 1]), ([2], [2]), ([], []), ([], []), ([4, 5], [4, 5]), ([6], [6]), ([3, 7], [3, 7]), ([8], [8])])
def laws_eqValueS.B6 : List Nat := [0, 0, 3, 7, 0, 0, 48, 112, 255, 511]
theorem laws_eqValueS.tab6 : rtab .any (opsOf Tryd.f51 6) = laws_eqValueS.T6 := by kernel_rfl
theorem laws_eqValueS.bits6 : waitsOk laws_eqValueS.T6.2 laws_eqValueS.B6 = true := by kernel_rfl
set_option maxHeartbeats 8000000 in
set_option maxRecDepth 100000 in
theorem laws_eqValueS.calls (k : Nat) (A0 : Option Addr) (c0 : Nat) (l0 : List (S57)) (A1 : Option Addr) (c1 : Nat) (l1 : List (S57)) (r : Bool) (w : World) (hr0 : Kd.C k57 w A0 l0.length l0) (hc0 : l0.length ≤ c0) (hr1 : Kd.C k57 w A1 l1.length l1) (hc1 : l1.length ≤ c1) (h : laws_eqValueS.f k l0 l1 = some r) :
    Calls Tryd.prog 51 #[.slice A0 l0.length c0, .slice A1 l1.length c1] w fun e w' => e = .returned (.bool r) ∧ Below w.heap.size w w' := by
  have hu57 := Tryd.underlying57; have HR0 := qK hr0; have HC0 := qK hc0; clear hr0 hc0; have HR1 := qK hr1; have HC1 := qK hc1; clear hr1 hc1; have HB := qK (Below.refl w.heap.size w); have H : (if (l0.length : Int) = (l1.length : Int) then (laws_eqValueS.l0 k l0 l1 0) else (some false)) = some r := h; clear h; by_cases c3 : (l0.length : Int) = (l1.length : Int)
  · rw [if_pos c3] at H; have c3b0 : ((l0.length : Int) == (l1.length : Int)) = true := beq_iff_eq.mpr c3; have c3b1 : ((l0.length : Int) != (l1.length : Int)) = false := bne_eq_false_iff_eq.mpr c3; (have c3b2 : (l0.length == l1.length) = true := by first | simpa using c3 | (simp at c3 ⊢; omega)); clear c3; have H' := qK H; clear H; go_enter Tryd.func51, Tryd.ntmps51; go_wp2; go_loopg [5] k (fun kq v5 w' => ∃ (x5_1 : Int), v5 = .int .i64 x5_1 ∧ Aside0 (laws_eqValueS.l0 kq l0 l1 x5_1 = some r) ∧ Aside0 (kq ≤ k) ∧ Aside0 (Below w.heap.size w w'))
    case atStart => exact ⟨(0), qS, H', ⟨Nat.le_refl _⟩, ⟨qB⟩⟩
    case round =>
      clear H'; (try clear c1); (try clear p2); (try clear c3); (try clear c3b0); (try clear c3b1); (try clear c3b2); obtain ⟨x5_1, rfl, HA, HK1, HB⟩ := hrel
      cases gk with
      | zero => exact absurd HA.out (by simp [laws_eqValueS.l0])
      | succ k1 =>
        have H := HA.out; clear HA; simp only [laws_eqValueS.l0] at H; by_cases c4 : x5_1 < (l0.length : Int)
        · rw [if_pos c4] at H; have c4b0 : decide (x5_1 < (l0.length : Int)) = true := decide_eq_true c4; clear c4; by_cases c5 : 0 ≤ x5_1
          · rw [if_pos c5] at H; have c5b0 : decide (0 ≤ x5_1) = true := decide_eq_true c5; clear c5; by_cases c6 : x5_1 < (l1.length : Int)
            · rw [if_pos c6] at H; have c6b0 : decide (x5_1 < (l1.length : Int)) = true := decide_eq_true c6; clear c6; replace H := Option.bind_eq_some_iff.mp H; obtain ⟨t249, A70, H⟩ := H; have A7 := qK A70; clear A70; by_cases c8 : t249 = true
              · subst c8; rw [if_pos rfl] at H; have H' := qK H; clear H; (try go_wp2); replace HB := qK (bd1 HB.out); have p247 : 0 ≤ (x5_1 : Int) := of_decide_eq_true qa; have q247 : x5_1 < (l0.length : Int) := of_decide_eq_true qa; obtain ⟨ad247, e247, hx247_0, hx247_1, hx247_2⟩ := at_T57 HR0.out x5_1 p247 q247; have hw247_2 := hx247_2; have hw247_1 := hx247_1; have hw247_0 := hx247_0; cases e247; replace hx247_0 := (HB.out.cell (World.block_lt_of_cell? w _ hx247_0)).trans hx247_0; replace hx247_1 := (HB.out.cell (World.block_lt_of_cell? w _ hx247_1)).trans hx247_1; replace hx247_2 := (HB.out.cell (World.block_lt_of_cell? w _ hx247_2)).trans hx247_2; replace p247 := eq_true p247; replace q247 := eq_true q247; have p248 : 0 ≤ (x5_1 : Int) := of_decide_eq_true qa; have q248 : x5_1 < (l1.length : Int) := of_decide_eq_true qa; obtain ⟨ad248, e248, hx248_0, hx248_1, hx248_2⟩ := at_T57 HR1.out x5_1 p248 q248; have hw248_2 := hx248_2; have hw248_1 := hx248_1; have hw248_0 := hx248_0; cases e248; replace hx248_0 := (HB.out.cell (World.block_lt_of_cell? w _ hx248_0)).trans hx248_0; replace hx248_1 := (HB.out.cell (World.block_lt_of_cell? w _ hx248_1)).trans hx248_1; replace hx248_2 := (HB.out.cell (World.block_lt_of_cell? w _ hx248_2)).trans hx248_2; replace p248 := eq_true p248; replace q248 := eq_true q248; refine start_ (n := 10) (S := fun w' => w'.cell? (ad247.add ((x5_1).toNat * 3)) = some (.int .i64 ((rd_T57 l0 x5_1).f0)) ∧ w'.cell? ⟨(ad247.add ((x5_1).toNat * 3)).block, (ad247.add ((x5_1).toNat * 3)).off + 1, none⟩ = some (.int .i64 ((rd_T57 l0 x5_1).f1)) ∧ w'.cell? ⟨(ad247.add ((x5_1).toNat * 3)).block, (ad247.add ((x5_1).toNat * 3)).off + 2, none⟩ = some (.string ((rd_T57 l0 x5_1).f2)) ∧ w'.cell? (ad248.add ((x5_1).toNat * 3)) = some (.int .i64 ((rd_T57 l1 x5_1).f0)) ∧ w'.cell? ⟨(ad248.add ((x5_1).toNat * 3)).block, (ad248.add ((x5_1).toNat * 3)).off + 1, none⟩ = some (.int .i64 ((rd_T57 l1 x5_1).f1)) ∧ w'.cell? ⟨(ad248.add ((x5_1).toNat * 3)).block, (ad248.add ((x5_1).toNat * 3)).off + 2, none⟩ = some (.string ((rd_T57 l1 x5_1).f2))) (ds := []) #[false, false, false, false, false, false, false, false, false, false] (by kernel_rfl) rfl rfl ⟨((HB.out.cell (World.block_lt_of_cell? w _ hw247_0)).trans hw247_0), ((HB.out.cell (World.block_lt_of_cell? w _ hw247_1)).trans hw247_1), ((HB.out.cell (World.block_lt_of_cell? w _ hw247_2)).trans hw247_2), ((HB.out.cell (World.block_lt_of_cell? w _ hw248_0)).trans hw248_0), ((HB.out.cell (World.block_lt_of_cell? w _ hw248_1)).trans hw248_1), ((HB.out.cell (World.block_lt_of_cell? w _ hw248_2)).trans hw248_2)⟩ (fun hHeld => ?_); refine with_tabW laws_eqValueS.tab6 laws_eqValueS.bits6 (fun HT_ HW_ => ?_); generalize wr.drew = w9 at HB hx247_0 hx247_1 hx247_2 hx248_0 hx248_1 hx248_2 hHeld ⊢; refine pure_ (i := 0) (N := some 17) (v := ?_) (a' := ?_) #[true, false, false, false, false, false, false, false, false, false] rfl rfl (any_of HT_.out (by kernel_rfl)) (fun _ _ _ h => h) (Or.inl ⟨by rfl, ?_⟩) ?_ ?_; rotate_left
                · intro w'; go_simp; (with_reducible rfl)
                rotate_left
                · simp only [Act.put, List.setIfInBounds_toArray, List.set_cons_zero, List.set_cons_succ, i64_w, i32_w]; rfl
                refine pure_ (i := 1) (N := some 18) (v := ?_) (a' := ?_) #[true, true, false, false, false, false, false, false, false, false] rfl rfl (any_of HT_.out (by kernel_rfl)) (fun _ _ _ h => h) (Or.inl ⟨by rfl, ?_⟩) ?_ ?_; rotate_left
                · intro w'; go_simp; (with_reducible rfl)
                rotate_left
                · simp only [Act.put, List.setIfInBounds_toArray, List.set_cons_zero, List.set_cons_succ, i64_w, i32_w]; rfl
                refine pure_ (i := 2) (N := some 19) (v := ?_) (a' := ?_) #[true, true, true, false, false, false, false, false, false, false] rfl rfl (any_of HT_.out (by kernel_rfl)) (fun _ _ _ h => h) (Or.inl ⟨by rfl, ?_⟩) ?_ ?_; rotate_left
                · intro w'; go_simp; (with_reducible rfl)
                rotate_left
                · simp only [Act.put, List.setIfInBounds_toArray, List.set_cons_zero, List.set_cons_succ, i64_w, i32_w]; rfl
                refine pure_ (i := 4) (N := some 21) (v := ?_) (a' := ?_) #[true, true, true, false, true, false, false, false, false, false] rfl rfl (any_of HT_.out (by kernel_rfl)) (fun _ _ _ h => h) (Or.inl ⟨by rfl, ?_⟩) ?_ ?_; rotate_left
                · intro w'; go_simp; (with_reducible rfl)
                rotate_left
                · simp only [Act.put, List.setIfInBounds_toArray, List.set_cons_zero, List.set_cons_succ, i64_w, i32_w]; rfl
                refine pure_ (i := 5) (N := some 22) (v := ?_) (a' := ?_) #[true, true, true, false, true, true, false, false, false, false] rfl rfl (any_of HT_.out (by kernel_rfl)) (fun _ _ _ h => h) (Or.inl ⟨by rfl, ?_⟩) ?_ ?_; rotate_left
                · intro w'; go_simp; (with_reducible rfl)
                rotate_left
                · simp only [Act.put, List.setIfInBounds_toArray, List.set_cons_zero, List.set_cons_succ, i64_w, i32_w]; rfl
                refine pure_ (i := 6) (N := some 23) (v := ?_) (a' := ?_) #[true, true, true, false, true, true, true, false, false, false] rfl rfl (any_of HT_.out (by kernel_rfl)) (fun _ _ _ h => h) (Or.inl ⟨by rfl, ?_⟩) ?_ ?_; rotate_left
                · intro w'; go_simp; (with_reducible rfl)
                rotate_left
                · simp only [Act.put, List.setIfInBounds_toArray, List.set_cons_zero, List.set_cons_succ, i64_w, i32_w]; rfl
                refine take_ (i := 3) (N := some 20) (v := ?_) (a' := ?_) #[true, true, true, true, true, true, true, false, false, false] rfl rfl (take_ofW HT_.out HW_.out (by kernel_rfl)) (fun _ _ _ h => h) (Or.inl ⟨by rfl, ?_⟩) hHeld ?_ ?_; rotate_left
                · rintro w' ⟨s0, s1, s2, s3, s4, s5⟩; go_simp; (with_reducible rfl)
                rotate_left
                · simp only [Act.put, List.setIfInBounds_toArray, List.set_cons_zero, List.set_cons_succ, i64_w, i32_w]; rfl
                refine take_ (i := 7) (N := some 24) (v := ?_) (a' := ?_) #[true, true, true, true, true, true, true, true, false, false] rfl rfl (take_ofW HT_.out HW_.out (by kernel_rfl)) (fun _ _ _ h => h) (Or.inl ⟨by rfl, ?_⟩) hHeld ?_ ?_; rotate_left
                · rintro w' ⟨s0, s1, s2, s3, s4, s5⟩; go_simp; (with_reducible rfl)
                rotate_left
                · simp only [Act.put, List.setIfInBounds_toArray, List.set_cons_zero, List.set_cons_succ, i64_w, i32_w]; rfl
                refine one_ (i := 8) (N := some 25) #[true, true, true, true, true, true, true, true, true, false] rfl rfl (one_of HT_.out (by kernel_rfl)) (by decide) (fun K hK => ?_); refine goes_ Tryd.func55 (by kernel_rfl) rfl #[.agg #[.int .i64 ((rd_T57 l0 x5_1).f0), .int .i64 ((rd_T57 l0 x5_1).f1), .string ((rd_T57 l0 x5_1).f2)], .agg #[.int .i64 ((rd_T57 l1 x5_1).f0), .int .i64 ((rd_T57 l1 x5_1).f1), .string ((rd_T57 l1 x5_1).f2)]] (by rfl) rfl rfl qA ?_; (with_reducible refine (laws_eqValue.calls ((rd_T57 l0 x5_1).f0) ((rd_T57 l0 x5_1).f1) ((rd_T57 l0 x5_1).f2) ((rd_T57 l1 x5_1).f0) ((rd_T57 l1 x5_1).f1) ((rd_T57 l1 x5_1).f2) true _ A7.out).mono ?_); rintro e w10 ⟨rfl, hb⟩; refine ⟨_, rfl, ?_⟩; replace HB := qHB HB hb; (try clear hb); (try clear hb2); (try clear hk); (try clear hi); refine hK.out _ _ ⟨((HB.out.cell (World.block_lt_of_cell? w _ hw247_0)).trans hw247_0), ((HB.out.cell (World.block_lt_of_cell? w _ hw247_1)).trans hw247_1), ((HB.out.cell (World.block_lt_of_cell? w _ hw247_2)).trans hw247_2), ((HB.out.cell (World.block_lt_of_cell? w _ hw248_0)).trans hw248_0), ((HB.out.cell (World.block_lt_of_cell? w _ hw248_1)).trans hw248_1), ((HB.out.cell (World.block_lt_of_cell? w _ hw248_2)).trans hw248_2)⟩ (fun hHeld => ?_); clear hK K; refine norm_ (a' := ?_) ?_ ?_; rotate_left
                · show Act.put _ (some 25) _ = _; simp only [Act.put, List.setIfInBounds_toArray, List.set_cons_zero, List.set_cons_succ, i64_w, i32_w]; rfl
                refine pure_ (i := 9) (N := some 26) (v := ?_) (a' := ?_) #[true, true, true, true, true, true, true, true, true, true] rfl rfl (any_of HT_.out (by kernel_rfl)) (fun _ _ _ h => h) (Or.inl ⟨by rfl, ?_⟩) ?_ ?_; rotate_left
                · intro w'; go_simp; (with_reducible rfl)
                rotate_left
                · simp only [Act.put, List.setIfInBounds_toArray, List.set_cons_zero, List.set_cons_succ, i64_w, i32_w]; rfl
                refine done_ (done_of HT_.out (by kernel_rfl)) ?_; (try go_wp2); go_roundg k1
                case measure => have := HK1.out; omega
                case rel => exact ⟨(wrap64 (x5_1 + 1)), qS, H', ⟨by have := HK1.out; omega⟩, ⟨qB⟩⟩
              · replace c8 := Bool.eq_false_iff.mpr c8; subst c8; rw [if_neg qff] at H; obtain rfl := Option.some.inj H; (try go_wp2); replace HB := qK (bd1 HB.out); have p247 : 0 ≤ (x5_1 : Int) := of_decide_eq_true qa; have q247 : x5_1 < (l0.length : Int) := of_decide_eq_true qa; obtain ⟨ad247, e247, hx247_0, hx247_1, hx247_2⟩ := at_T57 HR0.out x5_1 p247 q247; have hw247_2 := hx247_2; have hw247_1 := hx247_1; have hw247_0 := hx247_0; cases e247; replace hx247_0 := (HB.out.cell (World.block_lt_of_cell? w _ hx247_0)).trans hx247_0; replace hx247_1 := (HB.out.cell (World.block_lt_of_cell? w _ hx247_1)).trans hx247_1; replace hx247_2 := (HB.out.cell (World.block_lt_of_cell? w _ hx247_2)).trans hx247_2; replace p247 := eq_true p247; replace q247 := eq_true q247; have p248 : 0 ≤ (x5_1 : Int) := of_decide_eq_true qa; have q248 : x5_1 < (l1.length : Int) := of_decide_eq_true qa; obtain ⟨ad248, e248, hx248_0, hx248_1, hx248_2⟩ := at_T57 HR1.out x5_1 p248 q248; have hw248_2 := hx248_2; have hw248_1 := hx248_1; have hw248_0 := hx248_0; cases e248; replace hx248_0 := (HB.out.cell (World.block_lt_of_cell? w _ hx248_0)).trans hx248_0; replace hx248_1 := (HB.out.cell (World.block_lt_of_cell? w _ hx248_1)).trans hx248_1; replace hx248_2 := (HB.out.cell (World.block_lt_of_cell? w _ hx248_2)).trans hx248_2; replace p248 := eq_true p248; replace q248 := eq_true q248; refine start_ (n := 10) (S := fun w' => w'.cell? (ad247.add ((x5_1).toNat * 3)) = some (.int .i64 ((rd_T57 l0 x5_1).f0)) ∧ w'.cell? ⟨(ad247.add ((x5_1).toNat * 3)).block, (ad247.add ((x5_1).toNat * 3)).off + 1, none⟩ = some (.int .i64 ((rd_T57 l0 x5_1).f1)) ∧ w'.cell? ⟨(ad247.add ((x5_1).toNat * 3)).block, (ad247.add ((x5_1).toNat * 3)).off + 2, none⟩ = some (.string ((rd_T57 l0 x5_1).f2)) ∧ w'.cell? (ad248.add ((x5_1).toNat * 3)) = some (.int .i64 ((rd_T57 l1 x5_1).f0)) ∧ w'.cell? ⟨(ad248.add ((x5_1).toNat * 3)).block, (ad248.add ((x5_1).toNat * 3)).off + 1, none⟩ = some (.int .i64 ((rd_T57 l1 x5_1).f1)) ∧ w'.cell? ⟨(ad248.add ((x5_1).toNat * 3)).block, (ad248.add ((x5_1).toNat * 3)).off + 2, none⟩ = some (.string ((rd_T57 l1 x5_1).f2))) (ds := []) #[false, false, false, false, false, false, false, false, false, false] (by kernel_rfl) rfl rfl ⟨((HB.out.cell (World.block_lt_of_cell? w _ hw247_0)).trans hw247_0), ((HB.out.cell (World.block_lt_of_cell? w _ hw247_1)).trans hw247_1), ((HB.out.cell (World.block_lt_of_cell? w _ hw247_2)).trans hw247_2), ((HB.out.cell (World.block_lt_of_cell? w _ hw248_0)).trans hw248_0), ((HB.out.cell (World.block_lt_of_cell? w _ hw248_1)).trans hw248_1), ((HB.out.cell (World.block_lt_of_cell? w _ hw248_2)).trans hw248_2)⟩ (fun hHeld => ?_); refine with_tabW laws_eqValueS.tab6 laws_eqValueS.bits6 (fun HT_ HW_ => ?_); generalize wr.drew = w11 at HB hx247_0 hx247_1 hx247_2 hx248_0 hx248_1 hx248_2 hHeld ⊢; refine pure_ (i := 0) (N := some 17) (v := ?_) (a' := ?_) #[true, false, false, false, false, false, false, false, false, false] rfl rfl (any_of HT_.out (by kernel_rfl)) (fun _ _ _ h => h) (Or.inl ⟨by rfl, ?_⟩) ?_ ?_; rotate_left
                · intro w'; go_simp; (with_reducible rfl)
                rotate_left
                · simp only [Act.put, List.setIfInBounds_toArray, List.set_cons_zero, List.set_cons_succ, i64_w, i32_w]; rfl
                refine pure_ (i := 1) (N := some 18) (v := ?_) (a' := ?_) #[true, true, false, false, false, false, false, false, false, false] rfl rfl (any_of HT_.out (by kernel_rfl)) (fun _ _ _ h => h) (Or.inl ⟨by rfl, ?_⟩) ?_ ?_; rotate_left
                · intro w'; go_simp; (with_reducible rfl)
                rotate_left
                · simp only [Act.put, List.setIfInBounds_toArray, List.set_cons_zero, List.set_cons_succ, i64_w, i32_w]; rfl
                refine pure_ (i := 2) (N := some 19) (v := ?_) (a' := ?_) #[true, true, true, false, false, false, false, false, false, false] rfl rfl (any_of HT_.out (by kernel_rfl)) (fun _ _ _ h => h) (Or.inl ⟨by rfl, ?_⟩) ?_ ?_; rotate_left
                · intro w'; go_simp; (with_reducible rfl)
                rotate_left
                · simp only [Act.put, List.setIfInBounds_toArray, List.set_cons_zero, List.set_cons_succ, i64_w, i32_w]; rfl
                refine pure_ (i := 4) (N := some 21) (v := ?_) (a' := ?_) #[true, true, true, false, true, false, false, false, false, false] rfl rfl (any_of HT_.out (by kernel_rfl)) (fun _ _ _ h => h) (Or.inl ⟨by rfl, ?_⟩) ?_ ?_; rotate_left
                · intro w'; go_simp; (with_reducible rfl)
                rotate_left
                · simp only [Act.put, List.setIfInBounds_toArray, List.set_cons_zero, List.set_cons_succ, i64_w, i32_w]; rfl
                refine pure_ (i := 5) (N := some 22) (v := ?_) (a' := ?_) #[true, true, true, false, true, true, false, false, false, false] rfl rfl (any_of HT_.out (by kernel_rfl)) (fun _ _ _ h => h) (Or.inl ⟨by rfl, ?_⟩) ?_ ?_; rotate_left
                · intro w'; go_simp; (with_reducible rfl)
                rotate_left
                · simp only [Act.put, List.setIfInBounds_toArray, List.set_cons_zero, List.set_cons_succ, i64_w, i32_w]; rfl
                refine pure_ (i := 6) (N := some 23) (v := ?_) (a' := ?_) #[true, true, true, false, true, true, true, false, false, false] rfl rfl (any_of HT_.out (by kernel_rfl)) (fun _ _ _ h => h) (Or.inl ⟨by rfl, ?_⟩) ?_ ?_; rotate_left
                · intro w'; go_simp; (with_reducible rfl)
                rotate_left
                · simp only [Act.put, List.setIfInBounds_toArray, List.set_cons_zero, List.set_cons_succ, i64_w, i32_w]; rfl
                refine take_ (i := 3) (N := some 20) (v := ?_) (a' := ?_) #[true, true, true, true, true, true, true, false, false, false] rfl rfl (take_ofW HT_.out HW_.out (by kernel_rfl)) (fun _ _ _ h => h) (Or.inl ⟨by rfl, ?_⟩) hHeld ?_ ?_; rotate_left
                · rintro w' ⟨s0, s1, s2, s3, s4, s5⟩; go_simp; (with_reducible rfl)
                rotate_left
                · simp only [Act.put, List.setIfInBounds_toArray, List.set_cons_zero, List.set_cons_succ, i64_w, i32_w]; rfl
                refine take_ (i := 7) (N := some 24) (v := ?_) (a' := ?_) #[true, true, true, true, true, true, true, true, false, false] rfl rfl (take_ofW HT_.out HW_.out (by kernel_rfl)) (fun _ _ _ h => h) (Or.inl ⟨by rfl, ?_⟩) hHeld ?_ ?_; rotate_left
                · rintro w' ⟨s0, s1, s2, s3, s4, s5⟩; go_simp; (with_reducible rfl)
                rotate_left
                · simp only [Act.put, List.setIfInBounds_toArray, List.set_cons_zero, List.set_cons_succ, i64_w, i32_w]; rfl
                refine one_ (i := 8) (N := some 25) #[true, true, true, true, true, true, true, true, true, false] rfl rfl (one_of HT_.out (by kernel_rfl)) (by decide) (fun K hK => ?_); refine goes_ Tryd.func55 (by kernel_rfl) rfl #[.agg #[.int .i64 ((rd_T57 l0 x5_1).f0), .int .i64 ((rd_T57 l0 x5_1).f1), .string ((rd_T57 l0 x5_1).f2)], .agg #[.int .i64 ((rd_T57 l1 x5_1).f0), .int .i64 ((rd_T57 l1 x5_1).f1), .string ((rd_T57 l1 x5_1).f2)]] (by rfl) rfl rfl qA ?_; (with_reducible refine (laws_eqValue.calls ((rd_T57 l0 x5_1).f0) ((rd_T57 l0 x5_1).f1) ((rd_T57 l0 x5_1).f2) ((rd_T57 l1 x5_1).f0) ((rd_T57 l1 x5_1).f1) ((rd_T57 l1 x5_1).f2) false _ A7.out).mono ?_); rintro e w12 ⟨rfl, hb⟩; refine ⟨_, rfl, ?_⟩; replace HB := qHB HB hb; (try clear hb); (try clear hb2); (try clear hk); (try clear hi); refine hK.out _ _ ⟨((HB.out.cell (World.block_lt_of_cell? w _ hw247_0)).trans hw247_0), ((HB.out.cell (World.block_lt_of_cell? w _ hw247_1)).trans hw247_1), ((HB.out.cell (World.block_lt_of_cell? w _ hw247_2)).trans hw247_2), ((HB.out.cell (World.block_lt_of_cell? w _ hw248_0)).trans hw248_0), ((HB.out.cell (World.block_lt_of_cell? w _ hw248_1)).trans hw248_1), ((HB.out.cell (World.block_lt_of_cell? w _ hw248_2)).trans hw248_2)⟩ (fun hHeld => ?_); clear hK K; refine norm_ (a' := ?_) ?_ ?_; rotate_left
                · show Act.put _ (some 25) _ = _; simp only [Act.put, List.setIfInBounds_toArray, List.set_cons_zero, List.set_cons_succ, i64_w, i32_w]; rfl
                refine pure_ (i := 9) (N := some 26) (v := ?_) (a' := ?_) #[true, true, true, true, true, true, true, true, true, true] rfl rfl (any_of HT_.out (by kernel_rfl)) (fun _ _ _ h => h) (Or.inl ⟨by rfl, ?_⟩) ?_ ?_; rotate_left
                · intro w'; go_simp; (with_reducible rfl)
                rotate_left
                · simp only [Act.put, List.setIfInBounds_toArray, List.set_cons_zero, List.set_cons_succ, i64_w, i32_w]; rfl
                refine done_ (done_of HT_.out (by kernel_rfl)) ?_; (try go_wp2); go_ret; exact ⟨qR, qB⟩
            · rw [if_neg c6] at H; exact absurd H (by simp)
          · rw [if_neg c5] at H; exact absurd H (by simp)
        · rw [if_neg c4] at H; have c4b0 : decide (x5_1 < (l0.length : Int)) = false := decide_eq_false c4; clear c4; obtain rfl := Option.some.inj H; go_wp2; go_ret; exact ⟨qR, qB⟩
  · rw [if_neg c3] at H; have c3b0 : ((l0.length : Int) == (l1.length : Int)) = false := beq_eq_false_iff_ne.mpr c3; have c3b1 : ((l0.length : Int) != (l1.length : Int)) = true := bne_iff_ne.mpr c3; (have c3b2 : (l0.length == l1.length) = false := by first | simpa using c3 | (simp at c3 ⊢; omega)); obtain rfl := Option.some.inj H; go_enter Tryd.func51, Tryd.ntmps51; go_wp2; go_ret; exact ⟨qR, qB⟩
end Go.Proofs.YtoebfjfhdodakaaDoor.L
end
section
namespace Go.Proofs.YtoebfjfhdodakaaDoor.L
open Go.RowKit Go.Proofs.YtoebfjfhdodakaaDoorW.PrintWords Go.Proofs.YtoebfjfhdodakaaDoorW.PrintLast Go.Proofs.YtoebfjfhdodakaaDoorW.PrintMore
attribute [local go_sem] max2_int min2_int max_two min_two max_three min_three max_four min_four
set_option linter.unusedVariables false
set_option linter.unusedSimpArgs false
def laws_eqValueSS.l0 : Nat → List (List (S57)) → List (List (S57)) → Int → Option (Bool)
  | 0, _, _, _ => none
  | k + 1, x0, x1, x5 => if x5 < (x0.length : Int) then (if 0 ≤ x5 then (if x5 < (x1.length : Int) then ((laws_eqValueS.f k (rd_L10 x0 x5) (rd_L10 x1 x5)).bind fun t252 => (if t252 = true then (laws_eqValueSS.l0 k x0 x1 (wrap64 (x5 + 1))) else (some false))) else (none)) else (none)) else (some true)
def laws_eqValueSS.f (k : Nat) (l0 : List (List (S57))) (l1 : List (List (S57))) : Option (Bool) := if (l0.length : Int) = (l1.length : Int) then (laws_eqValueSS.l0 k l0 l1 0) else (some false)
theorem laws_eqValueSS.mono_l : ∀ k, (∀ y0 y1 y2, LeO (laws_eqValueSS.l0 k y0 y1 y2) (laws_eqValueSS.l0 (k + 1) y0 y1 y2))
  | 0 => fun _ _ _ r h => by simp [laws_eqValueSS.l0] at h
  | k + 1 => by
    have ih0 := laws_eqValueSS.mono_l k
    · intro y0 y1 y2
      unfold laws_eqValueSS.l0
      repeat' first
      | (with_reducible exact ih0 _ _ _)
      | (with_reducible exact laws_eqValueS.mono _ _ _)
      | (with_reducible exact LeO.refl _)
      | (with_reducible exact LeO.none _)
      | (with_reducible refine LeO.ite ?_ ?_)
      | (with_reducible refine LeO.bind ?_ (fun _ => ?_))
      | exact ih0 _ _ _
      | exact laws_eqValueS.mono _ _ _
      | exact LeO.none _
      | refine LeO.ite ?_ ?_
      | refine LeO.bind ?_ (fun _ => ?_)
theorem laws_eqValueSS.mono : ∀ a0 a1 k, LeO (laws_eqValueSS.f k a0 a1) (laws_eqValueSS.f (k + 1) a0 a1) := by
  intro a0 a1 k
  have ih0 := laws_eqValueSS.mono_l k
  unfold laws_eqValueSS.f
  repeat' first
      | (with_reducible exact ih0 _ _ _)
      | (with_reducible exact laws_eqValueS.mono _ _ _)
      | (with_reducible exact LeO.refl _)
      | (with_reducible exact LeO.none _)
      | (with_reducible refine LeO.ite ?_ ?_)
      | (with_reducible refine LeO.bind ?_ (fun _ => ?_))
      | exact ih0 _ _ _
      | exact laws_eqValueS.mono _ _ _
      | exact LeO.none _
      | refine LeO.ite ?_ ?_
      | refine LeO.bind ?_ (fun _ => ?_)
def laws_eqValueSS.T6 : Bool × List (List Nat × List Nat) := (true, [([], []), ([], []), ([0, 1], [0, 1]), ([2], [2]), ([], []), ([], []), ([4, 5], [4, 5]), ([6], [6]), ([3, 7], [3, 7]), ([8], [8])])
def laws_eqValueSS.B6 : List Nat := [0, 0, 3, 7, 0, 0, 48, 112, 255, 511]
theorem laws_eqValueSS.tab6 : rtab .any (opsOf Tryd.f43 6) = laws_eqValueSS.T6 := by kernel_rfl
theorem laws_eqValueSS.bits6 : waitsOk laws_eqValueSS.T6.2 laws_eqValueSS.B6 = true := by kernel_rfl
set_option maxHeartbeats 8000000 in
set_option maxRecDepth 100000 in
theorem laws_eqValueSS.calls (k : Nat) (A0 : Option Addr) (c0 : Nat) (l0 : List (List (S57))) (A1 : Option Addr) (c1 : Nat) (l1 : List (List (S57))) (r : Bool) (w : World) (hr0 : Kd.C (Kd.slice 57 k57) w A0 l0.length l0) (hc0 : l0.length ≤ c0) (hr1 : Kd.C (Kd.slice 57 k57) w A1 l1.length l1) (hc1 : l1.length ≤ c1) (h : laws_eqValueSS.f k l0 l1 = some r) :
    Calls Tryd.prog 43 #[.slice A0 l0.length c0, .slice A1 l1.length c1] w fun e w' => e = .returned (.bool r) ∧ Below w.heap.size w w' := by
  have HR0 := qK hr0; have HC0 := qK hc0; clear hr0 hc0; have HR1 := qK hr1; have HC1 := qK hc1; clear hr1 hc1; have HB := qK (Below.refl w.heap.size w); have H : (if (l0.length : Int) = (l1.length : Int) then (laws_eqValueSS.l0 k l0 l1 0) else (some false)) = some r := h; clear h; by_cases c3 : (l0.length : Int) = (l1.length : Int)
  · rw [if_pos c3] at H; have c3b0 : ((l0.length : Int) == (l1.length : Int)) = true := beq_iff_eq.mpr c3; have c3b1 : ((l0.length : Int) != (l1.length : Int)) = false := bne_eq_false_iff_eq.mpr c3; (have c3b2 : (l0.length == l1.length) = true := by first | simpa using c3 | (simp at c3 ⊢; omega)); clear c3; have H' := qK H; clear H; go_enter Tryd.func43, Tryd.ntmps43; go_wp2; go_loopg [5] k (fun kq v5 w' => ∃ (x5_1 : Int), v5 = .int .i64 x5_1 ∧ Aside0 (laws_eqValueSS.l0 kq l0 l1 x5_1 = some r) ∧ Aside0 (kq ≤ k) ∧ Aside0 (Below w.heap.size w w'))
    case atStart => exact ⟨(0), qS, H', ⟨Nat.le_refl _⟩, ⟨qB⟩⟩
    case round =>
      clear H'; (try clear c1); (try clear p2); (try clear c3); (try clear c3b0); (try clear c3b1); (try clear c3b2); obtain ⟨x5_1, rfl, HA, HK1, HB⟩ := hrel
      cases gk with
      | zero => exact absurd HA.out (by simp [laws_eqValueSS.l0])
      | succ k1 =>
        have H := HA.out; clear HA; simp only [laws_eqValueSS.l0] at H; by_cases c4 : x5_1 < (l0.length : Int)
        · rw [if_pos c4] at H; have c4b0 : decide (x5_1 < (l0.length : Int)) = true := decide_eq_true c4; clear c4; by_cases c5 : 0 ≤ x5_1
          · rw [if_pos c5] at H; have c5b0 : decide (0 ≤ x5_1) = true := decide_eq_true c5; clear c5; by_cases c6 : x5_1 < (l1.length : Int)
            · rw [if_pos c6] at H; have c6b0 : decide (x5_1 < (l1.length : Int)) = true := decide_eq_true c6; clear c6; replace H := Option.bind_eq_some_iff.mp H; obtain ⟨t252, A70, H⟩ := H; have A7 := qK A70; clear A70; by_cases c8 : t252 = true
              · subst c8; rw [if_pos rfl] at H; have H' := qK H; clear H; (try go_wp2); replace HB := qK (bd1 HB.out); have p250 : 0 ≤ (x5_1 : Int) := of_decide_eq_true qa; have q250 : x5_1 < (l0.length : Int) := of_decide_eq_true qa; obtain ⟨ad250, A250_0, c250_0, e250, hx250_0, hl250_0, hi250_0⟩ := at_L10 HR0.out x5_1 p250 q250; have hw250_0 := hx250_0; cases e250; replace hx250_0 := (HB.out.cell (World.block_lt_of_cell? w _ hx250_0)).trans hx250_0; have HR250_0 := qK hi250_0; have HC250_0 := qK hl250_0; clear hi250_0 hl250_0; replace p250 := eq_true p250; replace q250 := eq_true q250; have p251 : 0 ≤ (x5_1 : Int) := of_decide_eq_true qa; have q251 : x5_1 < (l1.length : Int) := of_decide_eq_true qa; obtain ⟨ad251, A251_0, c251_0, e251, hx251_0, hl251_0, hi251_0⟩ := at_L10 HR1.out x5_1 p251 q251; have hw251_0 := hx251_0; cases e251; replace hx251_0 := (HB.out.cell (World.block_lt_of_cell? w _ hx251_0)).trans hx251_0; have HR251_0 := qK hi251_0; have HC251_0 := qK hl251_0; clear hi251_0 hl251_0; replace p251 := eq_true p251; replace q251 := eq_true q251; refine start_ (n := 10) (S := fun w' => w'.cell? (ad250.add (x5_1).toNat) = some (.slice A250_0 (rd_L10 l0 x5_1).length c250_0) ∧ w'.cell? (ad251.add (x5_1).toNat) = some (.slice A251_0 (rd_L10 l1 x5_1).length c251_0)) (ds := []) #[false, false, false, false, false, false, false, false, false, false] (by kernel_rfl) rfl rfl ⟨((HB.out.cell (World.block_lt_of_cell? w _ hw250_0)).trans hw250_0), ((HB.out.cell (World.block_lt_of_cell? w _ hw251_0)).trans hw251_0)⟩ (fun hHeld => ?_); refine with_tabW laws_eqValueSS.tab6 laws_eqValueSS.bits6 (fun HT_ HW_ => ?_); generalize wr.drew = w9 at HB HR250_0 HR251_0 hx250_0 hx251_0 hHeld ⊢; refine pure_ (i := 0) (N := some 17) (v := ?_) (a' := ?_) #[true, false, false, false, false, false, false, false, false, false] rfl rfl (any_of HT_.out (by kernel_rfl)) (fun _ _ _ h => h) (Or.inl ⟨by rfl, ?_⟩) ?_ ?_; rotate_left
                · intro w'; go_simp; (with_reducible rfl)
                rotate_left
                · simp only [Act.put, List.setIfInBounds_toArray, List.set_cons_zero, List.set_cons_succ, i64_w, i32_w]; rfl
                refine pure_ (i := 1) (N := some 18) (v := ?_) (a' := ?_) #[true, true, false, false, false, false, false, false, false, false] rfl rfl (any_of HT_.out (by kernel_rfl)) (fun _ _ _ h => h) (Or.inl ⟨by rfl, ?_⟩) ?_ ?_; rotate_left
                · intro w'; go_simp; (with_reducible rfl)
                rotate_left
                · simp only [Act.put, List.setIfInBounds_toArray, List.set_cons_zero, List.set_cons_succ, i64_w, i32_w]; rfl
                refine pure_ (i := 2) (N := some 19) (v := ?_) (a' := ?_) #[true, true, true, false, false, false, false, false, false, false] rfl rfl (any_of HT_.out (by kernel_rfl)) (fun _ _ _ h => h) (Or.inl ⟨by rfl, ?_⟩) ?_ ?_; rotate_left
                · intro w'; go_simp; (with_reducible rfl)
                rotate_left
                · simp only [Act.put, List.setIfInBounds_toArray, List.set_cons_zero, List.set_cons_succ, i64_w, i32_w]; rfl
                refine pure_ (i := 4) (N := some 21) (v := ?_) (a' := ?_) #[true, true, true, false, true, false, false, false, false, false] rfl rfl (any_of HT_.out (by kernel_rfl)) (fun _ _ _ h => h) (Or.inl ⟨by rfl, ?_⟩) ?_ ?_; rotate_left
                · intro w'; go_simp; (with_reducible rfl)
                rotate_left
                · simp only [Act.put, List.setIfInBounds_toArray, List.set_cons_zero, List.set_cons_succ, i64_w, i32_w]; rfl
                refine pure_ (i := 5) (N := some 22) (v := ?_) (a' := ?_) #[true, true, true, false, true, true, false, false, false, false] rfl rfl (any_of HT_.out (by kernel_rfl)) (fun _ _ _ h => h) (Or.inl ⟨by rfl, ?_⟩) ?_ ?_; rotate_left
                · intro w'; go_simp; (with_reducible rfl)
                rotate_left
                · simp only [Act.put, List.setIfInBounds_toArray, List.set_cons_zero, List.set_cons_succ, i64_w, i32_w]; rfl
                refine pure_ (i := 6) (N := some 23) (v := ?_) (a' := ?_) #[true, true, true, false, true, true, true, false, false, false] rfl rfl (any_of HT_.out (by kernel_rfl)) (fun _ _ _ h => h) (Or.inl ⟨by rfl, ?_⟩) ?_ ?_; rotate_left
                · intro w'; go_simp; (with_reducible rfl)
                rotate_left
                · simp only [Act.put, List.setIfInBounds_toArray, List.set_cons_zero, List.set_cons_succ, i64_w, i32_w]; rfl
                refine take_ (i := 3) (N := some 20) (v := ?_) (a' := ?_) #[true, true, true, true, true, true, true, false, false, false] rfl rfl (take_ofW HT_.out HW_.out (by kernel_rfl)) (fun _ _ _ h => h) (Or.inl ⟨by rfl, ?_⟩) hHeld ?_ ?_; rotate_left
                · rintro w' ⟨s0, s1⟩; go_simp; (with_reducible rfl)
                rotate_left
                · simp only [Act.put, List.setIfInBounds_toArray, List.set_cons_zero, List.set_cons_succ, i64_w, i32_w]; rfl
                refine take_ (i := 7) (N := some 24) (v := ?_) (a' := ?_) #[true, true, true, true, true, true, true, true, false, false] rfl rfl (take_ofW HT_.out HW_.out (by kernel_rfl)) (fun _ _ _ h => h) (Or.inl ⟨by rfl, ?_⟩) hHeld ?_ ?_; rotate_left
                · rintro w' ⟨s0, s1⟩; go_simp; (with_reducible rfl)
                rotate_left
                · simp only [Act.put, List.setIfInBounds_toArray, List.set_cons_zero, List.set_cons_succ, i64_w, i32_w]; rfl
                refine one_ (i := 8) (N := some 25) #[true, true, true, true, true, true, true, true, true, false] rfl rfl (one_of HT_.out (by kernel_rfl)) (by decide) (fun K hK => ?_); refine goes_ Tryd.func51 (by kernel_rfl) rfl #[.slice A250_0 (rd_L10 l0 x5_1).length c250_0, .slice A251_0 (rd_L10 l1 x5_1).length c251_0] (by rfl) rfl rfl qA ?_; (with_reducible refine (laws_eqValueS.calls k1 _ _ (rd_L10 l0 x5_1) _ _ (rd_L10 l1 x5_1) true _ ?side1 ?side2 ?side3 ?side4 A7.out).mono ?_); (case side1 => exact qC HR250_0); (case side2 => exact HC250_0.out); (case side3 => exact qC HR251_0); (case side4 => exact HC251_0.out); rintro e w10 ⟨rfl, hb⟩; refine ⟨_, rfl, ?_⟩; replace HB := qHB HB hb; (try clear hb); (try clear hb2); (try clear hk); (try clear hi); refine hK.out _ _ ⟨((HB.out.cell (World.block_lt_of_cell? w _ hw250_0)).trans hw250_0), ((HB.out.cell (World.block_lt_of_cell? w _ hw251_0)).trans hw251_0)⟩ (fun hHeld => ?_); clear hK K; refine norm_ (a' := ?_) ?_ ?_; rotate_left
                · show Act.put _ (some 25) _ = _; simp only [Act.put, List.setIfInBounds_toArray, List.set_cons_zero, List.set_cons_succ, i64_w, i32_w]; rfl
                refine pure_ (i := 9) (N := some 26) (v := ?_) (a' := ?_) #[true, true, true, true, true, true, true, true, true, true] rfl rfl (any_of HT_.out (by kernel_rfl)) (fun _ _ _ h => h) (Or.inl ⟨by rfl, ?_⟩) ?_ ?_; rotate_left
                · intro w'; go_simp; (with_reducible rfl)
                rotate_left
                · simp only [Act.put, List.setIfInBounds_toArray, List.set_cons_zero, List.set_cons_succ, i64_w, i32_w]; rfl
                refine done_ (done_of HT_.out (by kernel_rfl)) ?_; (try go_wp2); go_roundg k1
                case measure => have := HK1.out; omega
                case rel => exact ⟨(wrap64 (x5_1 + 1)), qS, H', ⟨by have := HK1.out; omega⟩, ⟨qB⟩⟩
              · replace c8 := Bool.eq_false_iff.mpr c8; subst c8; rw [if_neg qff] at H; obtain rfl := Option.some.inj H; (try go_wp2); replace HB := qK (bd1 HB.out); have p250 : 0 ≤ (x5_1 : Int) := of_decide_eq_true qa; have q250 : x5_1 < (l0.length : Int) := of_decide_eq_true qa; obtain ⟨ad250, A250_0, c250_0, e250, hx250_0, hl250_0, hi250_0⟩ := at_L10 HR0.out x5_1 p250 q250; have hw250_0 := hx250_0; cases e250; replace hx250_0 := (HB.out.cell (World.block_lt_of_cell? w _ hx250_0)).trans hx250_0; have HR250_0 := qK hi250_0; have HC250_0 := qK hl250_0; clear hi250_0 hl250_0; replace p250 := eq_true p250; replace q250 := eq_true q250; have p251 : 0 ≤ (x5_1 : Int) := of_decide_eq_true qa; have q251 : x5_1 < (l1.length : Int) := of_decide_eq_true qa; obtain ⟨ad251, A251_0, c251_0, e251, hx251_0, hl251_0, hi251_0⟩ := at_L10 HR1.out x5_1 p251 q251; have hw251_0 := hx251_0; cases e251; replace hx251_0 := (HB.out.cell (World.block_lt_of_cell? w _ hx251_0)).trans hx251_0; have HR251_0 := qK hi251_0; have HC251_0 := qK hl251_0; clear hi251_0 hl251_0; replace p251 := eq_true p251; replace q251 := eq_true q251; refine start_ (n := 10) (S := fun w' => w'.cell? (ad250.add (x5_1).toNat) = some (.slice A250_0 (rd_L10 l0 x5_1).length c250_0) ∧ w'.cell? (ad251.add (x5_1).toNat) = some (.slice A251_0 (rd_L10 l1 x5_1).length c251_0)) (ds := []) #[false, false, false, false, false, false, false, false, false, false] (by kernel_rfl) rfl rfl ⟨((HB.out.cell (World.block_lt_of_cell? w _ hw250_0)).trans hw250_0), ((HB.out.cell (World.block_lt_of_cell? w _ hw251_0)).trans hw251_0)⟩ (fun hHeld => ?_); refine with_tabW laws_eqValueSS.tab6 laws_eqValueSS.bits6 (fun HT_ HW_ => ?_); generalize wr.drew = w11 at HB HR250_0 HR251_0 hx250_0 hx251_0 hHeld ⊢; refine pure_ (i := 0) (N := some 17) (v := ?_) (a' := ?_) #[true, false, false, false, false, false, false, false, false, false] rfl rfl (any_of HT_.out (by kernel_rfl)) (fun _ _ _ h => h) (Or.inl ⟨by rfl, ?_⟩) ?_ ?_; rotate_left
                · intro w'; go_simp; (with_reducible rfl)
                rotate_left
                · simp only [Act.put, List.setIfInBounds_toArray, List.set_cons_zero, List.set_cons_succ, i64_w, i32_w]; rfl
                refine pure_ (i := 1) (N := some 18) (v := ?_) (a' := ?_) #[true, true, false, false, false, false, false, false, false, false] rfl rfl (any_of HT_.out (by kernel_rfl)) (fun _ _ _ h => h) (Or.inl ⟨by rfl, ?_⟩) ?_ ?_; rotate_left
                · intro w'; go_simp; (with_reducible rfl)
                rotate_left
                · simp only [Act.put, List.setIfInBounds_toArray, List.set_cons_zero, List.set_cons_succ, i64_w, i32_w]; rfl
                refine pure_ (i := 2) (N := some 19) (v := ?_) (a' := ?_) #[true, true, true, false, false, false, false, false, false, false] rfl rfl (any_of HT_.out (by kernel_rfl)) (fun _ _ _ h => h) (Or.inl ⟨by rfl, ?_⟩) ?_ ?_; rotate_left
                · intro w'; go_simp; (with_reducible rfl)
                rotate_left
                · simp only [Act.put, List.setIfInBounds_toArray, List.set_cons_zero, List.set_cons_succ, i64_w, i32_w]; rfl
                refine pure_ (i := 4) (N := some 21) (v := ?_) (a' := ?_) #[true, true, true, false, true, false, false, false, false, false] rfl rfl (any_of HT_.out (by kernel_rfl)) (fun _ _ _ h => h) (Or.inl ⟨by rfl, ?_⟩) ?_ ?_; rotate_left
                · intro w'; go_simp; (with_reducible rfl)
                rotate_left
                · simp only [Act.put, List.setIfInBounds_toArray, List.set_cons_zero, List.set_cons_succ, i64_w, i32_w]; rfl
                refine pure_ (i := 5) (N := some 22) (v := ?_) (a' := ?_) #[true, true, true, false, true, true, false, false, false, false] rfl rfl (any_of HT_.out (by kernel_rfl)) (fun _ _ _ h => h) (Or.inl ⟨by rfl, ?_⟩) ?_ ?_; rotate_left
                · intro w'; go_simp; (with_reducible rfl)
                rotate_left
                · simp only [Act.put, List.setIfInBounds_toArray, List.set_cons_zero, List.set_cons_succ, i64_w, i32_w]; rfl
                refine pure_ (i := 6) (N := some 23) (v := ?_) (a' := ?_) #[true, true, true, false, true, true, true, false, false, false] rfl rfl (any_of HT_.out (by kernel_rfl)) (fun _ _ _ h => h) (Or.inl ⟨by rfl, ?_⟩) ?_ ?_; rotate_left
                · intro w'; go_simp; (with_reducible rfl)
                rotate_left
                · simp only [Act.put, List.setIfInBounds_toArray, List.set_cons_zero, List.set_cons_succ, i64_w, i32_w]; rfl
                refine take_ (i := 3) (N := some 20) (v := ?_) (a' := ?_) #[true, true, true, true, true, true, true, false, false, false] rfl rfl (take_ofW HT_.out HW_.out (by kernel_rfl)) (fun _ _ _ h => h) (Or.inl ⟨by rfl, ?_⟩) hHeld ?_ ?_; rotate_left
                · rintro w' ⟨s0, s1⟩; go_simp; (with_reducible rfl)
                rotate_left
                · simp only [Act.put, List.setIfInBounds_toArray, List.set_cons_zero, List.set_cons_succ, i64_w, i32_w]; rfl
                refine take_ (i := 7) (N := some 24) (v := ?_) (a' := ?_) #[true, true, true, true, true, true, true, true, false, false] rfl rfl (take_ofW HT_.out HW_.out (by kernel_rfl)) (fun _ _ _ h => h) (Or.inl ⟨by rfl, ?_⟩) hHeld ?_ ?_; rotate_left
                · rintro w' ⟨s0, s1⟩; go_simp; (with_reducible rfl)
                rotate_left
                · simp only [Act.put, List.setIfInBounds_toArray, List.set_cons_zero, List.set_cons_succ, i64_w, i32_w]; rfl
                refine one_ (i := 8) (N := some 25) #[true, true, true, true, true, true, true, true, true, false] rfl rfl (one_of HT_.out (by kernel_rfl)) (by decide) (fun K hK => ?_); refine goes_ Tryd.func51 (by kernel_rfl) rfl #[.slice A250_0 (rd_L10 l0 x5_1).length c250_0, .slice A251_0 (rd_L10 l1 x5_1).length c251_0] (by rfl) rfl rfl qA ?_; (with_reducible refine (laws_eqValueS.calls k1 _ _ (rd_L10 l0 x5_1) _ _ (rd_L10 l1 x5_1) false _ ?side1 ?side2 ?side3 ?side4 A7.out).mono ?_); (case side1 => exact qC HR250_0); (case side2 => exact HC250_0.out); (case side3 => exact qC HR251_0); (case side4 => exact HC251_0.out); rintro e w12 ⟨rfl, hb⟩; refine ⟨_, rfl, ?_⟩; replace HB := qHB HB hb; (try clear hb); (try clear hb2); (try clear hk); (try clear hi); refine hK.out _ _ ⟨((HB.out.cell (World.block_lt_of_cell? w _ hw250_0)).trans hw250_0), ((HB.out.cell (World.block_lt_of_cell? w _ hw251_0)).trans hw251_0)⟩ (fun hHeld => ?_); clear hK K; refine norm_ (a' := ?_) ?_ ?_; rotate_left
                · show Act.put _ (some 25) _ = _; simp only [Act.put, List.setIfInBounds_toArray, List.set_cons_zero, List.set_cons_succ, i64_w, i32_w]; rfl
                refine pure_ (i := 9) (N := some 26) (v := ?_) (a' := ?_) #[true, true, true, true, true, true, true, true, true, true] rfl rfl (any_of HT_.out (by kernel_rfl)) (fun _ _ _ h => h) (Or.inl ⟨by rfl, ?_⟩) ?_ ?_; rotate_left
                · intro w'; go_simp; (with_reducible rfl)
                rotate_left
                · simp only [Act.put, List.setIfInBounds_toArray, List.set_cons_zero, List.set_cons_succ, i64_w, i32_w]; rfl
                refine done_ (done_of HT_.out (by kernel_rfl)) ?_; (try go_wp2); go_ret; exact ⟨qR, qB⟩
            · rw [if_neg c6] at H; exact absurd H (by simp)
          · rw [if_neg c5] at H; exact absurd H (by simp)
        · rw [if_neg c4] at H; have c4b0 : decide (x5_1 < (l0.length : Int)) = false := decide_eq_false c4; clear c4; obtain rfl := Option.some.inj H; go_wp2; go_ret; exact ⟨qR, qB⟩
  · rw [if_neg c3] at H; have c3b0 : ((l0.length : Int) == (l1.length : Int)) = false := beq_eq_false_iff_ne.mpr c3; have c3b1 : ((l0.length : Int) != (l1.length : Int)) = true := bne_iff_ne.mpr c3; (have c3b2 : (l0.length == l1.length) = false := by first | simpa using c3 | (simp at c3 ⊢; omega)); obtain rfl := Option.some.inj H; go_enter Tryd.func43, Tryd.ntmps43; go_wp2; go_ret; exact ⟨qR, qB⟩
def laws_eqTableData.f (k : Nat) (a0_0 : ByteArray) (l0_1 : List (S52)) (l0_2 : List (List (S57))) (a1_0 : ByteArray) (l1_1 : List (S52)) (l1_2 : List (List (S57))) : Option (Bool) := if a0_0.toList = a1_0.toList then ((laws_eqColumnS.f k l0_1 l1_1).bind fun t255 => (if t255 = true then ((laws_eqValueSS.f k l0_2 l1_2).bind fun t256 => (if t256 = true then (some true) else (some false))) else (some false))) else (some false)
theorem laws_eqTableData.mono : ∀ a0 a1 a2 a3 a4 a5 k, LeO (laws_eqTableData.f k a0 a1 a2 a3 a4 a5) (laws_eqTableData.f (k + 1) a0 a1 a2 a3 a4 a5) := by
  intro a0 a1 a2 a3 a4 a5 k
  unfold laws_eqTableData.f
  repeat' first
      | (with_reducible exact laws_eqColumnS.mono _ _ _)
      | (with_reducible exact laws_eqValueSS.mono _ _ _)
      | (with_reducible exact LeO.refl _)
      | (with_reducible exact LeO.none _)
      | (with_reducible refine LeO.ite ?_ ?_)
      | (with_reducible refine LeO.bind ?_ (fun _ => ?_))
      | exact laws_eqColumnS.mono _ _ _
      | exact laws_eqValueSS.mono _ _ _
      | exact LeO.none _
      | refine LeO.ite ?_ ?_
      | refine LeO.bind ?_ (fun _ => ?_)
set_option maxHeartbeats 8000000 in
set_option maxRecDepth 100000 in
theorem laws_eqTableData.calls (k : Nat) (a0_0 : ByteArray) (A0_1 : Option Addr) (c0_1 : Nat) (l0_1 : List (S52)) (A0_2 : Option Addr) (c0_2 : Nat) (l0_2 : List (List (S57))) (a1_0 : ByteArray) (A1_1 : Option Addr) (c1_1 : Nat) (l1_1 : List (S52)) (A1_2 : Option Addr) (c1_2 : Nat) (l1_2 : List (List (S57))) (r : Bool) (w : World) (hr0_1 : Kd.C k52 w A0_1 l0_1.length l0_1) (hc0_1 : l0_1.length ≤ c0_1) (hr0_2 : Kd.C (Kd.slice 57 k57) w A0_2 l0_2.length l0_2) (hc0_2 : l0_2.length ≤ c0_2) (hr1_1 : Kd.C k52 w A1_1 l1_1.length l1_1) (hc1_1 : l1_1.length ≤ c1_1) (hr1_2 : Kd.C (Kd.slice 57 k57) w A1_2 l1_2.length l1_2) (hc1_2 : l1_2.length ≤ c1_2) (h : laws_eqTableData.f k a0_0 l0_1 l0_2 a1_0 l1_1 l1_2 = some r) :
    Calls Tryd.prog 27 #[.agg #[.string a0_0, .slice A0_1 l0_1.length c0_1, .slice A0_2 l0_2.length c0_2], .agg #[.string a1_0, .slice A1_1 l1_1.length c1_1, .slice A1_2 l1_2.length c1_2]] w fun e w' => e = .returned (.bool r) ∧ Below w.heap.size w w' := by
  have hu37 := Tryd.underlying37; have HR0_1 := qK hr0_1; have HC0_1 := qK hc0_1; clear hr0_1 hc0_1; have HR0_2 := qK hr0_2; have HC0_2 := qK hc0_2; clear hr0_2 hc0_2; have HR1_1 := qK hr1_1; have HC1_1 := qK hc1_1; clear hr1_1 hc1_1; have HR1_2 := qK hr1_2; have HC1_2 := qK hc1_2; clear hr1_2 hc1_2; have HB := qK (Below.refl w.heap.size w); have H : (if a0_0.toList = a1_0.toList then ((laws_eqColumnS.f k l0_1 l1_1).bind fun t255 => (if t255 = true then ((laws_eqValueSS.f k l0_2 l1_2).bind fun t256 => (if t256 = true then (some true) else (some false))) else (some false))) else (some false)) = some r := h; clear h; by_cases c3 : a0_0.toList = a1_0.toList
  · rw [if_pos c3] at H; have c3b0 : (a0_0.toList == a1_0.toList) = true := beq_iff_eq.mpr c3; have c3b1 : (a0_0.toList != a1_0.toList) = false := bne_eq_false_iff_eq.mpr c3; clear c3; replace H := Option.bind_eq_some_iff.mp H; obtain ⟨t255, A40, H⟩ := H; have A4 := qK A40; clear A40; by_cases c5 : t255 = true
    · subst c5; rw [if_pos rfl] at H; replace H := Option.bind_eq_some_iff.mp H; obtain ⟨t256, A60, H⟩ := H; have A6 := qK A60; clear A60; by_cases c7 : t256 = true
      · subst c7; rw [if_pos rfl] at H; obtain rfl := Option.some.inj H; go_enter Tryd.func27, Tryd.ntmps27; go_wp2_with (first | ((with_reducible refine gds (N := 2) rfl ?_); refine qbx 2 #[.string a0_0, .slice A0_1 l0_1.length c0_1, .slice A0_2 l0_2.length c0_2] 37 ?_; intro gb253 hg w8 hbox hb; have BK253 := qK (hbox); have GW253 := qK ((qW : w.heap.size ≤ gb253)); have GE253 := GW253; replace HB := qHB HB hb; clear hb hbox hg) | ((with_reducible refine gds (N := 3) rfl ?_); refine qbx 3 #[.string a1_0, .slice A1_1 l1_1.length c1_1, .slice A1_2 l1_2.length c1_2] 37 ?_; intro gb254 hg w9 hbox hb; have BK254 := qK (hbox); have GW254 := qK ((qW : w.heap.size ≤ gb254)); have GE254 := GW254; replace HB := qHB HB hb; have NB253_254 := qK (qlt BK253 hg); have NB254_253 := qK (qgt BK253 hg); replace BK253 := qbb BK253 hb; clear hb hbox hg; have hnb10 := NB253_254.out; have hnc10 := NB254_253.out; have hz11 := qz3 BK253.out; have hz12 := qz3 BK254.out) | ((with_reducible refine gcl (f := 42) rfl ?_); refine goesL_ (some 14) rfl rfl Tryd.func42 (by kernel_rfl) rfl #[.slice A0_1 l0_1.length c0_1, .slice A1_1 l1_1.length c1_1] rfl qA ?_; (with_reducible refine (laws_eqColumnS.calls k _ _ l0_1 _ _ l1_1 true _ ?side1 ?side2 ?side3 ?side4 A4.out).mono ?_); (case side1 => exact qC HR0_1); (case side2 => exact HC0_1.out); (case side3 => exact qC HR1_1); (case side4 => exact HC1_1.out); rintro e w13 ⟨rfl, hb⟩; refine ⟨_, rfl, ?_⟩; replace BK253 := qbb BK253 hb; replace BK254 := qbb BK254 hb; replace HB := qHB HB hb; (try clear hb); (try clear hb2); (try clear hk); (try clear hi); have hz14 := qz3 BK253.out; have hz15 := qz3 BK254.out) | ((with_reducible refine gcl (f := 43) rfl ?_); refine goesL_ (some 20) rfl rfl Tryd.func43 (by kernel_rfl) rfl #[.slice A0_2 l0_2.length c0_2, .slice A1_2 l1_2.length c1_2] rfl qA ?_; (with_reducible refine (laws_eqValueSS.calls k _ _ l0_2 _ _ l1_2 true _ ?side1 ?side2 ?side3 ?side4 A6.out).mono ?_); (case side1 => exact qC HR0_2); (case side2 => exact HC0_2.out); (case side3 => exact qC HR1_2); (case side4 => exact HC1_2.out); rintro e w16 ⟨rfl, hb⟩; refine ⟨_, rfl, ?_⟩; replace BK253 := qbb BK253 hb; replace BK254 := qbb BK254 hb; replace HB := qHB HB hb; (try clear hb); (try clear hb2); (try clear hk); (try clear hi))); go_ret; exact ⟨qR, qB⟩
      · replace c7 := Bool.eq_false_iff.mpr c7; subst c7; rw [if_neg qff] at H; obtain rfl := Option.some.inj H; go_enter Tryd.func27, Tryd.ntmps27; go_wp2_with (first | ((with_reducible refine gds (N := 2) rfl ?_); refine qbx 2 #[.string a0_0, .slice A0_1 l0_1.length c0_1, .slice A0_2 l0_2.length c0_2] 37 ?_; intro gb253 hg w17 hbox hb; have BK253 := qK (hbox); have GW253 := qK ((qW : w.heap.size ≤ gb253)); have GE253 := GW253; replace HB := qHB HB hb; clear hb hbox hg) | ((with_reducible refine gds (N := 3) rfl ?_); refine qbx 3 #[.string a1_0, .slice A1_1 l1_1.length c1_1, .slice A1_2 l1_2.length c1_2] 37 ?_; intro gb254 hg w18 hbox hb; have BK254 := qK (hbox); have GW254 := qK ((qW : w.heap.size ≤ gb254)); have GE254 := GW254; replace HB := qHB HB hb; have NB253_254 := qK (qlt BK253 hg); have NB254_253 := qK (qgt BK253 hg); replace BK253 := qbb BK253 hb; clear hb hbox hg; have hnb19 := NB253_254.out; have hnc19 := NB254_253.out; have hz20 := qz3 BK253.out; have hz21 := qz3 BK254.out) | ((with_reducible refine gcl (f := 42) rfl ?_); refine goesL_ (some 14) rfl rfl Tryd.func42 (by kernel_rfl) rfl #[.slice A0_1 l0_1.length c0_1, .slice A1_1 l1_1.length c1_1] rfl qA ?_; (with_reducible refine (laws_eqColumnS.calls k _ _ l0_1 _ _ l1_1 true _ ?side1 ?side2 ?side3 ?side4 A4.out).mono ?_); (case side1 => exact qC HR0_1); (case side2 => exact HC0_1.out); (case side3 => exact qC HR1_1); (case side4 => exact HC1_1.out); rintro e w22 ⟨rfl, hb⟩; refine ⟨_, rfl, ?_⟩; replace BK253 := qbb BK253 hb; replace BK254 := qbb BK254 hb; replace HB := qHB HB hb; (try clear hb); (try clear hb2); (try clear hk); (try clear hi); have hz23 := qz3 BK253.out; have hz24 := qz3 BK254.out) | ((with_reducible refine gcl (f := 43) rfl ?_); refine goesL_ (some 20) rfl rfl Tryd.func43 (by kernel_rfl) rfl #[.slice A0_2 l0_2.length c0_2, .slice A1_2 l1_2.length c1_2] rfl qA ?_; (with_reducible refine (laws_eqValueSS.calls k _ _ l0_2 _ _ l1_2 false _ ?side1 ?side2 ?side3 ?side4 A6.out).mono ?_); (case side1 => exact qC HR0_2); (case side2 => exact HC0_2.out); (case side3 => exact qC HR1_2); (case side4 => exact HC1_2.out); rintro e w25 ⟨rfl, hb⟩; refine ⟨_, rfl, ?_⟩; replace BK253 := qbb BK253 hb; replace BK254 := qbb BK254 hb; replace HB := qHB HB hb; (try clear hb); (try clear hb2); (try clear hk); (try clear hi))); go_ret; exact ⟨qR, qB⟩
    · replace c5 := Bool.eq_false_iff.mpr c5; subst c5; rw [if_neg qff] at H; obtain rfl := Option.some.inj H; go_enter Tryd.func27, Tryd.ntmps27; go_wp2_with (first | ((with_reducible refine gds (N := 2) rfl ?_); refine qbx 2 #[.string a0_0, .slice A0_1 l0_1.length c0_1, .slice A0_2 l0_2.length c0_2] 37 ?_; intro gb253 hg w26 hbox hb; have BK253 := qK (hbox); have GW253 := qK ((qW : w.heap.size ≤ gb253)); have GE253 := GW253; replace HB := qHB HB hb; clear hb hbox hg) | ((with_reducible refine gds (N := 3) rfl ?_); refine qbx 3 #[.string a1_0, .slice A1_1 l1_1.length c1_1, .slice A1_2 l1_2.length c1_2] 37 ?_; intro gb254 hg w27 hbox hb; have BK254 := qK (hbox); have GW254 := qK ((qW : w.heap.size ≤ gb254)); have GE254 := GW254; replace HB := qHB HB hb; have NB253_254 := qK (qlt BK253 hg); have NB254_253 := qK (qgt BK253 hg); replace BK253 := qbb BK253 hb; clear hb hbox hg; have hnb28 := NB253_254.out; have hnc28 := NB254_253.out; have hz29 := qz3 BK253.out; have hz30 := qz3 BK254.out) | ((with_reducible refine gcl (f := 42) rfl ?_); refine goesL_ (some 14) rfl rfl Tryd.func42 (by kernel_rfl) rfl #[.slice A0_1 l0_1.length c0_1, .slice A1_1 l1_1.length c1_1] rfl qA ?_; (with_reducible refine (laws_eqColumnS.calls k _ _ l0_1 _ _ l1_1 false _ ?side1 ?side2 ?side3 ?side4 A4.out).mono ?_); (case side1 => exact qC HR0_1); (case side2 => exact HC0_1.out); (case side3 => exact qC HR1_1); (case side4 => exact HC1_1.out); rintro e w31 ⟨rfl, hb⟩; refine ⟨_, rfl, ?_⟩; replace BK253 := qbb BK253 hb; replace BK254 := qbb BK254 hb; replace HB := qHB HB hb; (try clear hb); (try clear hb2); (try clear hk); (try clear hi))); go_ret; exact ⟨qR, qB⟩
  · rw [if_neg c3] at H; have c3b0 : (a0_0.toList == a1_0.toList) = false := beq_eq_false_iff_ne.mpr c3; have c3b1 : (a0_0.toList != a1_0.toList) = true := bne_iff_ne.mpr c3; obtain rfl := Option.some.inj H; go_enter Tryd.func27, Tryd.ntmps27; go_wp2_with (first | ((with_reducible refine gds (N := 2) rfl ?_); refine qbx 2 #[.string a0_0, .slice A0_1 l0_1.length c0_1, .slice A0_2 l0_2.length c0_2] 37 ?_; intro gb253 hg w32 hbox hb; have BK253 := qK (hbox); have GW253 := qK ((qW : w.heap.size ≤ gb253)); have GE253 := GW253; replace HB := qHB HB hb; clear hb hbox hg) | ((with_reducible refine gds (N := 3) rfl ?_); refine qbx 3 #[.string a1_0, .slice A1_1 l1_1.length c1_1, .slice A1_2 l1_2.length c1_2] 37 ?_; intro gb254 hg w33 hbox hb; have BK254 := qK (hbox); have GW254 := qK ((qW : w.heap.size ≤ gb254)); have GE254 := GW254; replace HB := qHB HB hb; have NB253_254 := qK (qlt BK253 hg); have NB254_253 := qK (qgt BK253 hg); replace BK253 := qbb BK253 hb; clear hb hbox hg; have hnb34 := NB253_254.out; have hnc34 := NB254_253.out; have hz35 := qz3 BK253.out; have hz36 := qz3 BK254.out)); go_ret; exact ⟨qR, qB⟩
def laws_eqTableDataS.l0 : Nat → List (S37) → List (S37) → Int → Option (Bool)
  | 0, _, _, _ => none
  | k + 1, x0, x1, x5 => if x5 < (x0.length : Int) then (if 0 ≤ x5 then (if x5 < (x1.length : Int) then ((laws_eqTableData.f k ((rd_T37 x0 x5).f0) ((rd_T37 x0 x5).f1) ((rd_T37 x0 x5).f2) ((rd_T37 x1 x5).f0) ((rd_T37 x1 x5).f1) ((rd_T37 x1 x5).f2)).bind fun t259 => (if t259 = true then (laws_eqTableDataS.l0 k x0 x1 (wrap64 (x5 + 1))) else (some false))) else (none)) else (none)) else (some true)
def laws_eqTableDataS.f (k : Nat) (l0 : List (S37)) (l1 : List (S37)) : Option (Bool) := if (l0.length : Int) = (l1.length : Int) then (laws_eqTableDataS.l0 k l0 l1 0) else (some false)
theorem laws_eqTableDataS.mono_l : ∀ k, (∀ y0 y1 y2, LeO (laws_eqTableDataS.l0 k y0 y1 y2) (laws_eqTableDataS.l0 (k + 1) y0 y1 y2))
  | 0 => fun _ _ _ r h => by simp [laws_eqTableDataS.l0] at h
  | k + 1 => by
    have ih0 := laws_eqTableDataS.mono_l k
    · intro y0 y1 y2
      unfold laws_eqTableDataS.l0
      repeat' first
      | (with_reducible exact ih0 _ _ _)
      | (with_reducible exact laws_eqTableData.mono _ _ _ _ _ _ _)
      | (with_reducible exact LeO.refl _)
      | (with_reducible exact LeO.none _)
      | (with_reducible refine LeO.ite ?_ ?_)
      | (with_reducible refine LeO.bind ?_ (fun _ => ?_))
      | exact ih0 _ _ _
      | exact laws_eqTableData.mono _ _ _ _ _ _ _
      | exact LeO.none _
      | refine LeO.ite ?_ ?_
      | refine LeO.bind ?_ (fun _ => ?_)
theorem laws_eqTableDataS.mono : ∀ a0 a1 k, LeO (laws_eqTableDataS.f k a0 a1) (laws_eqTableDataS.f (k + 1) a0 a1) := by
  intro a0 a1 k
  have ih0 := laws_eqTableDataS.mono_l k
  unfold laws_eqTableDataS.f
  repeat' first
      | (with_reducible exact ih0 _ _ _)
      | (with_reducible exact laws_eqTableData.mono _ _ _ _ _ _ _)
      | (with_reducible exact LeO.refl _)
      | (with_reducible exact LeO.none _)
      | (with_reducible refine LeO.ite ?_ ?_)
      | (with_reducible refine LeO.bind ?_ (fun _ => ?_))
      | exact ih0 _ _ _
      | exact laws_eqTableData.mono _ _ _ _ _ _ _
      | exact LeO.none _
      | refine LeO.ite ?_ ?_
      | refine LeO.bind ?_ (fun _ => ?_)
def laws_eqTableDataS.T6 : Bool × List (List Nat × List Nat) := (true, [([], []), ([], []), ([0, 1], [0, 1]), ([2], [2]), ([], []), ([], []), ([4, 5], [4, 5]), ([6], [6]), ([3, 7], [3, 7]), ([8], [8])])
def laws_eqTableDataS.B6 : List Nat := [0, 0, 3, 7, 0, 0, 48, 112, 255, 511]
theorem laws_eqTableDataS.tab6 : rtab .any (opsOf Tryd.f14 6) = laws_eqTableDataS.T6 := by kernel_rfl
theorem laws_eqTableDataS.bits6 : waitsOk laws_eqTableDataS.T6.2 laws_eqTableDataS.B6 = true := by kernel_rfl
set_option maxHeartbeats 8000000 in
set_option maxRecDepth 100000 in
theorem laws_eqTableDataS.calls (k : Nat) (A0 : Option Addr) (c0 : Nat) (l0 : List (S37)) (A1 : Option Addr) (c1 : Nat) (l1 : List (S37)) (r : Bool) (w : World) (hr0 : Kd.C k37 w A0 l0.length l0) (hc0 : l0.length ≤ c0) (hr1 : Kd.C k37 w A1 l1.length l1) (hc1 : l1.length ≤ c1) (h : laws_eqTableDataS.f k l0 l1 = some r) :
    Calls Tryd.prog 14 #[.slice A0 l0.length c0, .slice A1 l1.length c1] w fun e w' => e = .returned (.bool r) ∧ Below w.heap.size w w' := by
  have hu37 := Tryd.underlying37; have HR0 := qK hr0; have HC0 := qK hc0; clear hr0 hc0; have HR1 := qK hr1; have HC1 := qK hc1; clear hr1 hc1; have HB := qK (Below.refl w.heap.size w); have H : (if (l0.length : Int) = (l1.length : Int) then (laws_eqTableDataS.l0 k l0 l1 0) else (some false)) = some r := h; clear h; by_cases c3 : (l0.length : Int) = (l1.length : Int)
  · rw [if_pos c3] at H; have c3b0 : ((l0.length : Int) == (l1.length : Int)) = true := beq_iff_eq.mpr c3; have c3b1 : ((l0.length : Int) != (l1.length : Int)) = false := bne_eq_false_iff_eq.mpr c3; (have c3b2 : (l0.length == l1.length) = true := by first | simpa using c3 | (simp at c3 ⊢; omega)); clear c3; have H' := qK H; clear H; go_enter Tryd.func14, Tryd.ntmps14; go_wp2; go_loopg [5] k (fun kq v5 w' => ∃ (x5_1 : Int), v5 = .int .i64 x5_1 ∧ Aside0 (laws_eqTableDataS.l0 kq l0 l1 x5_1 = some r) ∧ Aside0 (kq ≤ k) ∧ Aside0 (Below w.heap.size w w'))
    case atStart => exact ⟨(0), qS, H', ⟨Nat.le_refl _⟩, ⟨qB⟩⟩
    case round =>
      clear H'; (try clear c1); (try clear p2); (try clear c3); (try clear c3b0); (try clear c3b1); (try clear c3b2); obtain ⟨x5_1, rfl, HA, HK1, HB⟩ := hrel
      cases gk with
      | zero => exact absurd HA.out (by simp [laws_eqTableDataS.l0])
      | succ k1 =>
        have H := HA.out; clear HA; simp only [laws_eqTableDataS.l0] at H; by_cases c4 : x5_1 < (l0.length : Int)
        · rw [if_pos c4] at H; have c4b0 : decide (x5_1 < (l0.length : Int)) = true := decide_eq_true c4; clear c4; by_cases c5 : 0 ≤ x5_1
          · rw [if_pos c5] at H; have c5b0 : decide (0 ≤ x5_1) = true := decide_eq_true c5; clear c5; by_cases c6 : x5_1 < (l1.length : Int)
            · rw [if_pos c6] at H; have c6b0 : decide (x5_1 < (l1.length : Int)) = true := decide_eq_true c6; clear c6; replace H := Option.bind_eq_some_iff.mp H; obtain ⟨t259, A70, H⟩ := H; have A7 := qK A70; clear A70; by_cases c8 : t259 = true
              · subst c8; rw [if_pos rfl] at H; have H' := qK H; clear H; (try go_wp2); replace HB := qK (bd1 HB.out); have p257 : 0 ≤ (x5_1 : Int) := of_decide_eq_true qa; have q257 : x5_1 < (l0.length : Int) := of_decide_eq_true qa; obtain ⟨ad257, A257_1, c257_1, A257_2, c257_2, e257, hx257_0, hx257_1, hx257_2, hl257_1, hi257_1, hl257_2, hi257_2⟩ := at_T37 HR0.out x5_1 p257 q257; have hw257_2 := hx257_2; have hw257_1 := hx257_1; have hw257_0 := hx257_0; cases e257; replace hx257_0 := (HB.out.cell (World.block_lt_of_cell? w _ hx257_0)).trans hx257_0; replace hx257_1 := (HB.out.cell (World.block_lt_of_cell? w _ hx257_1)).trans hx257_1; replace hx257_2 := (HB.out.cell (World.block_lt_of_cell? w _ hx257_2)).trans hx257_2; have HR257_1 := qK hi257_1; have HC257_1 := qK hl257_1; clear hi257_1 hl257_1; have HR257_2 := qK hi257_2; have HC257_2 := qK hl257_2; clear hi257_2 hl257_2; replace p257 := eq_true p257; replace q257 := eq_true q257; have p258 : 0 ≤ (x5_1 : Int) := of_decide_eq_true qa; have q258 : x5_1 < (l1.length : Int) := of_decide_eq_true qa; obtain ⟨ad258, A258_1, c258_1, A258_2, c258_2, e258, hx258_0, hx258_1, hx258_2, hl258_1, hi258_1, hl258_2, hi258_2⟩ := at_T37 HR1.out x5_1 p258 q258; have hw258_2 := hx258_2; have hw258_1 := hx258_1; have hw258_0 := hx258_0; cases e258; replace hx258_0 := (HB.out.cell (World.block_lt_of_cell? w _ hx258_0)).trans hx258_0; replace hx258_1 := (HB.out.cell (World.block_lt_of_cell? w _ hx258_1)).trans hx258_1; replace hx258_2 := (HB.out.cell (World.block_lt_of_cell? w _ hx258_2)).trans hx258_2; have HR258_1 := qK hi258_1; have HC258_1 := qK hl258_1; clear hi258_1 hl258_1; have HR258_2 := qK hi258_2; have HC258_2 := qK hl258_2; clear hi258_2 hl258_2; replace p258 := eq_true p258; replace q258 := eq_true q258; refine start_ (n := 10) (S := fun w' => w'.cell? (ad257.add ((x5_1).toNat * 3)) = some (.string ((rd_T37 l0 x5_1).f0)) ∧ w'.cell? ⟨(ad257.add ((x5_1).toNat * 3)).block, (ad257.add ((x5_1).toNat * 3)).off + 1, none⟩ = some (.slice A257_1 ((rd_T37 l0 x5_1).f1).length c257_1) ∧ w'.cell? ⟨(ad257.add ((x5_1).toNat * 3)).block, (ad257.add ((x5_1).toNat * 3)).off + 2, none⟩ = some (.slice A257_2 ((rd_T37 l0 x5_1).f2).length c257_2) ∧ w'.cell? (ad258.add ((x5_1).toNat * 3)) = some (.string ((rd_T37 l1 x5_1).f0)) ∧ w'.cell? ⟨(ad258.add ((x5_1).toNat * 3)).block, (ad258.add ((x5_1).toNat * 3)).off + 1, none⟩ = some (.slice A258_1 ((rd_T37 l1 x5_1).f1).length c258_1) ∧ w'.cell? ⟨(ad258.add ((x5_1).toNat * 3)).block, (ad258.add ((x5_1).toNat * 3)).off + 2, none⟩ = some (.slice A258_2 ((rd_T37 l1 x5_1).f2).length c258_2)) (ds := []) #[false, false, false, false, false, false, false, false, false, false] (by kernel_rfl) rfl rfl ⟨((HB.out.cell (World.block_lt_of_cell? w _ hw257_0)).trans hw257_0), ((HB.out.cell (World.block_lt_of_cell? w _ hw257_1)).trans hw257_1), ((HB.out.cell (World.block_lt_of_cell? w _ hw257_2)).trans hw257_2), ((HB.out.cell (World.block_lt_of_cell? w _ hw258_0)).trans hw258_0), ((HB.out.cell (World.block_lt_of_cell? w _ hw258_1)).trans hw258_1), ((HB.out.cell (World.block_lt_of_cell? w _ hw258_2)).trans hw258_2)⟩ (fun hHeld => ?_); refine with_tabW laws_eqTableDataS.tab6 laws_eqTableDataS.bits6 (fun HT_ HW_ => ?_); generalize wr.drew = w9 at HB HR257_1 HR257_2 HR258_1 HR258_2 hx257_0 hx257_1 hx257_2 hx258_0 hx258_1 hx258_2 hHeld ⊢; refine pure_ (i := 0) (N := some 17) (v := ?_) (a' := ?_) #[true, false, false, false, false, false, false, false, false, false] rfl rfl (any_of HT_.out (by kernel_rfl)) (fun _ _ _ h => h) (Or.inl ⟨by rfl, ?_⟩) ?_ ?_; rotate_left
                · intro w'; go_simp; (with_reducible rfl)
                rotate_left
                · simp only [Act.put, List.setIfInBounds_toArray, List.set_cons_zero, List.set_cons_succ, i64_w, i32_w]; rfl
                refine pure_ (i := 1) (N := some 18) (v := ?_) (a' := ?_) #[true, true, false, false, false, false, false, false, false, false] rfl rfl (any_of HT_.out (by kernel_rfl)) (fun _ _ _ h => h) (Or.inl ⟨by rfl, ?_⟩) ?_ ?_; rotate_left
                · intro w'; go_simp; (with_reducible rfl)
                rotate_left
                · simp only [Act.put, List.setIfInBounds_toArray, List.set_cons_zero, List.set_cons_succ, i64_w, i32_w]; rfl
                refine pure_ (i := 2) (N := some 19) (v := ?_) (a' := ?_) #[true, true, true, false, false, false, false, false, false, false] rfl rfl (any_of HT_.out (by kernel_rfl)) (fun _ _ _ h => h) (Or.inl ⟨by rfl, ?_⟩) ?_ ?_; rotate_left
                · intro w'; go_simp; (with_reducible rfl)
                rotate_left
                · simp only [Act.put, List.setIfInBounds_toArray, List.set_cons_zero, List.set_cons_succ, i64_w, i32_w]; rfl
                refine pure_ (i := 4) (N := some 21) (v := ?_) (a' := ?_) #[true, true, true, false, true, false, false, false, false, false] rfl rfl (any_of HT_.out (by kernel_rfl)) (fun _ _ _ h => h) (Or.inl ⟨by rfl, ?_⟩) ?_ ?_; rotate_left
                · intro w'; go_simp; (with_reducible rfl)
                rotate_left
                · simp only [Act.put, List.setIfInBounds_toArray, List.set_cons_zero, List.set_cons_succ, i64_w, i32_w]; rfl
                refine pure_ (i := 5) (N := some 22) (v := ?_) (a' := ?_) #[true, true, true, false, true, true, false, false, false, false] rfl rfl (any_of HT_.out (by kernel_rfl)) (fun _ _ _ h => h) (Or.inl ⟨by rfl, ?_⟩) ?_ ?_; rotate_left
                · intro w'; go_simp; (with_reducible rfl)
                rotate_left
                · simp only [Act.put, List.setIfInBounds_toArray, List.set_cons_zero, List.set_cons_succ, i64_w, i32_w]; rfl
                refine pure_ (i := 6) (N := some 23) (v := ?_) (a' := ?_) #[true, true, true, false, true, true, true, false, false, false] rfl rfl (any_of HT_.out (by kernel_rfl)) (fun _ _ _ h => h) (Or.inl ⟨by rfl, ?_⟩) ?_ ?_; rotate_left
                · intro w'; go_simp; (with_reducible rfl)
                rotate_left
                · simp only [Act.put, List.setIfInBounds_toArray, List.set_cons_zero, List.set_cons_succ, i64_w, i32_w]; rfl
                refine take_ (i := 3) (N := some 20) (v := ?_) (a' := ?_) #[true, true, true, true, true, true, true, false, false, false] rfl rfl (take_ofW HT_.out HW_.out (by kernel_rfl)) (fun _ _ _ h => h) (Or.inl ⟨by rfl, ?_⟩) hHeld ?_ ?_; rotate_left
                · rintro w' ⟨s0, s1, s2, s3, s4, s5⟩; go_simp; (with_reducible rfl)
                rotate_left
                · simp only [Act.put, List.setIfInBounds_toArray, List.set_cons_zero, List.set_cons_succ, i64_w, i32_w]; rfl
                refine take_ (i := 7) (N := some 24) (v := ?_) (a' := ?_) #[true, true, true, true, true, true, true, true, false, false] rfl rfl (take_ofW HT_.out HW_.out (by kernel_rfl)) (fun _ _ _ h => h) (Or.inl ⟨by rfl, ?_⟩) hHeld ?_ ?_; rotate_left
                · rintro w' ⟨s0, s1, s2, s3, s4, s5⟩; go_simp; (with_reducible rfl)
                rotate_left
                · simp only [Act.put, List.setIfInBounds_toArray, List.set_cons_zero, List.set_cons_succ, i64_w, i32_w]; rfl
                refine one_ (i := 8) (N := some 25) #[true, true, true, true, true, true, true, true, true, false] rfl rfl (one_of HT_.out (by kernel_rfl)) (by decide) (fun K hK => ?_); refine goes_ Tryd.func27 (by kernel_rfl) rfl #[.agg #[.string ((rd_T37 l0 x5_1).f0), .slice A257_1 ((rd_T37 l0 x5_1).f1).length c257_1, .slice A257_2 ((rd_T37 l0 x5_1).f2).length c257_2], .agg #[.string ((rd_T37 l1 x5_1).f0), .slice A258_1 ((rd_T37 l1 x5_1).f1).length c258_1, .slice A258_2 ((rd_T37 l1 x5_1).f2).length c258_2]] (by rfl) rfl rfl qA ?_; (with_reducible refine (laws_eqTableData.calls k1 ((rd_T37 l0 x5_1).f0) _ _ ((rd_T37 l0 x5_1).f1) _ _ ((rd_T37 l0 x5_1).f2) ((rd_T37 l1 x5_1).f0) _ _ ((rd_T37 l1 x5_1).f1) _ _ ((rd_T37 l1 x5_1).f2) true _ ?side1 ?side2 ?side3 ?side4 ?side5 ?side6 ?side7 ?side8 A7.out).mono ?_); (case side1 => exact qC HR257_1); (case side2 => exact HC257_1.out); (case side3 => exact qC HR257_2); (case side4 => exact HC257_2.out); (case side5 => exact qC HR258_1); (case side6 => exact HC258_1.out); (case side7 => exact qC HR258_2); (case side8 => exact HC258_2.out); rintro e w10 ⟨rfl, hb⟩; refine ⟨_, rfl, ?_⟩; replace HB := qHB HB hb; (try clear hb); (try clear hb2); (try clear hk); (try clear hi); refine hK.out _ _ ⟨((HB.out.cell (World.block_lt_of_cell? w _ hw257_0)).trans hw257_0), ((HB.out.cell (World.block_lt_of_cell? w _ hw257_1)).trans hw257_1), ((HB.out.cell (World.block_lt_of_cell? w _ hw257_2)).trans hw257_2), ((HB.out.cell (World.block_lt_of_cell? w _ hw258_0)).trans hw258_0), ((HB.out.cell (World.block_lt_of_cell? w _ hw258_1)).trans hw258_1), ((HB.out.cell (World.block_lt_of_cell? w _ hw258_2)).trans hw258_2)⟩ (fun hHeld => ?_); clear hK K; refine norm_ (a' := ?_) ?_ ?_; rotate_left
                · show Act.put _ (some 25) _ = _; simp only [Act.put, List.setIfInBounds_toArray, List.set_cons_zero, List.set_cons_succ, i64_w, i32_w]; rfl
                refine pure_ (i := 9) (N := some 26) (v := ?_) (a' := ?_) #[true, true, true, true, true, true, true, true, true, true] rfl rfl (any_of HT_.out (by kernel_rfl)) (fun _ _ _ h => h) (Or.inl ⟨by rfl, ?_⟩) ?_ ?_; rotate_left
                · intro w'; go_simp; (with_reducible rfl)
                rotate_left
                · simp only [Act.put, List.setIfInBounds_toArray, List.set_cons_zero, List.set_cons_succ, i64_w, i32_w]; rfl
                refine done_ (done_of HT_.out (by kernel_rfl)) ?_; (try go_wp2); go_roundg k1
                case measure => have := HK1.out; omega
                case rel => exact ⟨(wrap64 (x5_1 + 1)), qS, H', ⟨by have := HK1.out; omega⟩, ⟨qB⟩⟩
              · replace c8 := Bool.eq_false_iff.mpr c8; subst c8; rw [if_neg qff] at H; obtain rfl := Option.some.inj H; (try go_wp2); replace HB := qK (bd1 HB.out); have p257 : 0 ≤ (x5_1 : Int) := of_decide_eq_true qa; have q257 : x5_1 < (l0.length : Int) := of_decide_eq_true qa; obtain ⟨ad257, A257_1, c257_1, A257_2, c257_2, e257, hx257_0, hx257_1, hx257_2, hl257_1, hi257_1, hl257_2, hi257_2⟩ := at_T37 HR0.out x5_1 p257 q257; have hw257_2 := hx257_2; have hw257_1 := hx257_1; have hw257_0 := hx257_0; cases e257; replace hx257_0 := (HB.out.cell (World.block_lt_of_cell? w _ hx257_0)).trans hx257_0; replace hx257_1 := (HB.out.cell (World.block_lt_of_cell? w _ hx257_1)).trans hx257_1; replace hx257_2 := (HB.out.cell (World.block_lt_of_cell? w _ hx257_2)).trans hx257_2; have HR257_1 := qK hi257_1; have HC257_1 := qK hl257_1; clear hi257_1 hl257_1; have HR257_2 := qK hi257_2; have HC257_2 := qK hl257_2; clear hi257_2 hl257_2; replace p257 := eq_true p257; replace q257 := eq_true q257; have p258 : 0 ≤ (x5_1 : Int) := of_decide_eq_true qa; have q258 : x5_1 < (l1.length : Int) := of_decide_eq_true qa; obtain ⟨ad258, A258_1, c258_1, A258_2, c258_2, e258, hx258_0, hx258_1, hx258_2, hl258_1, hi258_1, hl258_2, hi258_2⟩ := at_T37 HR1.out x5_1 p258 q258; have hw258_2 := hx258_2; have hw258_1 := hx258_1; have hw258_0 := hx258_0; cases e258; replace hx258_0 := (HB.out.cell (World.block_lt_of_cell? w _ hx258_0)).trans hx258_0; replace hx258_1 := (HB.out.cell (World.block_lt_of_cell? w _ hx258_1)).trans hx258_1; replace hx258_2 := (HB.out.cell (World.block_lt_of_cell? w _ hx258_2)).trans hx258_2; have HR258_1 := qK hi258_1; have HC258_1 := qK hl258_1; clear hi258_1 hl258_1; have HR258_2 := qK hi258_2; have HC258_2 := qK hl258_2; clear hi258_2 hl258_2; replace p258 := eq_true p258; replace q258 := eq_true q258; refine start_ (n := 10) (S := fun w' => w'.cell? (ad257.add ((x5_1).toNat * 3)) = some (.string ((rd_T37 l0 x5_1).f0)) ∧ w'.cell? ⟨(ad257.add ((x5_1).toNat * 3)).block, (ad257.add ((x5_1).toNat * 3)).off + 1, none⟩ = some (.slice A257_1 ((rd_T37 l0 x5_1).f1).length c257_1) ∧ w'.cell? ⟨(ad257.add ((x5_1).toNat * 3)).block, (ad257.add ((x5_1).toNat * 3)).off + 2, none⟩ = some (.slice A257_2 ((rd_T37 l0 x5_1).f2).length c257_2) ∧ w'.cell? (ad258.add ((x5_1).toNat * 3)) = some (.string ((rd_T37 l1 x5_1).f0)) ∧ w'.cell? ⟨(ad258.add ((x5_1).toNat * 3)).block, (ad258.add ((x5_1).toNat * 3)).off + 1, none⟩ = some (.slice A258_1 ((rd_T37 l1 x5_1).f1).length c258_1) ∧ w'.cell? ⟨(ad258.add ((x5_1).toNat * 3)).block, (ad258.add ((x5_1).toNat * 3)).off + 2, none⟩ = some (.slice A258_2 ((rd_T37 l1 x5_1).f2).length c258_2)) (ds := []) #[false, false, false, false, false, false, false, false, false, false] (by kernel_rfl) rfl rfl ⟨((HB.out.cell (World.block_lt_of_cell? w _ hw257_0)).trans hw257_0), ((HB.out.cell (World.block_lt_of_cell? w _ hw257_1)).trans hw257_1), ((HB.out.cell (World.block_lt_of_cell? w _ hw257_2)).trans hw257_2), ((HB.out.cell (World.block_lt_of_cell? w _ hw258_0)).trans hw258_0), ((HB.out.cell (World.block_lt_of_cell? w _ hw258_1)).trans hw258_1), ((HB.out.cell (World.block_lt_of_cell? w _ hw258_2)).trans hw258_2)⟩ (fun hHeld => ?_); refine with_tabW laws_eqTableDataS.tab6 laws_eqTableDataS.bits6 (fun HT_ HW_ => ?_); generalize wr.drew = w11 at HB HR257_1 HR257_2 HR258_1 HR258_2 hx257_0 hx257_1 hx257_2 hx258_0 hx258_1 hx258_2 hHeld ⊢; refine pure_ (i := 0) (N := some 17) (v := ?_) (a' := ?_) #[true, false, false, false, false, false, false, false, false, false] rfl rfl (any_of HT_.out (by kernel_rfl)) (fun _ _ _ h => h) (Or.inl ⟨by rfl, ?_⟩) ?_ ?_; rotate_left
                · intro w'; go_simp; (with_reducible rfl)
                rotate_left
                · simp only [Act.put, List.setIfInBounds_toArray, List.set_cons_zero, List.set_cons_succ, i64_w, i32_w]; rfl
                refine pure_ (i := 1) (N := some 18) (v := ?_) (a' := ?_) #[true, true, false, false, false, false, false, false, false, false] rfl rfl (any_of HT_.out (by kernel_rfl)) (fun _ _ _ h => h) (Or.inl ⟨by rfl, ?_⟩) ?_ ?_; rotate_left
                · intro w'; go_simp; (with_reducible rfl)
                rotate_left
                · simp only [Act.put, List.setIfInBounds_toArray, List.set_cons_zero, List.set_cons_succ, i64_w, i32_w]; rfl
                refine pure_ (i := 2) (N := some 19) (v := ?_) (a' := ?_) #[true, true, true, false, false, false, false, false, false, false] rfl rfl (any_of HT_.out (by kernel_rfl)) (fun _ _ _ h => h) (Or.inl ⟨by rfl, ?_⟩) ?_ ?_; rotate_left
                · intro w'; go_simp; (with_reducible rfl)
                rotate_left
                · simp only [Act.put, List.setIfInBounds_toArray, List.set_cons_zero, List.set_cons_succ, i64_w, i32_w]; rfl
                refine pure_ (i := 4) (N := some 21) (v := ?_) (a' := ?_) #[true, true, true, false, true, false, false, false, false, false] rfl rfl (any_of HT_.out (by kernel_rfl)) (fun _ _ _ h => h) (Or.inl ⟨by rfl, ?_⟩) ?_ ?_; rotate_left
                · intro w'; go_simp; (with_reducible rfl)
                rotate_left
                · simp only [Act.put, List.setIfInBounds_toArray, List.set_cons_zero, List.set_cons_succ, i64_w, i32_w]; rfl
                refine pure_ (i := 5) (N := some 22) (v := ?_) (a' := ?_) #[true, true, true, false, true, true, false, false, false, false] rfl rfl (any_of HT_.out (by kernel_rfl)) (fun _ _ _ h => h) (Or.inl ⟨by rfl, ?_⟩) ?_ ?_; rotate_left
                · intro w'; go_simp; (with_reducible rfl)
                rotate_left
                · simp only [Act.put, List.setIfInBounds_toArray, List.set_cons_zero, List.set_cons_succ, i64_w, i32_w]; rfl
                refine pure_ (i := 6) (N := some 23) (v := ?_) (a' := ?_) #[true, true, true, false, true, true, true, false, false, false] rfl rfl (any_of HT_.out (by kernel_rfl)) (fun _ _ _ h => h) (Or.inl ⟨by rfl, ?_⟩) ?_ ?_; rotate_left
                · intro w'; go_simp; (with_reducible rfl)
                rotate_left
                · simp only [Act.put, List.setIfInBounds_toArray, List.set_cons_zero, List.set_cons_succ, i64_w, i32_w]; rfl
                refine take_ (i := 3) (N := some 20) (v := ?_) (a' := ?_) #[true, true, true, true, true, true, true, false, false, false] rfl rfl (take_ofW HT_.out HW_.out (by kernel_rfl)) (fun _ _ _ h => h) (Or.inl ⟨by rfl, ?_⟩) hHeld ?_ ?_; rotate_left
                · rintro w' ⟨s0, s1, s2, s3, s4, s5⟩; go_simp; (with_reducible rfl)
                rotate_left
                · simp only [Act.put, List.setIfInBounds_toArray, List.set_cons_zero, List.set_cons_succ, i64_w, i32_w]; rfl
                refine take_ (i := 7) (N := some 24) (v := ?_) (a' := ?_) #[true, true, true, true, true, true, true, true, false, false] rfl rfl (take_ofW HT_.out HW_.out (by kernel_rfl)) (fun _ _ _ h => h) (Or.inl ⟨by rfl, ?_⟩) hHeld ?_ ?_; rotate_left
                · rintro w' ⟨s0, s1, s2, s3, s4, s5⟩; go_simp; (with_reducible rfl)
                rotate_left
                · simp only [Act.put, List.setIfInBounds_toArray, List.set_cons_zero, List.set_cons_succ, i64_w, i32_w]; rfl
                refine one_ (i := 8) (N := some 25) #[true, true, true, true, true, true, true, true, true, false] rfl rfl (one_of HT_.out (by kernel_rfl)) (by decide) (fun K hK => ?_); refine goes_ Tryd.func27 (by kernel_rfl) rfl #[.agg #[.string ((rd_T37 l0 x5_1).f0), .slice A257_1 ((rd_T37 l0 x5_1).f1).length c257_1, .slice A257_2 ((rd_T37 l0 x5_1).f2).length c257_2], .agg #[.string ((rd_T37 l1 x5_1).f0), .slice A258_1 ((rd_T37 l1 x5_1).f1).length c258_1, .slice A258_2 ((rd_T37 l1 x5_1).f2).length c258_2]] (by rfl) rfl rfl qA ?_; (with_reducible refine (laws_eqTableData.calls k1 ((rd_T37 l0 x5_1).f0) _ _ ((rd_T37 l0 x5_1).f1) _ _ ((rd_T37 l0 x5_1).f2) ((rd_T37 l1 x5_1).f0) _ _ ((rd_T37 l1 x5_1).f1) _ _ ((rd_T37 l1 x5_1).f2) false _ ?side1 ?side2 ?side3 ?side4 ?side5 ?side6 ?side7 ?side8 A7.out).mono ?_); (case side1 => exact qC HR257_1); (case side2 => exact HC257_1.out); (case side3 => exact qC HR257_2); (case side4 => exact HC257_2.out); (case side5 => exact qC HR258_1); (case side6 => exact HC258_1.out); (case side7 => exact qC HR258_2); (case side8 => exact HC258_2.out); rintro e w12 ⟨rfl, hb⟩; refine ⟨_, rfl, ?_⟩; replace HB := qHB HB hb; (try clear hb); (try clear hb2); (try clear hk); (try clear hi); refine hK.out _ _ ⟨((HB.out.cell (World.block_lt_of_cell? w _ hw257_0)).trans hw257_0), ((HB.out.cell (World.block_lt_of_cell? w _ hw257_1)).trans hw257_1), ((HB.out.cell (World.block_lt_of_cell? w _ hw257_2)).trans hw257_2), ((HB.out.cell (World.block_lt_of_cell? w _ hw258_0)).trans hw258_0), ((HB.out.cell (World.block_lt_of_cell? w _ hw258_1)).trans hw258_1), ((HB.out.cell (World.block_lt_of_cell? w _ hw258_2)).trans hw258_2)⟩ (fun hHeld => ?_); clear hK K; refine norm_ (a' := ?_) ?_ ?_; rotate_left
                · show Act.put _ (some 25) _ = _; simp only [Act.put, List.setIfInBounds_toArray, List.set_cons_zero, List.set_cons_succ, i64_w, i32_w]; rfl
                refine pure_ (i := 9) (N := some 26) (v := ?_) (a' := ?_) #[true, true, true, true, true, true, true, true, true, true] rfl rfl (any_of HT_.out (by kernel_rfl)) (fun _ _ _ h => h) (Or.inl ⟨by rfl, ?_⟩) ?_ ?_; rotate_left
                · intro w'; go_simp; (with_reducible rfl)
                rotate_left
                · simp only [Act.put, List.setIfInBounds_toArray, List.set_cons_zero, List.set_cons_succ, i64_w, i32_w]; rfl
                refine done_ (done_of HT_.out (by kernel_rfl)) ?_; (try go_wp2); go_ret; exact ⟨qR, qB⟩
            · rw [if_neg c6] at H; exact absurd H (by simp)
          · rw [if_neg c5] at H; exact absurd H (by simp)
        · rw [if_neg c4] at H; have c4b0 : decide (x5_1 < (l0.length : Int)) = false := decide_eq_false c4; clear c4; obtain rfl := Option.some.inj H; go_wp2; go_ret; exact ⟨qR, qB⟩
  · rw [if_neg c3] at H; have c3b0 : ((l0.length : Int) == (l1.length : Int)) = false := beq_eq_false_iff_ne.mpr c3; have c3b1 : ((l0.length : Int) != (l1.length : Int)) = true := bne_iff_ne.mpr c3; (have c3b2 : (l0.length == l1.length) = false := by first | simpa using c3 | (simp at c3 ⊢; omega)); obtain rfl := Option.some.inj H; go_enter Tryd.func14, Tryd.ntmps14; go_wp2; go_ret; exact ⟨qR, qB⟩
end Go.Proofs.YtoebfjfhdodakaaDoor.L
end
section
namespace Go.Proofs.YtoebfjfhdodakaaDoor.L
open Go.RowKit Go.Proofs.YtoebfjfhdodakaaDoorW.PrintWords Go.Proofs.YtoebfjfhdodakaaDoorW.PrintLast Go.Proofs.YtoebfjfhdodakaaDoorW.PrintMore
attribute [local go_sem] max2_int min2_int max_two min_two max_three min_three max_four min_four
set_option linter.unusedVariables false
set_option linter.unusedSimpArgs false
def laws_eqDb.f (k : Nat) (l0_0 : List (S37)) (l1_0 : List (S37)) : Option (Bool) := (laws_eqTableDataS.f k l0_0 l1_0).bind fun t262 => (if t262 = true then (some true) else (some false))
theorem laws_eqDb.mono : ∀ a0 a1 k, LeO (laws_eqDb.f k a0 a1) (laws_eqDb.f (k + 1) a0 a1) := by
  intro a0 a1 k
  unfold laws_eqDb.f
  repeat' first
      | (with_reducible exact laws_eqTableDataS.mono _ _ _)
      | (with_reducible exact LeO.refl _)
      | (with_reducible exact LeO.none _)
      | (with_reducible refine LeO.ite ?_ ?_)
      | (with_reducible refine LeO.bind ?_ (fun _ => ?_))
      | exact laws_eqTableDataS.mono _ _ _
      | exact LeO.none _
      | refine LeO.ite ?_ ?_
      | refine LeO.bind ?_ (fun _ => ?_)
set_option maxHeartbeats 8000000 in
set_option maxRecDepth 100000 in
theorem laws_eqDb.calls (k : Nat) (A0_0 : Option Addr) (c0_0 : Nat) (l0_0 : List (S37)) (A1_0 : Option Addr) (c1_0 : Nat) (l1_0 : List (S37)) (r : Bool) (w : World) (hr0_0 : Kd.C k37 w A0_0 l0_0.length l0_0) (hc0_0 : l0_0.length ≤ c0_0) (hr1_0 : Kd.C k37 w A1_0 l1_0.length l1_0) (hc1_0 : l1_0.length ≤ c1_0) (h : laws_eqDb.f k l0_0 l1_0 = some r) :
    Calls Tryd.prog 8 #[.agg #[.slice A0_0 l0_0.length c0_0], .agg #[.slice A1_0 l1_0.length c1_0]] w fun e w' => e = .returned (.bool r) ∧ Below w.heap.size w w' := by
  have hu29 := Tryd.underlying29; have HR0_0 := qK hr0_0; have HC0_0 := qK hc0_0; clear hr0_0 hc0_0; have HR1_0 := qK hr1_0; have HC1_0 := qK hc1_0; clear hr1_0 hc1_0; have HB := qK (Below.refl w.heap.size w); have H : ((laws_eqTableDataS.f k l0_0 l1_0).bind fun t262 => (if t262 = true then (some true) else (some false))) = some r := h; clear h; replace H := Option.bind_eq_some_iff.mp H; obtain ⟨t262, A30, H⟩ := H; have A3 := qK A30; clear A30; by_cases c4 : t262 = true
  · subst c4; rw [if_pos rfl] at H; obtain rfl := Option.some.inj H; go_enter Tryd.func8, Tryd.ntmps8; go_wp2_with (first | ((with_reducible refine gds (N := 2) rfl ?_); refine qbx 2 #[.slice A0_0 l0_0.length c0_0] 29 ?_; intro gb260 hg w5 hbox hb; have BK260 := qK (hbox); have GW260 := qK ((qW : w.heap.size ≤ gb260)); have GE260 := GW260; replace HB := qHB HB hb; clear hb hbox hg) | ((with_reducible refine gds (N := 3) rfl ?_); refine qbx 3 #[.slice A1_0 l1_0.length c1_0] 29 ?_; intro gb261 hg w6 hbox hb; have BK261 := qK (hbox); have GW261 := qK ((qW : w.heap.size ≤ gb261)); have GE261 := GW261; replace HB := qHB HB hb; have NB260_261 := qK (qlt BK260 hg); have NB261_260 := qK (qgt BK260 hg); replace BK260 := qbb BK260 hb; clear hb hbox hg; have hnb7 := NB260_261.out; have hnc7 := NB261_260.out; have hz8 := qz1 BK260.out; have hz9 := qz1 BK261.out) | ((with_reducible refine gcl (f := 14) rfl ?_); refine goesL_ (some 9) rfl rfl Tryd.func14 (by kernel_rfl) rfl #[.slice A0_0 l0_0.length c0_0, .slice A1_0 l1_0.length c1_0] rfl qA ?_; (with_reducible refine (laws_eqTableDataS.calls k _ _ l0_0 _ _ l1_0 true _ ?side1 ?side2 ?side3 ?side4 A3.out).mono ?_); (case side1 => exact qC HR0_0); (case side2 => exact HC0_0.out); (case side3 => exact qC HR1_0); (case side4 => exact HC1_0.out); rintro e w10 ⟨rfl, hb⟩; refine ⟨_, rfl, ?_⟩; replace BK260 := qbb BK260 hb; replace BK261 := qbb BK261 hb; replace HB := qHB HB hb; (try clear hb); (try clear hb2); (try clear hk); (try clear hi))); go_ret; exact ⟨qR, qB⟩
  · replace c4 := Bool.eq_false_iff.mpr c4; subst c4; rw [if_neg qff] at H; obtain rfl := Option.some.inj H; go_enter Tryd.func8, Tryd.ntmps8; go_wp2_with (first | ((with_reducible refine gds (N := 2) rfl ?_); refine qbx 2 #[.slice A0_0 l0_0.length c0_0] 29 ?_; intro gb260 hg w11 hbox hb; have BK260 := qK (hbox); have GW260 := qK ((qW : w.heap.size ≤ gb260)); have GE260 := GW260; replace HB := qHB HB hb; clear hb hbox hg) | ((with_reducible refine gds (N := 3) rfl ?_); refine qbx 3 #[.slice A1_0 l1_0.length c1_0] 29 ?_; intro gb261 hg w12 hbox hb; have BK261 := qK (hbox); have GW261 := qK ((qW : w.heap.size ≤ gb261)); have GE261 := GW261; replace HB := qHB HB hb; have NB260_261 := qK (qlt BK260 hg); have NB261_260 := qK (qgt BK260 hg); replace BK260 := qbb BK260 hb; clear hb hbox hg; have hnb13 := NB260_261.out; have hnc13 := NB261_260.out; have hz14 := qz1 BK260.out; have hz15 := qz1 BK261.out) | ((with_reducible refine gcl (f := 14) rfl ?_); refine goesL_ (some 9) rfl rfl Tryd.func14 (by kernel_rfl) rfl #[.slice A0_0 l0_0.length c0_0, .slice A1_0 l1_0.length c1_0] rfl qA ?_; (with_reducible refine (laws_eqTableDataS.calls k _ _ l0_0 _ _ l1_0 false _ ?side1 ?side2 ?side3 ?side4 A3.out).mono ?_); (case side1 => exact qC HR0_0); (case side2 => exact HC0_0.out); (case side3 => exact qC HR1_0); (case side4 => exact HC1_0.out); rintro e w16 ⟨rfl, hb⟩; refine ⟨_, rfl, ?_⟩; replace BK260 := qbb BK260 hb; replace BK261 := qbb BK261 hb; replace HB := qHB HB hb; (try clear hb); (try clear hb2); (try clear hk); (try clear hi))); go_ret; exact ⟨qR, qB⟩
def laws_FnExactDbOK.f (k : Nat) (l0_0 : List (S48)) : Option (Bool) := (laws_szDb.f k l0_0 1048576).bind fun t264 => (if t264 < 0 then (some true) else ((laws_toDb.f k l0_0).bind fun t265 => ((spec_DbOK.f k t265).bind fun t268 => ((laws_toDb.f k l0_0).bind fun t269 => ((impl_DbOK.f t269).bind fun t273 => (if (t273 != t268) = true then (some false) else ((laws_toDb.f k l0_0).bind fun t274 => ((laws_eqDb.f k t269 t274).bind fun t277 => (if t277 = true then (some true) else (some false))))))))))
theorem laws_FnExactDbOK.mono : ∀ a0 k, LeO (laws_FnExactDbOK.f k a0) (laws_FnExactDbOK.f (k + 1) a0) := by
  intro a0 k
  unfold laws_FnExactDbOK.f
  repeat' first
      | (with_reducible exact laws_eqDb.mono _ _ _)
      | (with_reducible exact laws_szDb.mono _ _ _)
      | (with_reducible exact laws_toDb.mono _ _)
      | (with_reducible exact spec_DbOK.mono _ _)
      | (with_reducible exact LeO.refl _)
      | (with_reducible exact LeO.none _)
      | (with_reducible refine LeO.ite ?_ ?_)
      | (with_reducible refine LeO.bind ?_ (fun _ => ?_))
      | exact laws_eqDb.mono _ _ _
      | exact laws_szDb.mono _ _ _
      | exact laws_toDb.mono _ _
      | exact spec_DbOK.mono _ _
      | exact LeO.none _
      | refine LeO.ite ?_ ?_
      | refine LeO.bind ?_ (fun _ => ?_)
set_option maxHeartbeats 8000000 in
set_option maxRecDepth 100000 in
theorem laws_FnExactDbOK.calls (k : Nat) (A0_0 : Option Addr) (c0_0 : Nat) (l0_0 : List (S48)) (r : Bool) (hT : r = true) (w : World) (hG : GOK w) (hr0_0 : Kd.C k48 w A0_0 l0_0.length l0_0) (hc0_0 : l0_0.length ≤ c0_0) (h : laws_FnExactDbOK.f k l0_0 = some r) :
    Calls Tryd.prog 3 #[.agg #[.slice A0_0 l0_0.length c0_0]] w fun e w' => e = .returned (.bool r) ∧ Below w.heap.size w w' := by
  have hu24 := Tryd.underlying24; have hu29 := Tryd.underlying29; have HR0_0 := qK hr0_0; have HC0_0 := qK hc0_0; clear hr0_0 hc0_0; have HB := qK (Below.refl w.heap.size w); have H : ((laws_szDb.f k l0_0 1048576).bind fun t264 => (if t264 < 0 then (some true) else ((laws_toDb.f k l0_0).bind fun t265 => ((spec_DbOK.f k t265).bind fun t268 => ((laws_toDb.f k l0_0).bind fun t269 => ((impl_DbOK.f t269).bind fun t273 => (if (t273 != t268) = true then (some false) else ((laws_toDb.f k l0_0).bind fun t274 => ((laws_eqDb.f k t269 t274).bind fun t277 => (if t277 = true then (some true) else (some false))))))))))) = some r := h; clear h; replace H := Option.bind_eq_some_iff.mp H; obtain ⟨t264, A20, H⟩ := H; have A2 := qK A20; clear A20; by_cases c3 : t264 < 0
  · rw [if_pos c3] at H; have c3b0 : decide (t264 < 0) = true := decide_eq_true c3; clear c3; obtain rfl := Option.some.inj H; go_enter Tryd.func3, Tryd.ntmps3; go_wp2_with (first | ((with_reducible refine gds (N := 1) rfl ?_); refine qbx 1 #[.slice A0_0 l0_0.length c0_0] 24 ?_; intro gb263 hg w4 hbox hb; have BK263 := qK (hbox); have GW263 := qK ((qW : w.heap.size ≤ gb263)); have GE263 := GW263; replace HB := qHB HB hb; clear hb hbox hg; have hz5 := qz1 BK263.out) | ((with_reducible refine gcl (f := 4) rfl ?_); refine goesL_ (some 9) rfl rfl Tryd.func4 (by kernel_rfl) rfl #[.agg #[.slice A0_0 l0_0.length c0_0], .int .i64 1048576] rfl qA ?_; (with_reducible refine (laws_szDb.calls k _ _ l0_0 1048576 t264 _ ?side1 ?side2 A2.out).mono ?_); (case side1 => exact qC HR0_0); (case side2 => exact HC0_0.out); rintro e w6 ⟨rfl, hb⟩; refine ⟨_, rfl, ?_⟩; replace BK263 := qbb BK263 hb; replace HB := qHB HB hb; (try clear hb); (try clear hb2); (try clear hk); (try clear hi))); go_ret; exact ⟨qR, qB⟩
  · rw [if_neg c3] at H; have c3b0 : decide (t264 < 0) = false := decide_eq_false c3; clear c3; replace H := Option.bind_eq_some_iff.mp H; obtain ⟨t265, A70, H⟩ := H; have A7 := qK A70; clear A70; replace H := Option.bind_eq_some_iff.mp H; obtain ⟨t268, A80, H⟩ := H; have A8 := qK A80; clear A80; replace H := Option.bind_eq_some_iff.mp H; obtain ⟨t269, A90, H⟩ := H; have A9 := qK A90; clear A90; replace H := Option.bind_eq_some_iff.mp H; obtain ⟨t273, A100, H⟩ := H; have A10 := qK A100; clear A100; by_cases c11 : (t273 != t268) = true
    · rw [if_pos c11] at H; have c11b0 : (t273 != t268) = true := c11; (try (have c11b1 : decide (t273 = t268) = false := by simpa using c11)); (try (have c11b2 : (t273 == t268) = false := by simpa using c11)); (try (have c11b3 : ¬ (t273 = t268) := by simpa using c11)); clear c11; subst hT; cases H
    · rw [if_neg c11] at H; (have c11b0 : (t273 != t268) = false := by simpa using c11); (try (have c11b1 : decide (t273 = t268) = true := by simpa using c11)); (try (have c11b2 : (t273 == t268) = true := by simpa using c11)); clear c11; replace H := Option.bind_eq_some_iff.mp H; obtain ⟨t274, A260, H⟩ := H; have A26 := qK A260; clear A260; replace H := Option.bind_eq_some_iff.mp H; obtain ⟨t277, A270, H⟩ := H; have A27 := qK A270; clear A270; by_cases c28 : t277 = true
      · subst c28; rw [if_pos rfl] at H; obtain rfl := Option.some.inj H; go_enter Tryd.func3, Tryd.ntmps3; (try go_wp2_with (first | ((with_reducible refine gds (N := 1) rfl ?_); refine qbx 1 #[.slice A0_0 l0_0.length c0_0] 24 ?_; intro gb263 hg w29 hbox hb; have BK263 := qK (hbox); have GW263 := qK ((qW : w.heap.size ≤ gb263)); have GE263 := GW263; replace HB := qHB HB hb; clear hb hbox hg; have hz30 := qz1 BK263.out) | ((with_reducible refine gcl (f := 4) rfl ?_); refine goesL_ (some 9) rfl rfl Tryd.func4 (by kernel_rfl) rfl #[.agg #[.slice A0_0 l0_0.length c0_0], .int .i64 1048576] rfl qA ?_; (with_reducible refine (laws_szDb.calls k _ _ l0_0 1048576 t264 _ ?side1 ?side2 A2.out).mono ?_); (case side1 => exact qC HR0_0); (case side2 => exact HC0_0.out); rintro e w31 ⟨rfl, hb⟩; refine ⟨_, rfl, ?_⟩; replace BK263 := qbb BK263 hb; replace HB := qHB HB hb; (try clear hb); (try clear hb2); (try clear hk); (try clear hi); have hz32 := qz1 BK263.out) | ((with_reducible refine gcl (f := 6) rfl ?_); refine goesL_ (some 13) rfl rfl Tryd.func6 (by kernel_rfl) rfl #[.agg #[.slice A0_0 l0_0.length c0_0]] rfl qA ?_; (with_reducible refine (laws_toDb.calls k _ _ l0_0 t265 _ ?side1 ?side2 A7.out).mono ?_); (case side1 => exact qC HR0_0); (case side2 => exact HC0_0.out); rintro e w33 ⟨v266, rfl, ho0, hb⟩; refine ⟨_, rfl, ?_⟩; have HO267 := qK (Kd.Rlo ho0 (bsz qB)); replace BK263 := qbb BK263 hb; replace HB := qHB HB hb; (try clear hb); (try clear hb2); (try clear hk); (try clear hi); (try clear ho0); obtain ⟨Ao34, co34, eo34⟩ := Kd.R_slice HO267.out; subst eo34) | ((with_reducible refine gcl (f := 5) rfl ?_); refine goesL_ (some 14) rfl rfl Tryd.func5 (by kernel_rfl) rfl #[.agg #[.slice Ao34 t265.length co34]] rfl qA ?_; (with_reducible refine (spec_DbOK.calls k _ _ t265 t268 _ ?side1 ?side2 A8.out).mono ?_); (case side1 => repeat (first | exact (Kd.R_reads' HO267.out).2.2 | (with_reducible refine Kd.Cal ?_ _) | (with_reducible refine Kd.CdN ?_ _) | (with_reducible refine Kd.Cdr ?_))); (case side2 => exact (Kd.R_reads' HO267.out).2.1); rintro e w35 ⟨rfl, hb⟩; refine ⟨_, rfl, ?_⟩; replace HO267 := qK (Kd.Rbe (by (with_reducible repeat (first | apply Kd.Ral | apply Kd.RdN | apply Kd.Rdr)); exact HO267.out) hb); replace BK263 := qbb BK263 hb; replace HB := qHB HB hb; (try clear hb); (try clear hb2); (try clear hk); (try clear hi); have hz36 := qz1 BK263.out) | ((with_reducible refine gcl (f := 6) rfl ?_); refine goesL_ (some 16) rfl rfl Tryd.func6 (by kernel_rfl) rfl #[.agg #[.slice A0_0 l0_0.length c0_0]] rfl qA ?_; (with_reducible refine (laws_toDb.calls k _ _ l0_0 t269 _ ?side1 ?side2 A9.out).mono ?_); (case side1 => exact qC HR0_0); (case side2 => exact HC0_0.out); rintro e w37 ⟨v270, rfl, ho0, hb⟩; refine ⟨_, rfl, ?_⟩; have HO271 := qK (Kd.Rlo (Kd.R_new' ho0 (Kd.R_lt (by (with_reducible repeat (first | apply Kd.Ral | apply Kd.RdN | apply Kd.Rdr)); exact HO267.out))) (bsz qB)); replace HO267 := qK (Kd.R_elder' (by (with_reducible repeat (first | apply Kd.Ral | apply Kd.RdN | apply Kd.Rdr)); exact HO267.out) (Kd.R_base ho0) hb); replace BK263 := qbb BK263 hb; replace HB := qHB HB hb; (try clear hb); (try clear hb2); (try clear hk); (try clear hi); (try clear ho0)) | ((with_reducible refine gds (N := 5) rfl ?_); refine qbx 5 #[.slice none 0 0] 29 ?_; intro gb272 hg w38 hbox hb; replace HO267 := qK (Kd.Rbe (by (with_reducible repeat (first | apply Kd.Ral | apply Kd.RdN | apply Kd.Rdr)); exact HO267.out) hb); replace HO271 := qK (Kd.Rbe (by (with_reducible repeat (first | apply Kd.Ral | apply Kd.RdN | apply Kd.Rdr)); exact HO271.out) hb); have BK272 := qK (hbox); have GW272 := qK ((qW : w.heap.size ≤ gb272)); have GE272 := GW272; replace HB := qHB HB hb; have NB263_272 := qK (qlt BK263 hg); have NB272_263 := qK (qgt BK263 hg); replace BK263 := qbb BK263 hb; clear hb hbox hg; obtain ⟨Ao39, co39, eo39⟩ := Kd.R_slice HO271.out; subst eo39; have hnb40 := NB272_263.out; have hnc40 := NB263_272.out; have hz41 := qz1 BK272.out) | ((with_reducible refine gcl (f := 7) rfl ?_); refine goesL_ (some 18) rfl rfl Tryd.func7 (by kernel_rfl) rfl #[.agg #[.slice Ao39 t269.length co39]] rfl qA ?_; (with_reducible refine (impl_DbOK.calls _ _ t269 t273 _ ?side1 ?side2 ?side3 A10.out).mono ?_); (case side1 => exact GOK.below hG qB); (case side2 => refine (Kd.R_reads' (e := 37) (base := w.heap.size) (ok := fun k_ => (True ∧ some k_ ≠ (.slice Ao34 t265.length co34 : Value).ownBlock)) (n := t269.length) (c := co39) ?_).2.2; exact (by (with_reducible repeat (first | apply Kd.Ral | apply Kd.RdN | apply Kd.Rdr)); exact (Kd.Rmo (Kd.Rfa (p := ⟨gb272, 0, none⟩) (Kd.Rty HO271.out BK272.out (by decide)) (fun _ hk => hk.2) (.slice Ao39 t269.length co39)) (fun _ h_ => h_.1)))); (case side3 => exact (Kd.R_reads' HO271.out).2.1); rintro e w42 ⟨rfl, hb⟩; refine ⟨_, rfl, ?_⟩; replace HO267 := qK (Kd.Rbe (by (with_reducible repeat (first | apply Kd.Ral | apply Kd.RdN | apply Kd.Rdr)); exact (Kd.Rmo (Kd.Rfa (p := ⟨gb272, 0, none⟩) (Kd.Rty HO267.out BK272.out (by decide)) (fun _ hk => hk.2) (.slice Ao39 t269.length co39)) (fun _ h_ => h_.1))) hb); replace HO271 := qK (Kd.Rbe (by (with_reducible repeat (first | apply Kd.Ral | apply Kd.RdN | apply Kd.Rdr)); exact (Kd.Rmo (Kd.Rfa (p := ⟨gb272, 0, none⟩) (Kd.Rty HO271.out BK272.out (by decide)) (fun _ hk => hk.2) (.slice Ao39 t269.length co39)) (fun _ h_ => h_.1))) hb); replace BK263 := qK (bbe (g := gb263) (o := .cells #[.slice A0_0 l0_0.length c0_0] 24 (0, 0)) (by (with_reducible repeat (first | refine bdN ?_ _ | refine bkD ?_ | refine bkA ?_ _)); refine bfa ?_ NB263_272.out _; (with_reducible repeat (first | refine bdN ?_ _ | refine bkD ?_ | refine bkA ?_ _)); exact BK263.out) hb); replace BK272 := qK (bbe (g := gb272) (o := .cells #[.slice Ao39 t269.length co39] 29 (0, 0)) (by (with_reducible repeat (first | refine bdN ?_ _ | refine bkD ?_ | refine bkA ?_ _)); refine bpu (cs := #[.slice none 0 0]) ?_ 0 _ rfl; (with_reducible repeat (first | refine bdN ?_ _ | refine bkD ?_ | refine bkA ?_ _)); exact BK272.out) hb); replace HB := qHB HB hb; (try clear hb); (try clear hb2); (try clear hk); (try clear hi)))); replace HO267 := qK (Kd.Rdr HO267.out); replace HO271 := qK (Kd.Rdr HO271.out); replace BK263 := qK (bkD BK263.out); replace BK272 := qK (bkD BK272.out); replace HB := qK (bd1 HB.out); refine start_ (n := 5) (S := fun w' => w'.cell? ⟨gb272, 0, none⟩ = some (.slice Ao39 t269.length co39) ∧ w'.cell? ⟨gb263, 0, none⟩ = some (.slice A0_0 l0_0.length c0_0)) (ds := []) #[false, false, false, false, false] (by kernel_rfl) rfl rfl ⟨(bce BK272.out 0).trans rfl, (bce BK263.out 0).trans rfl⟩ (fun hHeld => ?_); generalize w42.drew = w43 at HO267 HO271 BK263 BK272 HB hHeld ⊢; refine take_ (i := 0) (N := some 22) (v := ?_) (a' := ?_) #[true, false, false, false, false] rfl rfl (by kernel_rfl) (fun _ _ _ h => h) (Or.inl ⟨by rfl, ?_⟩) hHeld ?_ ?_; rotate_left
        · rintro w' ⟨s0, s1⟩; go_simp; (with_reducible rfl)
        rotate_left
        · simp only [Act.put, List.setIfInBounds_toArray, List.set_cons_zero, List.set_cons_succ, i64_w, i32_w]; rfl
        refine take_ (i := 1) (N := some 23) (v := ?_) (a' := ?_) #[true, true, false, false, false] rfl rfl (by kernel_rfl) (fun _ _ _ h => h) (Or.inl ⟨by rfl, ?_⟩) hHeld ?_ ?_; rotate_left
        · rintro w' ⟨s0, s1⟩; go_simp; (with_reducible rfl)
        rotate_left
        · simp only [Act.put, List.setIfInBounds_toArray, List.set_cons_zero, List.set_cons_succ, i64_w, i32_w]; rfl
        refine one_ (i := 2) (N := some 24) #[true, true, true, false, false] rfl rfl (by kernel_rfl) (by decide) (fun K hK => ?_); refine goes_ Tryd.func6 (by kernel_rfl) rfl #[.agg #[.slice A0_0 l0_0.length c0_0]] (by rfl) rfl rfl qA ?_; (with_reducible refine (laws_toDb.calls k _ _ l0_0 t274 _ ?side1 ?side2 A26.out).mono ?_); (case side1 => exact qC HR0_0); (case side2 => exact HC0_0.out); rintro e w44 ⟨v275, rfl, ho0, hb⟩; refine ⟨_, rfl, ?_⟩; have HO276 := qK (Kd.Rlo (Kd.R_new' (Kd.R_new' ho0 (Kd.R_lt (by (with_reducible repeat (first | apply Kd.Ral | apply Kd.RdN | apply Kd.Rdr)); exact HO267.out))) (Kd.R_lt (by (with_reducible repeat (first | apply Kd.Ral | apply Kd.RdN | apply Kd.Rdr)); exact HO271.out))) (bsz qB)); replace HO267 := qK (Kd.R_elder' (by (with_reducible repeat (first | apply Kd.Ral | apply Kd.RdN | apply Kd.Rdr)); exact HO267.out) (Kd.R_base ho0) hb); replace HO271 := qK (Kd.R_elder' (by (with_reducible repeat (first | apply Kd.Ral | apply Kd.RdN | apply Kd.Rdr)); exact HO271.out) (Kd.R_base ho0) hb); replace BK263 := qbb BK263 hb; replace BK272 := qbb BK272 hb; replace HB := qHB HB hb; (try clear hb); (try clear hb2); (try clear hk); (try clear hi); (try clear ho0); obtain ⟨Ao45, co45, eo45⟩ := Kd.R_slice HO276.out; (first | subst eo45 | (injection eo45 with f1_ f2_ f3_; have f4_ := f1_.symm; have f5_ := f3_.symm; clear f1_ f2_ f3_; subst f4_; subst f5_)); refine hK.out _ _ ⟨(bce BK272.out 0).trans rfl, (bce BK263.out 0).trans rfl⟩ (fun hHeld => ?_); clear hK K; refine norm_ (a' := ?_) ?_ ?_; rotate_left
        · show Act.put _ (some 24) _ = _; simp only [Act.put, List.setIfInBounds_toArray, List.set_cons_zero, List.set_cons_succ, i64_w, i32_w]; rfl
        refine one_ (i := 3) (N := some 25) #[true, true, true, true, false] rfl rfl (by kernel_rfl) (by decide) (fun K hK => ?_); refine goes_ Tryd.func8 (by kernel_rfl) rfl #[.agg #[.slice Ao39 t269.length co39], .agg #[.slice Ao45 t274.length co45]] (by rfl) rfl rfl qA ?_; (with_reducible refine (laws_eqDb.calls k _ _ t269 _ _ t274 true _ ?side1 ?side2 ?side3 ?side4 A27.out).mono ?_); (case side1 => repeat (first | exact (Kd.R_reads' HO271.out).2.2 | (with_reducible refine Kd.Cal ?_ _) | (with_reducible refine Kd.CdN ?_ _) | (with_reducible refine Kd.Cdr ?_))); (case side2 => exact (Kd.R_reads' HO271.out).2.1); (case side3 => repeat (first | exact (Kd.R_reads' HO276.out).2.2 | (with_reducible refine Kd.Cal ?_ _) | (with_reducible refine Kd.CdN ?_ _) | (with_reducible refine Kd.Cdr ?_))); (case side4 => exact (Kd.R_reads' HO276.out).2.1); rintro e w46 ⟨rfl, hb⟩; refine ⟨_, rfl, ?_⟩; replace HO267 := qK (Kd.Rbe (by (with_reducible repeat (first | apply Kd.Ral | apply Kd.RdN | apply Kd.Rdr)); exact HO267.out) hb); replace HO271 := qK (Kd.Rbe (by (with_reducible repeat (first | apply Kd.Ral | apply Kd.RdN | apply Kd.Rdr)); exact HO271.out) hb); replace HO276 := qK (Kd.Rbe (by (with_reducible repeat (first | apply Kd.Ral | apply Kd.RdN | apply Kd.Rdr)); exact HO276.out) hb); replace BK263 := qbb BK263 hb; replace BK272 := qbb BK272 hb; replace HB := qHB HB hb; (try clear hb); (try clear hb2); (try clear hk); (try clear hi); refine hK.out _ _ ⟨(bce BK272.out 0).trans rfl, (bce BK263.out 0).trans rfl⟩ (fun hHeld => ?_); clear hK K; refine norm_ (a' := ?_) ?_ ?_; rotate_left
        · show Act.put _ (some 25) _ = _; simp only [Act.put, List.setIfInBounds_toArray, List.set_cons_zero, List.set_cons_succ, i64_w, i32_w]; rfl
        refine pure_ (i := 4) (N := some 26) (v := ?_) (a' := ?_) #[true, true, true, true, true] rfl rfl (by kernel_rfl) (fun _ _ _ h => h) (Or.inl ⟨by rfl, ?_⟩) ?_ ?_; rotate_left
        · intro w'; go_simp; (with_reducible rfl)
        rotate_left
        · simp only [Act.put, List.setIfInBounds_toArray, List.set_cons_zero, List.set_cons_succ, i64_w, i32_w]; rfl
        refine done_ (by kernel_rfl) ?_; (try go_wp2); go_ret; exact ⟨qR, qB⟩
      · replace c28 := Bool.eq_false_iff.mpr c28; subst c28; rw [if_neg qff] at H; subst hT; cases H
end Go.Proofs.YtoebfjfhdodakaaDoor.L
end
section
set_option linter.unusedVariables false
set_option linter.unusedSimpArgs false
namespace Go.Proofs.YtoebfjfhdodakaaDoor
open Go.RowKit Go.ChangeShapes Go.WideShapes Go.Proofs.YtoebfjfhdodakaaDoorW.PrintWords
/-- Whatever reads as a datum of type t is a value of the kind d that is 'good'. -/
def Opens {α : Type} (P : Program) (t : TypeId) (d : Kd α) (good : α → Prop) : Prop :=
  ∀ (H : Type) (enc : TypeId × Value → H) (W : World) (fuel : Nat) (cs : List Value) (x : DataW H × List MemPlace),
    DataW.trod enc P W 0 (fun _ => true) true fuel t cs = some x → ∃ a, d.K W a cs ∧ good a
theorem opens_int {P : Program} {t : TypeId} {k : IntKind} (ht : P.underlying t = some (.int k)) : Opens P t (Kd.int k) (fun n => (Lit.int k n).wf = true) :=
  fun H enc W fuel cs x h => by
    obtain ⟨n, rfl, _, hw⟩ := DataW.trod_int ht h
    exact ⟨n, rfl, hw⟩
theorem opens_string {P : Program} {t : TypeId} (ht : P.underlying t = some .string) : Opens P t Kd.string (fun s => s.size ≤ maxLen) :=
  fun H enc W fuel cs x h => by
    obtain ⟨n, rfl, _, hw⟩ := DataW.trod_string ht h
    exact ⟨n, rfl, hw⟩
theorem cells_of_some {W : World} {a : Addr} {n : Nat} {cs : List Value} (h : W.cells? 0 a n = some cs) : cs.length = n ∧ ∀ i u, cs[i]? = some u → W.cell? (a.add i) = some u := by
  unfold World.cells? at h
  rw [if_pos (Nat.zero_le _)] at h
  have hl := mapM_some_length h
  rw [List.length_range] at hl
  refine ⟨hl, fun i u hu => ?_⟩
  have hi : i < n := by
    rcases Nat.lt_or_ge i n with h' | h'
    · exact h'
    · rw [List.getElem?_eq_none (by omega)] at hu; cases hu
  have := mapM_some_get h i i (by simp [hi])
  rw [this]; exact hu
theorem opens_slice {α : Type} {P : Program} {t e : TypeId} {d : Kd α} {good : α → Prop} [Inhabited α] (ht : P.underlying t = some (.slice e)) (hc : P.cellsOf e = d.sz) (he : Opens P e d good) :
    Opens P t (Kd.slice e d) (fun l => ∀ a ∈ l, good a) :=
  fun H enc W fuel cs x h => by
    rcases Go.Deep.open_slice ht h with ⟨rfl, _⟩ | ⟨a, len, cap, m, n, D, Pl, rfl, _, hlc, hm, hmm, _, hel⟩
    · exact ⟨[], ⟨none, 0, rfl, Nat.le_refl _, rfl, by simp, fun h => absurd h (by simp)⟩, fun a ha => by cases ha⟩
    · have hmc : m = cap := by simpa using hmm
      subst hmc
      have hx : ∀ i, i < len → ∃ y : α, (∃ cs', W.cells? 0 (a.add (i * P.cellsOf e)) (P.cellsOf e) = some cs' ∧ d.K W y cs') ∧ good y := fun i hi => by
        obtain ⟨cs', h1, h2⟩ := hel i (by omega)
        obtain ⟨y, hy, hg⟩ := he H enc W n cs' _ h2
        exact ⟨y, ⟨cs', h1, hy⟩, hg⟩
      obtain ⟨f, hf⟩ := Go.Deep.choose_lt hx
      have hlen : ((List.range len).map f).length = len := by simp
      refine ⟨(List.range len).map f, ⟨some a, m, by rw [hlen], by rw [hlen]; exact hlc, ?_⟩, fun y hy => ?_⟩
      · refine ⟨rfl, by rw [hlen]; unfold maxLen at hm; omega, fun _ => ⟨a, rfl, fun j p hp => ?_⟩⟩
        have hj : j < len := by
          rcases Nat.lt_or_ge j len with h' | h'
          · exact h'
          · rw [List.getElem?_eq_none (by omega)] at hp; cases hp
        have hpe : f j = p := by simpa [hj] using hp
        obtain ⟨⟨cs', h1, h2⟩, _⟩ := hf j hj
        obtain ⟨hl', hcell⟩ := cells_of_some h1
        refine ⟨cs', by rw [hl', hc], hpe ▸ h2, fun i u hu => ?_⟩
        have := hcell i u hu
        rw [Go.Deep.add_add, hc] at this
        exact this
      · obtain ⟨j, hj, rfl⟩ := List.mem_map.1 hy
        exact (hf j (List.mem_range.1 hj)).2
/-- Two cuts of a list, one behind the other. -/
theorem take_drop_add {α : Type} (cs : List α) (m n : Nat) : (cs.drop m).take n ++ cs.drop (m + n) = cs.drop m := by
  rw [← List.drop_drop]; exact List.take_append_drop n (cs.drop m)
/-- The fields from number i on, of a struct, one kind a field. -/
def OpensF {α : Type} (P : Program) (fs : Array Field) (i off : Nat) (d : Kd α) (good : α → Prop) : Prop :=
  ∀ (H : Type) (enc : TypeId × Value → H) (W : World) (n : Nat) (cs : List Value) (xs : List (DataW H × List MemPlace)), off ≤ cs.length → cs.length - off = d.sz → xs.length = fs.size →
    (∀ (j : Nat) (f : Field), fs[j]? = some f → DataW.trod enc P W 0 (fun _ => true) true n f.type ((cs.drop f.offset).take (P.cellsOf f.type)) = xs[j]?) → ∃ a, d.K W a (cs.drop off) ∧ good a
theorem opensF_last {α : Type} {P : Program} {fs : Array Field} {i off : Nat} {d : Kd α} {good : α → Prop} (f : Field) (hf : fs[i]? = some f) (ho : f.offset = off) (hc : P.cellsOf f.type = d.sz) (h : Opens P f.type d good) :
    OpensF P fs i off d good := fun H enc W n cs xs hle hl hx hg => by
  have hi : i < fs.size := by
    rcases Nat.lt_or_ge i fs.size with h' | h'
    · exact h'
    · rw [Array.getElem?_eq_none h'] at hf; cases hf
  have h1 := hg i f hf
  have hxi : xs[i]? = some (xs[i]'(by omega)) := List.getElem?_eq_getElem (by omega)
  rw [hxi, ho, hc, List.take_of_length_le (by simp; omega)] at h1
  exact h H enc W n _ _ h1
theorem opensF_cons {α β : Type} {P : Program} {fs : Array Field} {i off : Nat} {d : Kd α} {good : α → Prop} {d' : Kd β} {good' : β → Prop} (f : Field) (hf : fs[i]? = some f) (ho : f.offset = off) (hc : P.cellsOf f.type = d.sz)
    (h : Opens P f.type d good) (h' : OpensF P fs (i + 1) (off + d.sz) d' good') : OpensF P fs i off (Kd.pair d d') (fun x => good x.1 ∧ good' x.2) := fun H enc W n cs xs hle hl hx hg => by
  have hi : i < fs.size := by
    rcases Nat.lt_or_ge i fs.size with h' | h'
    · exact h'
    · rw [Array.getElem?_eq_none h'] at hf; cases hf
  have h1 := hg i f hf
  have hxi : xs[i]? = some (xs[i]'(by omega)) := List.getElem?_eq_getElem (by omega)
  rw [hxi, ho, hc] at h1
  obtain ⟨a, ha, hga⟩ := h H enc W n _ _ h1
  have hs : cs.length - off = d.sz + d'.sz := hl
  obtain ⟨b, hb, hgb⟩ := h' H enc W n cs xs (by omega) (by omega) hx hg
  exact ⟨(a, b), ⟨(cs.drop off).take d.sz, cs.drop (off + d.sz), (take_drop_add cs off d.sz).symm, ha, hb⟩, hga, hgb⟩
theorem opens_struct {α : Type} {P : Program} {t : TypeId} {fs : Array Field} {d : Kd α} {good : α → Prop} (ht : P.underlying t = some (.struct fs)) (hc : P.cellsOf t = d.sz) (h : OpensF P fs 0 0 d good) : Opens P t d good :=
  fun H enc W fuel cs x hx => by
    obtain ⟨xs, n, _, _, hl, hxl, hg⟩ := DataW.trod_struct ht hx
    have := h H enc W n cs xs (Nat.zero_le _) (by omega) hxl hg
    simpa using this
theorem len_le {α : Type} {d : Kd α} {W : World} {A : Option Addr} {l : List α} (h : d.C W A l.length l) : l.length ≤ maxLen := by
  have := h.2.1
  unfold maxLen
  omega
theorem inner_len {α : Type} {d : Kd α} {e : Nat} {W : World} {A : Option Addr} {l : List (List α)} (h : (Kd.slice e d).C W A l.length l) : ∀ y ∈ l, y.length ≤ maxLen := fun y hy => by
  obtain ⟨i, hi, rfl⟩ := List.mem_iff_getElem.1 hy
  obtain ⟨ad, c, _, _, hK, _⟩ := Kd.C_get h [] (i : Int) (by omega) (by omega)
  have e2 : l.getD (i : Int).toNat [] = l[i] := by simp [hi]
  rw [e2] at hK
  obtain ⟨A', c', _, _, hC⟩ := hK
  exact len_le hC
theorem elem_K {α : Type} {d : Kd α} {W : World} {A : Option Addr} {l : List α} (h : d.C W A l.length l) (y : α) (hy : y ∈ l) : ∃ cs, d.K W y cs := by
  obtain ⟨i, hi, rfl⟩ := List.mem_iff_getElem.1 hy
  obtain ⟨ad, c, _, _, hK, _⟩ := Kd.C_get h l[i] (i : Int) (by omega) (by omega)
  have e2 : l.getD (i : Int).toNat l[i] = l[i] := by simp [hi]
  rw [e2] at hK
  exact ⟨c, hK⟩
end Go.Proofs.YtoebfjfhdodakaaDoor
end
section
set_option linter.unusedVariables false
namespace Go.Proofs.YtoebfjfhdodakaaDoor
open Go Go.RowKit Go.ChangeShapes Go.WideShapes Go.ChangeAt Go.WideMaps Go.WideElems
theorem kw_named : Tryd.prog.globalNamed "loop.example/s02884/impl.keywords" = some 0 := by kernel_rfl
theorem kw_type : (Tryd.prog.globals[0]?).map (·.type) = some 74 := by kernel_rfl
theorem kw_atKey {H : Type} : ∀ (l : List (List UInt8)) (k : List UInt8) (z : DataW H), (DataW.map (l.map fun x => (Lit.string x, DataW.lit (.bool true)))).atKey (.string k) z = if l.contains k then .lit (.bool true) else z := by
  intro l k z
  induction l with
  | nil => rfl
  | cons x l ih =>
    have hs : (Lit.string x).sameKey (Lit.string k) = (x == k) := rfl
    simp only [DataW.atKey] at ih
    simp only [DataW.atKey, List.map_cons, List.find?_cons, hs, List.contains_cons]
    by_cases h : x = k
    · subst h
      rw [show (x == x) = true from beq_self_eq_true x]
      rfl
    · rw [show (x == k) = false from beq_eq_false_iff_ne.2 h, show (k == x) = false from beq_eq_false_iff_ne.2 (Ne.symm h), Bool.false_or]
      exact ih
theorem kw_datum {H : Type} : (Rows.laid_loop_example_s02884_impl_keywords : DataW H) = .map (kwL.map fun x => (Lit.string x, DataW.lit (.bool true))) := rfl
set_option maxRecDepth 100000 in
theorem gok_of_laid {W : World} (h : laidMetH Tryd.prog [("loop.example/s02884/impl.keywords", Rows.laid_loop_example_s02884_impl_keywords)] W) : GOK W := by
  rw [MakeChecks.laidMetH_plain _ _ _ (by kernel_rfl)] at h
  obtain ⟨ps, ⟨g0, t0, cs0, f0, p0, q0, hg0, ht0, hv0, hd0, _, _⟩, _, _⟩ := h
  obtain rfl := Option.some.inj (kw_named.symm.trans hg0)
  obtain rfl := Option.some.inj (kw_type.symm.trans ht0)
  rcases open_map Tryd.underlying74 hd0 with ⟨_, hx⟩ | ⟨bm, es, clock, m, rfl, hcs, hb, _, F, hx⟩
  · exact absurd (congrArg Prod.fst hx) (by intro e; cases e)
  simp only [Prod.mk.injEq] at hx
  have hcell : W.cell? ⟨0, 0, none⟩ = some (.map (some bm)) := by
    have := World.var?_cell hg0 hv0 0
    rw [Array.eq_one_of_toList hcs] at this
    simpa using this
  refine ⟨bm, es, clock, hcell, hb, fun w' hb' s hs => ?_⟩
  have zero : (zeroValue 4).run Tryd.prog w' = .ok (.bool false) w' := by kernel_rfl
  rcases fit_lookup (w := w') (string_law Tryd.underlying9) Tryd.underlying74 zero hb' F (keyOf_string_mk (s := s) Tryd.underlying9 (by unfold maxLen; omega)) with ⟨hrun, hat⟩ | ⟨v, y, hrun, hRv, hat, _⟩
  · have := hat (.lit (.bool false))
    rw [← hx.1, kw_datum, kw_atKey] at this
    rw [hrun]
    unfold isKw
    cases hc : kwL.contains s.data.toList with
    | false => rfl
    | true => rw [hc] at this; simp at this
  · obtain ⟨r, rfl, rfl⟩ := elemAt_bool Tryd.underlying4 hRv
    have := hat (.lit (.bool false))
    rw [← hx.1, kw_datum, kw_atKey] at this
    rw [hrun]
    unfold isKw
    cases hc : kwL.contains s.data.toList with
    | false => rw [hc] at this; simp at this; rw [← this]
    | true => rw [hc] at this; simp at this; rw [← this]
end Go.Proofs.YtoebfjfhdodakaaDoor
end
section
set_option linter.unusedVariables false
set_option linter.unusedSimpArgs false
namespace Go.Proofs.YtoebfjfhdodakaaDoor.fnExactDbOK
open Go.ChangeShapes Go.WideShapes Go.ChangeAt Go.RowKit Go.Proofs.YtoebfjfhdodakaaDoor Go.Proofs.YtoebfjfhdodakaaDoor.L Go.Proofs.YtoebfjfhdodakaaDoorW.PrintWords
open Go.ChangeMaps (open_string shut_string)
def good79 (x : S79) : Prop := x.f0.size ≤ maxLen ∧ (Lit.int .i64 x.f1).wf = true
instance : Inhabited S79 := ⟨z79⟩
theorem open79 : Opens Tryd.prog 79 k79 good79 := fun H enc W fuel cs x h => by
  obtain ⟨a, ha, hg⟩ := (opens_struct Tryd.underlying79 (by kernel_rfl) (opensF_cons _ rfl rfl (by kernel_rfl) (opens_string Tryd.underlying9) (opensF_last _ rfl rfl (by kernel_rfl) (opens_int Tryd.underlying3)))) H enc W fuel cs x h
  exact ⟨⟨a.1, a.2⟩, ha, hg⟩
def good87 (x : S87) : Prop := (Lit.int .i64 x.f0).wf = true ∧ (Lit.int .i64 x.f1).wf = true ∧ x.f2.size ≤ maxLen
instance : Inhabited S87 := ⟨z87⟩
theorem open87 : Opens Tryd.prog 87 k87 good87 := fun H enc W fuel cs x h => by
  obtain ⟨a, ha, hg⟩ := (opens_struct Tryd.underlying87 (by kernel_rfl) (opensF_cons _ rfl rfl (by kernel_rfl) (opens_int Tryd.underlying3) (opensF_cons _ rfl rfl (by kernel_rfl) (opens_int Tryd.underlying3) (opensF_last _ rfl rfl (by kernel_rfl) (opens_string Tryd.underlying9))))) H enc W fuel cs x h
  exact ⟨⟨a.1, a.2.1, a.2.2⟩, ha, hg⟩
def good48 (x : S48) : Prop := x.f0.size ≤ maxLen ∧ (∀ y ∈ x.f1, good79 y) ∧ (∀ y ∈ x.f2, (∀ z ∈ y, good87 z))
instance : Inhabited S48 := ⟨z48⟩
theorem open48 : Opens Tryd.prog 48 k48 good48 := fun H enc W fuel cs x h => by
  obtain ⟨a, ha, hg⟩ := (opens_struct Tryd.underlying48 (by kernel_rfl) (opensF_cons _ rfl rfl (by kernel_rfl) (opens_string Tryd.underlying9) (opensF_cons _ rfl rfl (by kernel_rfl) (opens_slice Tryd.underlying45 (by kernel_rfl) open79) (opensF_last _ rfl rfl (by kernel_rfl) (opens_slice Tryd.underlying46 (by kernel_rfl) (opens_slice Tryd.underlying81 (by kernel_rfl) open87)))))) H enc W fuel cs x h
  exact ⟨⟨a.1, a.2.1, a.2.2⟩, ha, hg⟩
/-- THE ONE PURE STATEMENT of the law: no memory, no Go. -/
def Pure0 : Prop := ∀ (l0_0 : List (S48)), l0_0.length ≤ maxLen → (∀ y ∈ l0_0, good48 y) → (∀ y ∈ l0_0, y.f1.length ≤ maxLen ∧ y.f2.length ≤ maxLen ∧ (∀ z ∈ y.f2, z.length ≤ maxLen)) → ∃ k, laws_FnExactDbOK.f k l0_0 = some true
theorem own : ownKnob Tryd.prog.godebug = none := by kernel_rfl
theorem laidOut : laidOutB Tryd.prog = true := by kernel_rfl
/-- The door's own heap meets the condition. -/
theorem door_met (os : Os) (args : Array Value) : laidMetH Tryd.prog Rows.fnExactDbOKRow.laid ((World.doorLaid Tryd.prog 99 os).forCall (fun _ _ => 0) ⟨#[], args, []⟩).memory :=
  laidMetH_of_parts3 (fuel := 8) (laidMet_of_run' 8 (by kernel_rfl) (by kernel_rfl)) (by kernel_rfl) (by kernel_rfl)
set_option maxRecDepth 100000 in
theorem lifted (Q : Pure0) (os : Os) (started : os.Started) (H : Type) (enc : TypeId × Value → H) :
    ReturnsInHanded {} Tryd.checked os 3 .any (fun w args => (Rows.fnExactDbOKSpec.pre enc Tryd.prog Tryd.f3 [] false w args ∧ laidMetH Tryd.prog Rows.fnExactDbOKRow.laid w) ∧ sizedMet enc Tryd.prog Tryd.f3 (OpenSpec.ofChange Rows.fnExactDbOKSpec) false w args) (Rows.fnExactDbOKSpec.post enc Tryd.prog Tryd.f3 false true false false) := by
  refine returnsInHanded_of_change_and (C := Tryd.checked) (X := fun w _ => laidMetH Tryd.prog Rows.fnExactDbOKRow.laid w) (fun _ _ _ hh h => h.of_heap hh) own started (by kernel_rfl) Tryd.func3
    (ChangeSpec.witness_shaped (enc := enc) (C := Tryd.checked) (os := os) (X := fun w _ => laidMetH Tryd.prog Rows.fnExactDbOKRow.laid w) false (World.doorLaid Tryd.prog 99 os) #[.agg #[.slice none 0 0]] 8 rfl (World.shaped_of_RefB (by kernel_rfl) (by kernel_rfl)) (by kernel_rfl) (by kernel_rfl) (by kernel_rfl) (door_met os _)) ?_
  intro W base args ds gs before hval0 hW _ _ hL _
  have hval : ∀ (j : Nat) t v, Tryd.f3.params[j]? = some t → args[j]? = some v → Value.okWide Tryd.prog W .any base t v := hval0
  have hW' := hW
  obtain ⟨p, q, hA0, hV, rfl, hfz, hnd⟩ := hW
  have hA : DataW.TrodAll enc Tryd.prog W 0 (fun _ => true) true Tryd.f3.params.toList args.toList ds p := hA0
  rw [Tryd.params3] at hA hval
  obtain ⟨v0, vs0, d0, ds0, p0, q0, hargs, rfl, rfl, h0, r0⟩ := trodAll_cons hA
  obtain ⟨rfl, rfl, rfl⟩ := trodAll_nil r0
  obtain rfl : args = #[v0] := by cases args; simp_all
  have hV' := hV
  obtain ⟨g_, t_, cs_, fuel_, dg1, p_, rfl, _⟩ := trodVars_one hV'
  have hG := gok_of_laid hL
  have k0 := h0
  have lt0 : ∀ x ∈ p0, x.block < W.heap.size := by obtain ⟨m, hm⟩ := k0; exact DataW.trod_lt m _ _ _ hm
  obtain ⟨cs0, rfl, hsz0⟩ := okWide_struct Tryd.underlying24 (hval 0 24 v0 rfl rfl)
  obtain ⟨fuel0, hf0⟩ := h0
  obtain ⟨x0, hK0, hg0⟩ := (opens_struct Tryd.underlying24 (by kernel_rfl) (opensF_last _ rfl rfl (by kernel_rfl) (opens_slice Tryd.underlying22 (by kernel_rfl) open48))) H enc W fuel0 cs0.toList _ (by simpa [Value.cells] using hf0)
  obtain ⟨A0_0, c0_0, hcs0, hc0_0, hr0_0⟩ := hK0
  obtain rfl : cs0 = #[.slice A0_0 x0.length c0_0] := by
    have h_ := congrArg List.toArray hcs0
    simpa using h_
  clear hcs0 hsz0
  clear hA0 hval0
  obtain ⟨k, hk⟩ := Q x0 (len_le hr0_0) hg0 (fun y hy => by obtain ⟨cs_, hk_⟩ := elem_K hr0_0 y hy; obtain ⟨A1_, c1_, A2_, c2_, _, _, h1_, _, h2_⟩ := k48_open hk_; exact ⟨len_le h1_, len_le h2_, inner_len h2_⟩)
  refine (laws_FnExactDbOK.calls k A0_0 c0_0 x0 true rfl W hG hr0_0 hc0_0 hk).mono fun e W' he => ?_
  obtain ⟨rfl, bel0⟩ := he
  have bel : Below W.heap.size W W' := bel0
  exact ⟨_, rfl, _, _, _, [], _, _, hW', trodAll_mk1 (shut_bool Tryd.underlying4 _), (trodAll_cons_mk (Below.trod laidOut (by kernel_rfl) (of_decide_eq_true (by kernel_rfl)) k0 bel lt0) trodAll_mk0), Below.trodVars laidOut bel (by kernel_rfl) hV, bel.frame _, fun h => by cases h⟩
theorem over (Q : Pure0) : Rows.fnExactDbOKRow.holds Tryd.pinned (OpenSpec.ofChange Rows.fnExactDbOKSpec) :=
  OpenClaim.holds_of_wide 3 Tryd.f3 rfl rfl rfl rfl rfl rfl rfl ⟨rfl, rfl, rfl, rfl, rfl⟩ rfl rfl rfl rfl rfl (by kernel_rfl) Tryd.func3 (by kernel_rfl)
    (of_decide_eq_true (by kernel_rfl)) (by unfold Func.isWrapper; first | (rw [if_pos (by decide +kernel)]; kernel_rfl) | (rw [if_neg (by decide +kernel)]; exact ⟨rfl, rfl⟩))
    (fun os started H enc _ => lifted Q os started H enc)
/-- The tied card. -/
theorem card (Q : Pure0) : Rows.FnExactDbOKCardSaid :=
  Claim7.holds_tied_plain_at .later [] [.mapped] true (true, "aa5aa4e88441e77da679080cf5ea670a42f3eef4f38095bbbfe98b5567f9d8fe") false (over Q) (fun _ h => by cases h) (by kernel_rfl) (fun _ h => by cases h) fnExactDbOK_row_tie rfl ⟨rfl, rfl⟩ (by kernel_rfl) rfl
    (fun f fn hf hfn => by
      obtain rfl : f = 3 := Option.some.inj ((show Tryd.prog.funcNamed "loop.example/s02884/laws.FnExactDbOK" = some 3 by kernel_rfl).symm.trans hf) |>.symm
      obtain rfl : fn = Tryd.f3 := (Option.some.inj (Tryd.func3.symm.trans hfn)).symm
      refine ⟨by kernel_rfl, fun j t ht => ?_⟩
      rw [Tryd.params3] at ht
      have ha : (#[24] : Array TypeId).all (fun t => !Tryd.prog.wantsStandIn t) = true := by kernel_rfl
      have h1 := (Array.all_eq_true_iff_forall_mem.1 ha) t (Array.mem_of_getElem? ht)
      have h2 : Tryd.prog.wantsStandIn t = false := by simpa using h1
      exact h2)
    (by kernel_rfl)
end Go.Proofs.YtoebfjfhdodakaaDoor.fnExactDbOK
end
section
set_option linter.unusedVariables false
namespace Go.Proofs.YtoebfjfhdodakaaDoor.Pure
open Go Go.RowKit Go.Proofs.YtoebfjfhdodakaaDoor Go.Proofs.YtoebfjfhdodakaaDoorW.PrintWords
theorem w64 (x : Int) (h : -9223372036854775808 ≤ x ∧ x ≤ 9223372036854775807) : wrap64 x = x := by unfold wrap64; omega
theorem wsucc (i : Nat) (h : i < 9223372036854775807) : wrap64 ((i : Int) + 1) = ((i + 1 : Nat) : Int) := by unfold wrap64; omega
theorem rdS (l : List ByteArray) (i : Nat) (h : i < l.length) : rdOf ByteArray.empty l (i : Int) = l[i] := by
  simp [rdOf, List.getD, h]
end Go.Proofs.YtoebfjfhdodakaaDoor.Pure
end
section
set_option linter.unusedVariables false
set_option linter.unusedSimpArgs false
namespace Go.Proofs.YtoebfjfhdodakaaDoor.Gen
open Go Go.RowKit Go.Proofs.YtoebfjfhdodakaaDoor Go.Proofs.YtoebfjfhdodakaaDoorW.PrintWords
/-- The sum of the elements' weights. -/
def sumW {α : Type} (w : α → Nat) (l : List α) : Nat := (l.map w).sum
theorem sumW_drop {α : Type} (w : α → Nat) (l : List α) (i : Nat) (h : i < l.length) : sumW w (l.drop i) = w l[i] + sumW w (l.drop (i + 1)) := by
  rw [show l.drop i = l[i] :: l.drop (i + 1) from List.drop_eq_getElem_cons h]
  rfl
theorem mem_sumW {α : Type} (w : α → Nat) (l : List α) (x : α) (h : x ∈ l) : w x ≤ sumW w l := by
  induction l with
  | nil => cases h
  | cons y l ih =>
    have e : sumW w (y :: l) = w y + sumW w l := rfl
    rcases List.mem_cons.1 h with rfl | h
    · omega
    · have := ih h; omega
theorem sz {α : Type} (w : α → Nat) (F : Nat → List α → Int → Int → Option Int) (E : Nat → α → Int → Option Int) (l : List α) (B : Int)
    (hs : ∀ k a (i : Nat) (h : i < l.length), F (k + 1) l a (i : Int) = (E k l[i] a).bind fun t => if t < 0 then some (-1) else F k l t ((i + 1 : Nat) : Int))
    (hz : ∀ k a, F (k + 1) l a (l.length : Int) = some a)
    (hE : ∀ x ∈ l, ∀ a, 0 ≤ a → a ≤ B → Ev (fun k => E k x a) (if (w x : Int) ≤ a then a - w x else -1)) (d : Nat) :
    ∀ (i : Nat) (a : Int), i + d = l.length → 0 ≤ a → a ≤ B → Ev (fun k => F k l a (i : Int)) (if (sumW w (l.drop i) : Int) ≤ a then a - sumW w (l.drop i) else -1) := by
  induction d with
  | zero =>
    intro i a hi h0 h1
    have hd : l.drop i = [] := List.drop_eq_nil_of_le (by omega)
    obtain rfl : i = l.length := by omega
    refine Ev.step (f := fun _ => some a) (fun k => hz k a) ?_
    rw [hd]
    have e : sumW w ([] : List α) = 0 := rfl
    rw [e, if_pos (by omega)]
    simpa using Ev.now a
  | succ d ih =>
    intro i a hi h0 h1
    have hil : i < l.length := by omega
    have hsum := sumW_drop w l i hil
    refine Ev.step (fun k => hs k a i hil) ?_
    refine (hE _ (List.getElem_mem hil) a h0 h1).bind ?_
    by_cases hc : (w l[i] : Int) ≤ a
    · simp only [if_pos hc, if_neg (show ¬ (a - (w l[i] : Int) < 0) by omega)]
      have := ih (i + 1) (a - (w l[i] : Int)) (by omega) (by omega) (by omega)
      have e1 : ((sumW w (l.drop (i + 1)) : Int) ≤ a - (w l[i] : Int)) ↔ ((sumW w (l.drop i) : Int) ≤ a) := by rw [hsum]; omega
      have e2 : a - (w l[i] : Int) - (sumW w (l.drop (i + 1)) : Int) = a - (sumW w (l.drop i) : Int) := by rw [hsum]; omega
      rw [e2] at this
      simpa only [e1] using this
    · simp only [if_neg hc, if_pos (show (-1 : Int) < 0 by decide)]
      rw [if_neg (by rw [hsum]; omega)]
      exact Ev.now _
theorem copy {α β : Type} (cv : α → β) (F : Nat → List α → List β → Int → Option (List β)) (E : Nat → α → Option β) (l : List α)
    (hs : ∀ k o (i : Nat) (h : i < l.length), o.length = l.length → F (k + 1) l o (i : Int) = (E k l[i]).bind fun t => F k l (o.set i t) ((i + 1 : Nat) : Int))
    (hz : ∀ k o, F (k + 1) l o (l.length : Int) = some o)
    (hE : ∀ x ∈ l, Ev (fun k => E k x) (cv x)) (d : Nat) :
    ∀ (i : Nat) (o : List β), i + d = l.length → o.length = l.length → (∀ j, j < i → o[j]? = (l.map cv)[j]?) → Ev (fun k => F k l o (i : Int)) (l.map cv) := by
  induction d with
  | zero =>
    intro i o hi ho hx
    have e : o = l.map cv := by
      apply List.ext_getElem?
      intro j
      by_cases hj : j < i
      · exact hx j hj
      · rw [List.getElem?_eq_none (by omega), List.getElem?_eq_none (by rw [List.length_map]; omega)]
    obtain rfl : i = l.length := by omega
    rw [← e]
    exact Ev.step (f := fun _ => some o) (fun k => hz k o) (Ev.now _)
  | succ d ih =>
    intro i o hi ho hx
    have hil : i < l.length := by omega
    refine Ev.step (fun k => hs k o i hil ho) ?_
    refine (hE _ (List.getElem_mem hil)).bind ?_
    refine ih (i + 1) (o.set i (cv l[i])) (by omega) (by rw [List.length_set]; exact ho) (fun j hj => ?_)
    rw [List.getElem?_set]
    by_cases h : i = j
    · subst h; simp [hil, ho]
    · rw [if_neg h]; exact hx j (by omega)
theorem eq {α : Type} (F : Nat → List α → List α → Int → Option Bool) (E : Nat → α → Option Bool) (l : List α)
    (hs : ∀ k (i : Nat) (h : i < l.length), F (k + 1) l l (i : Int) = (E k l[i]).bind fun t => if t = true then F k l l ((i + 1 : Nat) : Int) else some false)
    (hz : ∀ k, F (k + 1) l l (l.length : Int) = some true)
    (hE : ∀ x ∈ l, Ev (fun k => E k x) true) (d : Nat) : ∀ (i : Nat), i + d = l.length → Ev (fun k => F k l l (i : Int)) true := by
  induction d with
  | zero =>
    intro i hi
    obtain rfl : i = l.length := by omega
    exact Ev.step (f := fun _ => some true) (fun k => hz k) (Ev.now _)
  | succ d ih =>
    intro i hi
    have hil : i < l.length := by omega
    refine Ev.step (fun k => hs k i hil) ?_
    refine (hE _ (List.getElem_mem hil)).bind ?_
    simp only [if_true]
    exact ih (i + 1) (by omega)
end Go.Proofs.YtoebfjfhdodakaaDoor.Gen
end
section
set_option linter.unusedVariables false
set_option linter.unusedSimpArgs false
namespace Go.Proofs.YtoebfjfhdodakaaDoor.Pure
open Go Go.RowKit Go.Proofs.YtoebfjfhdodakaaDoor Go.Proofs.YtoebfjfhdodakaaDoor.L Go.Proofs.YtoebfjfhdodakaaDoorW.PrintWords Go.Proofs.YtoebfjfhdodakaaDoorW.PrintMore Go.Proofs.YtoebfjfhdodakaaDoorW.PrintLast
abbrev LCol := S79
abbrev LVal := S87
abbrev Col := S52
abbrev Val := S57
def cvC (x : LCol) : Col := ⟨x.f0, x.f1⟩
def cvV (x : LVal) : Val := ⟨x.f0, x.f1, x.f2⟩
def wC (x : LCol) : Nat := x.f0.size
def wV (x : LVal) : Nat := x.f2.size
def wtL {α : Type} (w : α → Nat) (l : List α) : Nat := l.length + Gen.sumW w l
theorem rdLC (l : List LCol) (i : Nat) (h : i < l.length) : rd_T79 l (i : Int) = l[i] := by simp [rd_T79, h]
theorem rdLV (l : List LVal) (i : Nat) (h : i < l.length) : rd_T87 l (i : Int) = l[i] := by simp [rd_T87, h]
theorem rdCol (l : List Col) (i : Nat) (h : i < l.length) : rd_T52 l (i : Int) = l[i] := by simp [rd_T52, h]
theorem rdVal (l : List Val) (i : Nat) (h : i < l.length) : rd_T57 l (i : Int) = l[i] := by simp [rd_T57, h]
abbrev LTab := S48
abbrev Tab := S37
theorem rdLVV (l : List (List LVal)) (i : Nat) (h : i < l.length) : rd_L4 l (i : Int) = l[i] := by simp [rd_L4, h]
theorem rdVV (l : List (List Val)) (i : Nat) (h : i < l.length) : rd_L10 l (i : Int) = l[i] := by simp [rd_L10, h]
theorem rdLT (l : List LTab) (i : Nat) (h : i < l.length) : rd_T48 l (i : Int) = l[i] := by simp [rd_T48, h]
theorem rdTab (l : List Tab) (i : Nat) (h : i < l.length) : rd_T37 l (i : Int) = l[i] := by simp [rd_T37, h]
theorem szf {α : Type} (w : α → Nat) (F : Nat → List α → Int → Int → Option Int) (G : Nat → Option Int) (l : List α) (a : Int) (hl : l.length ≤ 9223372036854775807) (h0 : 0 ≤ a) (h1 : a ≤ 1048576)
    (hG : ∀ k, G k = if (wrap64 (a - (l.length : Int))) < 0 then some (-1) else F k l (wrap64 (a - (l.length : Int))) 0)
    (h : ∀ b, 0 ≤ b → b ≤ 1048576 → Ev (fun k => F k l b ((0 : Nat) : Int)) (if (Gen.sumW w (l.drop 0) : Int) ≤ b then b - Gen.sumW w (l.drop 0) else -1)) :
    Ev G (if (wtL w l : Int) ≤ a then a - wtL w l else -1) := by
  refine Ev.congr hG ?_
  simp only [w64 (a - (l.length : Int)) (by omega)]
  by_cases hc : a - (l.length : Int) < 0
  · simp only [if_pos hc]
    rw [if_neg (by unfold wtL; omega)]
    exact Ev.now _
  · simp only [if_neg hc]
    have h := h (a - (l.length : Int)) (by omega) (by omega)
    simp only [List.drop_zero] at h
    have e1 : ((Gen.sumW w l : Int) ≤ a - (l.length : Int)) ↔ ((wtL w l : Int) ≤ a) := by unfold wtL; omega
    have e2 : a - (l.length : Int) - (Gen.sumW w l : Int) = a - (wtL w l : Int) := by unfold wtL; omega
    rw [e2] at h
    simp only [e1] at h
    exact h
theorem szColumn_ev (l : List LCol) (a : Int) (hl : l.length ≤ 9223372036854775807) (hs : ∀ y ∈ l, y.f0.size ≤ 9223372036854775807) (h0 : 0 ≤ a) (h1 : a ≤ 1048576) :
    Ev (fun k => laws_szColumnS.f k l a) (if (wtL wC l : Int) ≤ a then a - wtL wC l else -1) := by
  refine szf wC (fun k l a i => laws_szColumnS.l0 k l a i) _ l a (by omega) h0 h1 (fun k => rfl) (fun b hb0 hb1 => ?_)
  refine Gen.sz wC (fun k l a i => laws_szColumnS.l0 k l a i) (fun k x a => laws_szColumn.f x.f0 x.f1 a) l 1048576 (fun k a i h => ?_) (fun k a => ?_) (fun x hx a h0 h1 => ?_) l.length 0 b (by omega) hb0 hb1
  · rw [laws_szColumnS.l0, if_pos (by omega), if_pos (by omega), rdLC l i h, wsucc i (by omega)]
  · rw [laws_szColumnS.l0, if_neg (by omega)]
  · have := hs x hx
    unfold laws_szColumn.f
    rw [w64 (a - (x.f0.size : Int)) (by omega)]
    by_cases hc : a - (x.f0.size : Int) < 0
    · rw [if_pos hc, if_neg (show ¬ ((wC x : Nat) : Int) ≤ a by unfold wC; omega)]; exact Ev.now _
    · rw [if_neg hc, if_pos (show ((wC x : Nat) : Int) ≤ a by unfold wC; omega)]; exact Ev.now _
theorem toColumn_ev (l : List LCol) (hl : l.length ≤ 1048576) : Ev (fun k => laws_toColumnS.f k l) (l.map cvC) := by
  refine Ev.congr (fun k => ?_) (Gen.copy cvC (fun k l o i => laws_toColumnS.l0 k l o i) (fun k x => some (cvC x)) l (fun k o i h ho => ?_) (fun k o => ?_) (fun x hx => Ev.now _) l.length 0 (List.replicate l.length z52) (by omega) List.length_replicate (fun j hj => by omega))
  · unfold laws_toColumnS.f
    rw [if_pos (by omega), if_pos (by omega)]
    simp
  · rw [laws_toColumnS.l0, if_pos (by omega), if_pos (by omega), rdLC l i h]
    unfold laws_toColumn.f
    rw [Option.bind_some, if_pos (by omega), wsucc i (by omega)]
    rfl
  · rw [laws_toColumnS.l0, if_neg (by omega)]
theorem eqColumn_ev (l : List Col) (hl : l.length ≤ 9223372036854775807) : Ev (fun k => laws_eqColumnS.f k l l) true := by
  refine Ev.congr (fun k => ?_) (Gen.eq (fun k a b i => laws_eqColumnS.l0 k a b i) (fun k x => some true) l (fun k i h => ?_) (fun k => ?_) (fun x hx => Ev.now _) l.length 0 (by omega))
  · unfold laws_eqColumnS.f
    rw [if_pos rfl]
    rfl
  · rw [laws_eqColumnS.l0, if_pos (by omega), if_pos (by omega), if_pos (by omega), wsucc i (by omega)]
    unfold laws_eqColumn.f
    simp only [if_true]
  · rw [laws_eqColumnS.l0, if_neg (by omega)]
theorem szValue_ev (l : List LVal) (a : Int) (hl : l.length ≤ 9223372036854775807) (hs : ∀ y ∈ l, y.f2.size ≤ 9223372036854775807) (h0 : 0 ≤ a) (h1 : a ≤ 1048576) :
    Ev (fun k => laws_szValueS.f k l a) (if (wtL wV l : Int) ≤ a then a - wtL wV l else -1) := by
  refine szf wV (fun k l a i => laws_szValueS.l0 k l a i) _ l a (by omega) h0 h1 (fun k => rfl) (fun b hb0 hb1 => ?_)
  refine Gen.sz wV (fun k l a i => laws_szValueS.l0 k l a i) (fun k x a => laws_szValue.f x.f0 x.f1 x.f2 a) l 1048576 (fun k a i h => ?_) (fun k a => ?_) (fun x hx a h0 h1 => ?_) l.length 0 b (by omega) hb0 hb1
  · rw [laws_szValueS.l0, if_pos (by omega), if_pos (by omega), rdLV l i h, wsucc i (by omega)]
  · rw [laws_szValueS.l0, if_neg (by omega)]
  · have := hs x hx
    unfold laws_szValue.f
    rw [w64 (a - (x.f2.size : Int)) (by omega)]
    by_cases hc : a - (x.f2.size : Int) < 0
    · rw [if_pos hc, if_neg (show ¬ ((wV x : Nat) : Int) ≤ a by unfold wV; omega)]; exact Ev.now _
    · rw [if_neg hc, if_pos (show ((wV x : Nat) : Int) ≤ a by unfold wV; omega)]; exact Ev.now _
theorem toValue_ev (l : List LVal) (hl : l.length ≤ 1048576) : Ev (fun k => laws_toValueS.f k l) (l.map cvV) := by
  refine Ev.congr (fun k => ?_) (Gen.copy cvV (fun k l o i => laws_toValueS.l0 k l o i) (fun k x => some (cvV x)) l (fun k o i h ho => ?_) (fun k o => ?_) (fun x hx => Ev.now _) l.length 0 (List.replicate l.length z57) (by omega) List.length_replicate (fun j hj => by omega))
  · unfold laws_toValueS.f
    rw [if_pos (by omega), if_pos (by omega)]
    simp
  · rw [laws_toValueS.l0, if_pos (by omega), if_pos (by omega), rdLV l i h]
    unfold laws_toValue.f
    rw [Option.bind_some, if_pos (by omega), wsucc i (by omega)]
    rfl
  · rw [laws_toValueS.l0, if_neg (by omega)]
theorem eqValue_ev (l : List Val) (hl : l.length ≤ 9223372036854775807) : Ev (fun k => laws_eqValueS.f k l l) true := by
  refine Ev.congr (fun k => ?_) (Gen.eq (fun k a b i => laws_eqValueS.l0 k a b i) (fun k x => some true) l (fun k i h => ?_) (fun k => ?_) (fun x hx => Ev.now _) l.length 0 (by omega))
  · unfold laws_eqValueS.f
    rw [if_pos rfl]
    rfl
  · rw [laws_eqValueS.l0, if_pos (by omega), if_pos (by omega), if_pos (by omega), wsucc i (by omega)]
    unfold laws_eqValue.f
    simp only [if_true]
  · rw [laws_eqValueS.l0, if_neg (by omega)]
def wVV (l : List LVal) : Nat := wtL wV l
def cvVV (l : List LVal) : List Val := l.map cvV
theorem szValueSS_ev (l : List (List LVal)) (a : Int) (hl : l.length ≤ 9223372036854775807) (hs : ∀ y ∈ l, y.length ≤ 9223372036854775807 ∧ ∀ z ∈ y, z.f2.size ≤ 9223372036854775807) (h0 : 0 ≤ a) (h1 : a ≤ 1048576) :
    Ev (fun k => laws_szValueSS.f k l a) (if (wtL wVV l : Int) ≤ a then a - wtL wVV l else -1) := by
  refine szf wVV (fun k l a i => laws_szValueSS.l0 k l a i) _ l a (by omega) h0 h1 (fun k => rfl) (fun b hb0 hb1 => ?_)
  refine Gen.sz wVV (fun k l a i => laws_szValueSS.l0 k l a i) (fun k x a => laws_szValueS.f k x a) l 1048576 (fun k a i h => ?_) (fun k a => ?_) (fun x hx a h0 h1 => ?_) l.length 0 b (by omega) hb0 hb1
  · rw [laws_szValueSS.l0, if_pos (by omega), if_pos (by omega), rdLVV l i h, wsucc i (by omega)]
  · rw [laws_szValueSS.l0, if_neg (by omega)]
  · exact szValue_ev x a (hs x hx).1 (hs x hx).2 h0 h1
theorem toValueSS_ev (l : List (List LVal)) (hl : l.length ≤ 1048576) (hs : ∀ y ∈ l, y.length ≤ 1048576) : Ev (fun k => laws_toValueSS.f k l) (l.map cvVV) := by
  refine Ev.congr (fun k => ?_) (Gen.copy cvVV (fun k l o i => laws_toValueSS.l0 k l o i) (fun k x => laws_toValueS.f k x) l (fun k o i h ho => ?_) (fun k o => ?_) (fun x hx => toValue_ev x (hs x hx)) l.length 0 (List.replicate l.length []) (by omega) List.length_replicate (fun j hj => by omega))
  · unfold laws_toValueSS.f
    rw [if_pos (by omega), if_pos (by omega)]
    simp
  · rw [laws_toValueSS.l0, if_pos (by omega), if_pos (by omega), rdLVV l i h]
    simp only [if_pos (show (i : Int) < (o.length : Int) by omega), wsucc i (show i < 9223372036854775807 by omega), Int.toNat_natCast]
  · rw [laws_toValueSS.l0, if_neg (by omega)]
theorem eqValueSS_ev (l : List (List Val)) (hl : l.length ≤ 9223372036854775807) (hs : ∀ y ∈ l, y.length ≤ 9223372036854775807) : Ev (fun k => laws_eqValueSS.f k l l) true := by
  refine Ev.congr (fun k => ?_) (Gen.eq (fun k a b i => laws_eqValueSS.l0 k a b i) (fun k x => laws_eqValueS.f k x x) l (fun k i h => ?_) (fun k => ?_) (fun x hx => eqValue_ev x (hs x hx)) l.length 0 (by omega))
  · unfold laws_eqValueSS.f
    rw [if_pos rfl]
    rfl
  · rw [laws_eqValueSS.l0, if_pos (by omega), if_pos (by omega), if_pos (by omega), rdVV l i h, wsucc i (by omega)]
  · rw [laws_eqValueSS.l0, if_neg (by omega)]
def wT (x : LTab) : Nat := x.f0.size + wtL wC x.f1 + wtL wVV x.f2
def cvT (x : LTab) : Tab := ⟨x.f0, x.f1.map cvC, x.f2.map cvVV⟩
/-- What is asked of a table's lengths. -/
def TabIn (x : LTab) : Prop := x.f0.size ≤ 9223372036854775807 ∧ (x.f1.length ≤ 9223372036854775807 ∧ ∀ y ∈ x.f1, y.f0.size ≤ 9223372036854775807) ∧ (x.f2.length ≤ 9223372036854775807 ∧ ∀ y ∈ x.f2, y.length ≤ 9223372036854775807 ∧ ∀ z ∈ y, z.f2.size ≤ 9223372036854775807)
theorem szTab_ev (x : LTab) (a : Int) (h : TabIn x) (h0 : 0 ≤ a) (h1 : a ≤ 1048576) : Ev (fun k => laws_szTableData.f k x.f0 x.f1 x.f2 a) (if (wT x : Int) ≤ a then a - wT x else -1) := by
  obtain ⟨g1, ⟨g2, g2s⟩, ⟨g3, g3s⟩⟩ := h
  have bad : ¬ ((wT x : Int) ≤ a) → Ev (fun _ => some (-1 : Int)) (if (wT x : Int) ≤ a then a - wT x else -1) := fun hb => by
    rw [if_neg hb]; exact Ev.now _
  unfold laws_szTableData.f
  have n1 : (-1 : Int) < 0 := by decide
  have w1 : wrap64 (a - (x.f0.size : Int)) = a - (x.f0.size : Int) := w64 _ (by omega)
  simp only [w1]
  by_cases c1 : a - (x.f0.size : Int) < 0
  · simp only [if_pos c1]; exact bad (by unfold wT; omega)
  simp only [if_neg c1]
  refine (szColumn_ev x.f1 (a - (x.f0.size : Int)) g2 g2s (by omega) (by omega)).bind ?_
  by_cases c2 : (wtL wC x.f1 : Int) ≤ a - (x.f0.size : Int)
  case neg => simp only [if_neg c2, if_pos n1]; exact bad (by unfold wT; omega)
  obtain ⟨m2, hm2⟩ : ∃ m2, a - (x.f0.size : Int) - (wtL wC x.f1 : Int) = m2 := ⟨_, rfl⟩
  simp only [if_pos c2, hm2, if_neg (show ¬ m2 < 0 by omega)]
  refine (szValueSS_ev x.f2 m2 g3 g3s (by omega) (by omega)).bind ?_
  by_cases c3 : (wtL wVV x.f2 : Int) ≤ m2
  case neg => simp only [if_neg c3, if_pos n1]; exact bad (by unfold wT; omega)
  simp only [if_pos c3, if_neg (show ¬ (m2 - (wtL wVV x.f2 : Int) < 0) by omega)]
  rw [if_pos (show (wT x : Int) ≤ a by unfold wT; omega)]
  have e : a - (wT x : Int) = m2 - (wtL wVV x.f2 : Int) := by unfold wT; omega
  rw [e]
  exact Ev.now _
theorem szDb_ev (l : List LTab) (a : Int) (hl : l.length ≤ 9223372036854775807) (hs : ∀ y ∈ l, TabIn y) (h0 : 0 ≤ a) (h1 : a ≤ 1048576) :
    Ev (fun k => laws_szDb.f k l a) (if (wtL wT l : Int) ≤ a then a - wtL wT l else -1) := by
  have key : Ev (fun k => laws_szTableDataS.f k l a) (if (wtL wT l : Int) ≤ a then a - wtL wT l else -1) := by
    refine szf wT (fun k l a i => laws_szTableDataS.l0 k l a i) _ l a (by omega) h0 h1 (fun k => rfl) (fun b hb0 hb1 => ?_)
    refine Gen.sz wT (fun k l a i => laws_szTableDataS.l0 k l a i) (fun k x a => laws_szTableData.f k x.f0 x.f1 x.f2 a) l 1048576 (fun k a i h => ?_) (fun k a => ?_) (fun x hx a h0 h1 => szTab_ev x a (hs x hx) h0 h1) l.length 0 b (by omega) hb0 hb1
    · rw [laws_szTableDataS.l0, if_pos (by omega), if_pos (by omega), rdLT l i h, wsucc i (by omega)]
    · rw [laws_szTableDataS.l0, if_neg (by omega)]
  unfold laws_szDb.f
  refine key.bind ?_
  by_cases c : (wtL wT l : Int) ≤ a
  · simp only [if_pos c, if_neg (show ¬ (a - (wtL wT l : Int) < 0) by omega)]; exact Ev.now _
  · simp only [if_neg c, if_pos (show (-1 : Int) < 0 by decide)]; exact Ev.now _
theorem toTab_ev (x : LTab) (h : wT x ≤ 1048576) : Ev (fun k => (laws_toTableData.f k x.f0 x.f1 x.f2).bind fun t => some (⟨t.1, t.2.1, t.2.2⟩ : Tab)) (cvT x) := by
  unfold wT wtL at h
  unfold laws_toTableData.f cvT
  have h1 := toColumn_ev x.f1 (by omega)
  have h2 := toValueSS_ev x.f2 (by omega) (fun y hy => by
    have := Gen.mem_sumW wVV x.f2 y hy
    have e : wVV y = y.length + Gen.sumW wV y := rfl
    omega)
  have hA : Ev (fun k => (laws_toColumnS.f k x.f1).bind fun t => (laws_toValueSS.f k x.f2).bind fun u => some (x.f0, t, u)) (x.f0, x.f1.map cvC, x.f2.map cvVV) := h1.bind (h2.bind (Ev.now _))
  refine hA.bind ?_
  exact Ev.now _
theorem toDb_ev (l : List LTab) (h : wtL wT l ≤ 1048576) : Ev (fun k => laws_toDb.f k l) (l.map cvT) := by
  unfold wtL at h
  have hw : ∀ x ∈ l, wT x ≤ 1048576 := fun x hx => by have := Gen.mem_sumW wT l x hx; omega
  have key : Ev (fun k => laws_toTableDataS.f k l) (l.map cvT) := by
    refine Ev.congr (fun k => ?_) (Gen.copy cvT (fun k l o i => laws_toTableDataS.l0 k l o i) (fun k x => (laws_toTableData.f k x.f0 x.f1 x.f2).bind fun t => some (⟨t.1, t.2.1, t.2.2⟩ : Tab)) l (fun k o i h ho => ?_) (fun k o => ?_) (fun x hx => toTab_ev x (hw x hx)) l.length 0 (List.replicate l.length z37) (by omega) List.length_replicate (fun j hj => by omega))
    · unfold laws_toTableDataS.f
      rw [if_pos (by omega), if_pos (by omega)]
      simp
    · rw [laws_toTableDataS.l0, if_pos (by omega), if_pos (by omega), rdLT l i h]
      simp only [if_pos (show (i : Int) < (o.length : Int) by omega), wsucc i (show i < 9223372036854775807 by omega), Int.toNat_natCast, Option.bind_assoc, Option.bind_some]
    · rw [laws_toTableDataS.l0, if_neg (by omega)]
  unfold laws_toDb.f
  exact key.bind (Ev.now _)
theorem eqTab_ev (x : Tab) (h1 : x.f1.length ≤ 9223372036854775807) (h2 : x.f2.length ≤ 9223372036854775807) (h3 : ∀ y ∈ x.f2, y.length ≤ 9223372036854775807) : Ev (fun k => laws_eqTableData.f k x.f0 x.f1 x.f2 x.f0 x.f1 x.f2) true := by
  unfold laws_eqTableData.f
  simp only [if_true]
  refine (eqColumn_ev x.f1 h1).bind ?_
  simp only [if_true]
  refine (eqValueSS_ev x.f2 h2 h3).bind ?_
  simp only [if_true]
  exact Ev.now _
theorem eqDb_ev (l : List Tab) (hl : l.length ≤ 9223372036854775807) (hs : ∀ x ∈ l, x.f1.length ≤ 9223372036854775807 ∧ x.f2.length ≤ 9223372036854775807 ∧ ∀ y ∈ x.f2, y.length ≤ 9223372036854775807) : Ev (fun k => laws_eqDb.f k l l) true := by
  have key : Ev (fun k => laws_eqTableDataS.f k l l) true := by
    refine Ev.congr (fun k => ?_) (Gen.eq (fun k a b i => laws_eqTableDataS.l0 k a b i) (fun k x => laws_eqTableData.f k x.f0 x.f1 x.f2 x.f0 x.f1 x.f2) l (fun k i h => ?_) (fun k => ?_) (fun x hx => eqTab_ev x (hs x hx).1 (hs x hx).2.1 (hs x hx).2.2) l.length 0 (by omega))
    · unfold laws_eqTableDataS.f
      rw [if_pos rfl]
      rfl
    · rw [laws_eqTableDataS.l0, if_pos (by omega), if_pos (by omega), if_pos (by omega), rdTab l i h, wsucc i (by omega)]
    · rw [laws_eqTableDataS.l0, if_neg (by omega)]
  unfold laws_eqDb.f
  refine key.bind ?_
  simp only [if_true]
  exact Ev.now _
end Go.Proofs.YtoebfjfhdodakaaDoor.Pure
end
section
set_option linter.unusedVariables false
set_option linter.unusedSimpArgs false
namespace Go.Proofs.YtoebfjfhdodakaaDoor.Pure
open Go Go.RowKit Go.Proofs.YtoebfjfhdodakaaDoor Go.Proofs.YtoebfjfhdodakaaDoor.L Go.Proofs.YtoebfjfhdodakaaDoorW.PrintWords Go.Proofs.YtoebfjfhdodakaaDoorW.PrintMore Go.Proofs.YtoebfjfhdodakaaDoorW.PrintLast
theorem ff : ¬ (false = true) := by decide
theorem between_b (x lo hi : Int) : spec_l1Between.f x lo hi = some (decide (lo ≤ x ∧ x ≤ hi)) := by
  unfold spec_l1Between.f
  by_cases h0 : lo ≤ x
  · rw [if_pos h0]; simp [h0]
  · rw [if_neg h0]; simp [h0]
theorem spec_letter (c : Int) : spec_l4Letter.f c = some (decide (97 ≤ c) && decide (c ≤ 122)) := by
  unfold spec_l4Letter.f
  by_cases h1 : 97 ≤ c <;> by_cases h2 : c ≤ 122 <;> simp [h1, h2]
theorem spec_inner (c : Int) : spec_l4Inner.f c = some (wordByte c) := by
  unfold spec_l4Inner.f wordByte
  rw [spec_letter]
  by_cases h1 : 97 ≤ c <;> by_cases h2 : c ≤ 122 <;> by_cases h3 : 48 ≤ c <;> by_cases h4 : c ≤ 57 <;> simp [h1, h2, h3, h4]
theorem has_l0 (s : ByteArray) (l : List ByteArray) (hl : l.length ≤ 1000) (d : Nat) : ∀ i : Nat, i + d = l.length → Ev (fun k => spec_l4Has.l0 k s l (l.length : Int) (i : Int)) ((l.drop i).any fun x => decide (x.toList = s.toList)) := by
  induction d with
  | zero =>
    intro i hi
    have hd : l.drop i = [] := List.drop_eq_nil_of_le (by omega)
    rw [hd]
    refine Ev.step (f := fun _ => some false) (fun k => ?_) (Ev.now _)
    rw [spec_l4Has.l0, if_neg (by omega)]
  | succ d ih =>
    intro i hi
    have hil : i < l.length := by omega
    have hd : l.drop i = l[i] :: l.drop (i + 1) := List.drop_eq_getElem_cons hil
    rw [hd, List.any_cons]
    by_cases h : l[i].toList = s.toList
    · refine Ev.step (f := fun _ => some true) (fun k => ?_) ?_
      · rw [spec_l4Has.l0, if_pos (by omega), if_pos (by omega), if_pos (by omega), rdS l i hil, if_pos h]
      · rw [decide_eq_true h, Bool.true_or]; exact Ev.now _
    · refine Ev.step (f := fun k => spec_l4Has.l0 k s l (l.length : Int) ((i + 1 : Nat) : Int)) (fun k => ?_) ?_
      · rw [spec_l4Has.l0, if_pos (by omega), if_pos (by omega), if_pos (by omega), rdS l i hil, if_neg h, wsucc i (by omega)]
      · rw [decide_eq_false h, Bool.false_or]; exact ih (i + 1) (by omega)
/-- The reference's keywords. -/
def kwS : List ByteArray := (spec_l4Keywords.f).getD []
theorem kwS_eq : spec_l4Keywords.f = some kwS := rfl
theorem kw_sub1 : ∀ a ∈ kwS.map (fun x => x.data.toList), a ∈ kwL := by decide
theorem kw_sub2 : ∀ a ∈ kwL, a ∈ kwS.map (fun x => x.data.toList) := by decide
theorem has_kw (s : ByteArray) : (kwS.any fun x => decide (x.toList = s.toList)) = isKw s := by
  rw [Bool.eq_iff_iff]
  unfold isKw
  rw [List.any_eq_true, List.contains_iff_mem]
  constructor
  · rintro ⟨x, hx, h⟩
    have h := of_decide_eq_true h
    rw [ByteArray.toList_eq, ByteArray.toList_eq] at h
    rw [← h]
    exact kw_sub1 _ (List.mem_map_of_mem hx)
  · intro h
    obtain ⟨x, hx, e⟩ := List.mem_map.1 (kw_sub2 _ h)
    exact ⟨x, hx, decide_eq_true (by rw [ByteArray.toList_eq, ByteArray.toList_eq]; exact e)⟩
theorem name_l0 (s : ByteArray) (hs : s.size ≤ 1000) (d : Nat) : ∀ i : Nat, i + d = s.size → Ev (fun k => spec_l4Name.l0 k s (i : Int)) (allFrom wordByte s d i) := by
  induction d with
  | zero =>
    intro i hi
    exact Ev.step (f := fun _ => some true) (fun k => by rw [spec_l4Name.l0, if_neg (by omega)]) (Ev.now _)
  | succ d ih =>
    intro i hi
    rw [allFrom]
    refine Ev.step (f := fun k => if wordByte (bt s i) = true then spec_l4Name.l0 k s ((i + 1 : Nat) : Int) else some false) (fun k => ?_) ?_
    · rw [spec_l4Name.l0, if_pos (by omega), if_pos (by omega), spec_inner, Option.bind_some, wsucc i (by omega)]
    · cases hb : wordByte (bt s i) with
      | false => simp only [if_neg ff, Bool.false_and]; exact Ev.now _
      | true => simp only [if_true, Bool.true_and]; exact ih (i + 1) (by omega)
theorem spec_nm (s : ByteArray) : Ev (fun k => spec_l4Name.f k s) (nameKw s) := by
  have hbad : Ev (fun k => spec_l4Name.j0 k s true) false := Ev.step (f := fun _ => some false) (fun k => by rw [spec_l4Name.j0, if_pos rfl]) (Ev.now _)
  unfold spec_l4Name.f nameKw
  simp only [between_b, Option.bind_some, spec_letter, kwS_eq]
  by_cases h1 : 1 ≤ s.size
  · by_cases h2 : s.size ≤ 30
    · simp only [decide_eq_true (show (1 : Int) ≤ (s.size : Int) ∧ (s.size : Int) ≤ 30 by omega), if_true, if_pos (show (0 : Int) < (s.size : Int) by omega), decide_eq_true h1, decide_eq_true h2, Bool.true_and]
      cases hL : (decide (97 ≤ bt s 0) && decide (bt s 0 ≤ 122)) with
      | false => simp only [if_neg ff, Bool.false_and]; exact hbad
      | true =>
        simp only [if_true, Bool.true_and]
        have hh := has_l0 s kwS (by decide) kwS.length 0 (by omega)
        rw [List.drop_zero, has_kw] at hh
        refine Ev.bind (Ev.congr (fun k => rfl) hh) ?_
        cases hk : isKw s with
        | true => simp only [Bool.not_true, Bool.and_false]; exact hbad
        | false =>
          simp only [Bool.not_false, Bool.and_true]
          refine Ev.step (fun k => by rw [spec_l4Name.j0, if_neg ff]) ?_
          exact name_l0 s (by omega) s.size 0 (by omega)
    · simp only [decide_eq_false (show ¬ ((1 : Int) ≤ (s.size : Int) ∧ (s.size : Int) ≤ 30) by omega), if_neg ff, decide_eq_true h1, decide_eq_false h2, Bool.true_and, Bool.false_and]
      exact hbad
  · simp only [decide_eq_false (show ¬ ((1 : Int) ≤ (s.size : Int) ∧ (s.size : Int) ≤ 30) by omega), if_neg ff, decide_eq_false h1, Bool.false_and]
    exact hbad
/-- A text. -/
def textOk (s : ByteArray) : Bool := decide (s.size ≤ 200) && allFrom textByte s s.size 0
theorem impl_txt (s : ByteArray) (hs : s.size ≤ 9223372036854775807) : impl_isText.f s = some (textOk s) := by rw [impl_isText.f, if_pos hs]; rfl
theorem text_l0 (s : ByteArray) (hs : s.size ≤ 1000) (d : Nat) : ∀ i : Nat, i + d = s.size → Ev (fun k => spec_l4Text.l0 k s (i : Int)) (allFrom textByte s d i) := by
  induction d with
  | zero =>
    intro i hi
    exact Ev.step (f := fun _ => some true) (fun k => by rw [spec_l4Text.l0, if_neg (by omega)]) (Ev.now _)
  | succ d ih =>
    intro i hi
    rw [allFrom]
    have hr := bt_range s i
    have hw : wrap64 (bt s i) = bt s i := w64 _ (by omega)
    have ht : decide (32 ≤ bt s i ∧ bt s i ≤ 126) = textByte (bt s i) := by
      unfold textByte
      by_cases h1 : 32 ≤ bt s i <;> by_cases h2 : bt s i ≤ 126 <;> simp [h1, h2]
    refine Ev.step (f := fun k => if textByte (bt s i) = true then spec_l4Text.l0 k s ((i + 1 : Nat) : Int) else some false) (fun k => ?_) ?_
    · rw [spec_l4Text.l0, if_pos (by omega), if_pos (by omega), hw, between_b, ht, Option.bind_some, wsucc i (by omega)]
    · cases hb : textByte (bt s i) with
      | false => simp only [if_neg ff, Bool.false_and]; exact Ev.now _
      | true => simp only [if_true, Bool.true_and]; exact ih (i + 1) (by omega)
theorem spec_txt (s : ByteArray) : Ev (fun k => spec_l4Text.f k s) (textOk s) := by
  unfold spec_l4Text.f textOk
  by_cases h : s.size ≤ 200
  · simp only [if_neg (show ¬ (s.size : Int) > 200 by omega), decide_eq_true h, Bool.true_and]
    exact text_l0 s (by omega) s.size 0 (by omega)
  · simp only [if_pos (show (s.size : Int) > 200 by omega), decide_eq_false h, Bool.false_and]
    exact Ev.now _
end Go.Proofs.YtoebfjfhdodakaaDoor.Pure
end
section
set_option linter.unusedVariables false
set_option linter.unusedSimpArgs false
namespace Go.Proofs.YtoebfjfhdodakaaDoor.Pure
open Go Go.RowKit Go.Proofs.YtoebfjfhdodakaaDoor Go.Proofs.YtoebfjfhdodakaaDoor.L Go.Proofs.YtoebfjfhdodakaaDoorW.PrintWords Go.Proofs.YtoebfjfhdodakaaDoorW.PrintMore Go.Proofs.YtoebfjfhdodakaaDoorW.PrintLast
theorem spec_type (t : Int) : spec_l4Type.f t = some (decide (t = 1) || decide (t = 2)) := by
  unfold spec_l4Type.f
  by_cases h1 : t = 1
  · simp [h1]
  · by_cases h2 : t = 2 <;> simp [h1, h2]
/-- A value is right for a column's type. -/
def typedP (v : Val) (t : Int) : Bool := decide (v.f0 = t) && (if t = 1 then (v.f2.toList == ([] : List UInt8)) else decide (v.f1 = 0) && textOk v.f2)
theorem impl_typ (v : Val) (t : Int) (h : v.f2.size ≤ 9223372036854775807) : impl_typed.f v.f0 v.f1 v.f2 t = some (typedP v t) := by
  unfold impl_typed.f typedP
  rw [impl_txt v.f2 h]
  by_cases c1 : v.f0 = t
  · rw [if_pos c1, decide_eq_true c1, Bool.true_and]
    by_cases c2 : t = 1
    · rw [if_pos c2, if_pos c2]
    · rw [if_neg c2, if_neg c2]
      by_cases c3 : v.f1 = 0
      · rw [if_pos c3, decide_eq_true c3, Bool.true_and]; rfl
      · rw [if_neg c3, decide_eq_false c3, Bool.false_and]
  · rw [if_neg c1, decide_eq_false c1, Bool.false_and]
theorem spec_right (v : Val) (t : Int) : Ev (fun k => spec_l5Right.f k v.f0 v.f1 v.f2 t) (typedP v t) := by
  unfold spec_l5Right.f typedP
  by_cases c1 : v.f0 = t
  · simp only [if_pos c1, decide_eq_true c1, Bool.true_and]
    by_cases c2 : t = 1
    · simp only [if_pos c2]; exact Ev.now _
    · simp only [if_neg c2]
      by_cases c3 : v.f1 = 0
      · simp only [if_pos c3, decide_eq_true c3, Bool.true_and]
        exact (spec_txt v.f2).bind (Ev.now _)
      · simp only [if_neg c3, decide_eq_false c3, Bool.false_and]; exact Ev.now _
  · simp only [if_neg c1, decide_eq_false c1, Bool.false_and]; exact Ev.now _
def fitGo : List Col → List Val → Bool
  | c :: cs, v :: vs => typedP v c.f1 && fitGo cs vs
  | _, _ => true
theorem fit_l0 (cols : List Col) (row : List Val) (he : row.length = cols.length) (hl : row.length ≤ 1000000000) (hs : ∀ v ∈ row, v.f2.size ≤ 9223372036854775807) (d : Nat) : ∀ i : Nat, i + d = row.length → impl_fitsCols.l0 (d + 1) cols row (row.length : Int) (i : Int) = some (fitGo (cols.drop i) (row.drop i)) := by
  induction d with
  | zero =>
    intro i hi
    rw [impl_fitsCols.l0, if_neg (by omega), List.drop_eq_nil_of_le (show row.length ≤ i by omega)]
    cases cols.drop i <;> rfl
  | succ d ih =>
    intro i hi
    have hr : i < row.length := by omega
    have hc : i < cols.length := by omega
    rw [impl_fitsCols.l0, if_pos (by omega), if_pos (by omega), if_pos (by omega), if_pos (by omega), rdVal row i hr, rdCol cols i hc, impl_typ _ _ (hs _ (List.getElem_mem hr)), Option.bind_some, wsucc i (by omega), ih (i + 1) (by omega)]
    rw [List.drop_eq_getElem_cons hr, List.drop_eq_getElem_cons hc, fitGo]
    cases typedP row[i] cols[i].f1 <;> rfl
def fitP (cols : List Col) (row : List Val) : Bool := decide (row.length = cols.length) && fitGo cols row
theorem impl_fit (cols : List Col) (row : List Val) (hl : row.length ≤ 1000000000) (hs : ∀ v ∈ row, v.f2.size ≤ 9223372036854775807) : impl_fitsCols.f (row.length + 1) cols row = some (fitP cols row) := by
  unfold impl_fitsCols.f fitP
  by_cases e : row.length = cols.length
  · rw [if_pos (by omega), decide_eq_true e, Bool.true_and]
    exact fit_l0 cols row e hl hs row.length 0 (by omega)
  · rw [if_neg (by omega), decide_eq_false e, Bool.false_and]
theorem fitB_eq (cols : List Col) (row : List Val) (hl : row.length ≤ 1000000000) (hs : ∀ v ∈ row, v.f2.size ≤ 9223372036854775807) : fitB cols row = fitP cols row := by
  unfold fitB
  rw [impl_fit cols row hl hs]
  rfl
/-- The reference's place of a name among the columns before. -/
theorem col_l0 (s : ByteArray) (l : List Col) (hl : l.length ≤ 1000000000) (d : Nat) : ∀ i : Nat, i + d = l.length → ∃ c, Ev (fun k => spec_l5Col.l0 k s l (l.length : Int) (i : Int)) c ∧ (0 ≤ c ↔ seenIn (l.drop i) s = true) := by
  induction d with
  | zero =>
    intro i hi
    refine ⟨-1, Ev.step (f := fun _ => some (-1)) (fun k => by rw [spec_l5Col.l0, if_neg (by omega)]) (Ev.now _), ?_⟩
    rw [List.drop_eq_nil_of_le (by omega)]
    simp [seenIn]
  | succ d ih =>
    intro i hi
    have h : i < l.length := by omega
    obtain ⟨c, hc, hiff⟩ := ih (i + 1) (by omega)
    rw [List.drop_eq_getElem_cons h]
    by_cases e : l[i].f0 = s
    · refine ⟨i, Ev.step (f := fun _ => some (i : Int)) (fun k => ?_) (Ev.now _), ?_⟩
      · rw [spec_l5Col.l0, if_pos (by omega), if_pos (by omega), if_pos (by omega), rdCol l i h, if_pos (by rw [e])]
      · rw [show seenIn (l[i] :: l.drop (i + 1)) s = (decide (l[i].f0 = s) || seenIn (l.drop (i + 1)) s) from rfl, decide_eq_true e, Bool.true_or]
        exact ⟨fun _ => rfl, fun _ => by omega⟩
    · refine ⟨c, Ev.step (fun k => ?_) hc, ?_⟩
      · rw [spec_l5Col.l0, if_pos (by omega), if_pos (by omega), if_pos (by omega), rdCol l i h, if_neg (fun hh => e (data_inj (by rw [← ByteArray.toList_eq, ← ByteArray.toList_eq]; exact hh))), wsucc i (by omega)]
      · rw [hiff, show seenIn (l[i] :: l.drop (i + 1)) s = (decide (l[i].f0 = s) || seenIn (l.drop (i + 1)) s) from rfl, decide_eq_false e, Bool.false_or]
theorem spec_col (s : ByteArray) (l : List Col) (hl : l.length ≤ 1000000000) : ∃ c, Ev (fun k => spec_l5Col.f k l s) c ∧ (0 ≤ c ↔ seenIn l s = true) := by
  obtain ⟨c, h1, h2⟩ := col_l0 s l hl l.length 0 (by omega)
  rw [List.drop_zero] at h2
  exact ⟨c, h1, h2⟩
theorem cmp_ge (a b : Val) : ∃ c, Ev (fun k => spec_l5Compare.f k a.f0 a.f1 a.f2 b.f0 b.f1 b.f2) c ∧ (0 ≤ c ↔ ¬ (a.f1 < b.f1 ∨ Op.bytesLess a.f2.toList b.f2.toList = true)) := by
  have ht : Ev (fun k => spec_l5Compare.j0 k true a.f0 a.f1 a.f2 b.f0 b.f1 b.f2) (-1) := Ev.step (f := fun _ => some (-1)) (fun k => by rw [spec_l5Compare.j0, if_pos rfl]) (Ev.now _)
  have hf : ∃ c : Int, 0 ≤ c ∧ Ev (fun k => spec_l5Compare.j0 k false a.f0 a.f1 a.f2 b.f0 b.f1 b.f2) c := by
    by_cases c1 : a.f1 > b.f1
    · exact ⟨1, by decide, Ev.step (f := fun _ => some 1) (fun k => by rw [spec_l5Compare.j0, if_neg (by decide), if_pos c1]) (Ev.now _)⟩
    · by_cases c2 : (!Op.bytesLess a.f2.toList b.f2.toList && !a.f2.toList == b.f2.toList) = true
      · exact ⟨1, by decide, Ev.step (f := fun _ => some 1) (fun k => by rw [spec_l5Compare.j0, if_neg (by decide), if_neg c1, if_pos c2]) (Ev.now _)⟩
      · exact ⟨0, by decide, Ev.step (f := fun _ => some 0) (fun k => by rw [spec_l5Compare.j0, if_neg (by decide), if_neg c1, if_neg c2]) (Ev.now _)⟩
  unfold spec_l5Compare.f
  by_cases c1 : a.f1 < b.f1
  · simp only [if_pos c1]
    exact ⟨-1, ht, by simp [c1]⟩
  · simp only [if_neg c1]
    cases hb : Op.bytesLess a.f2.toList b.f2.toList with
    | true => exact ⟨-1, ht, by simp⟩
    | false =>
      obtain ⟨c, h0, hc⟩ := hf
      exact ⟨c, hc, by simp [c1, h0]⟩
theorem key_cmp (a b : Val) (t : Int) (ha : typedP a t = true) (hb : typedP b t = true) : (a.f1 < b.f1 ∨ Op.bytesLess a.f2.toList b.f2.toList = true) ↔ keyB a b = true := by
  unfold typedP at ha hb
  rw [Bool.and_eq_true, decide_eq_true_eq] at ha hb
  unfold keyB impl_keyLess.f impl_less_int.f impl_less_string.f
  by_cases c : t = 1
  · rw [if_pos c, beq_iff_eq] at ha hb
    rw [if_pos (by rw [ha.1, c]), ha.2, hb.2]
    have : Op.bytesLess ([] : List UInt8) [] = false := rfl
    simp [this]
  · rw [if_neg c, Bool.and_eq_true, decide_eq_true_eq] at ha hb
    rw [if_neg (by rw [ha.1]; exact c), ha.2.1, hb.2.1]
    simp
/-- Columns one by one: each is one, none has the name of one before. -/
def colsGo : List Col → List Col → Bool
  | _, [] => true
  | a, x :: r => colOKb x && (!seenIn a x.f0 && colsGo (a ++ [x]) r)
theorem colsGo_eq (l : List Col) : ∀ a, colsGo a l = (l.all colOKb && !dupGo a l) := by
  induction l with
  | nil => intro a; rfl
  | cons x l ih =>
    intro a
    rw [colsGo, dupGo, ih, List.all_cons]
    cases colOKb x <;> cases seenIn a x.f0 <;> simp
end Go.Proofs.YtoebfjfhdodakaaDoor.Pure
end
