/- The texts that the proof of the law FnExactScanFrames rests on, part 2: printed functions with their contracts, words, plain laws; the last part ends in the statement itself. No condition but those that each theorem states. -/
import Derived.Test.YtoebfjfhdodakaaKFnExactScanFrames1
set_option linter.unusedVariables false
set_option linter.unusedSimpArgs false
section
set_option linter.unusedVariables false
set_option linter.unusedSimpArgs false
namespace Go.Proofs.Ytoebfjfhdodakaa.Pure
open Go Go.RowKit Go.Proofs.Ytoebfjfhdodakaa Go.Proofs.Ytoebfjfhdodakaa.L Go.Proofs.YtoebfjfhdodakaaW.PrintWords Go.Proofs.YtoebfjfhdodakaaW.PrintLast
theorem bt_list (d : ByteArray) (i : Nat) (h : i < d.data.toList.length) : bt d (i : Int) = ((d.data.toList[i]'h).toNat : Int) := by
  have hs : i < d.size := by rw [Array.length_toList] at h; exact h
  unfold bt
  rw [dif_pos (show (i : Int).toNat < d.size by omega)]
  simp only [Int.toNat_natCast]
  rfl
theorem ofNat_inj {a b : Int} (ha : 0 ≤ a) (ha2 : a ≤ 255) (hb : 0 ≤ b) (hb2 : b ≤ 255) (h : UInt8.ofNat a.toNat = UInt8.ofNat b.toNat) : a = b := by
  have := congrArg UInt8.toNat h
  simp only [UInt8.toNat_ofNat'] at this
  omega
theorem four (d : ByteArray) (a : Nat) (ha : a + 4 ≤ d.size) : (d.data.toList.drop a).take 4 = [UInt8.ofNat (bt d ((a + 0 : Nat) : Int)).toNat, UInt8.ofNat (bt d ((a + 1 : Nat) : Int)).toNat, UInt8.ofNat (bt d ((a + 2 : Nat) : Int)).toNat, UInt8.ofNat (bt d ((a + 3 : Nat) : Int)).toNat] := by
  have hl : d.data.toList.length = d.size := by rw [Array.length_toList]; rfl
  rw [List.drop_eq_getElem_cons (show a < d.data.toList.length by omega), List.drop_eq_getElem_cons (show a + 1 < d.data.toList.length by omega), List.drop_eq_getElem_cons (show a + 1 + 1 < d.data.toList.length by omega), List.drop_eq_getElem_cons (show a + 1 + 1 + 1 < d.data.toList.length by omega)]
  rw [bt_list d (a + 0) (by omega), bt_list d (a + 1) (by omega), bt_list d (a + 2) (by omega), bt_list d (a + 3) (by omega)]
  simp
theorem four_iff (d : ByteArray) (a : Nat) (ha : a + 4 ≤ d.size) (v : Int) (h0 : 0 ≤ v) (h1 : v ≤ 4294967295) : ((numB 4 v).map fun n => UInt8.ofNat n.toNat) = (d.data.toList.drop a).take 4 ↔ v = bigN d a 4 := by
  rw [four d a ha]
  have e : (numB 4 v) = [v / 16777216 % 256, v / 65536 % 256, v / 256 % 256, v % 256] := by simp [numB]
  rw [e]
  have r0 := bt_range d ((a + 0 : Nat) : Int)
  have r1 := bt_range d ((a + 1 : Nat) : Int)
  have r2 := bt_range d ((a + 2 : Nat) : Int)
  have r3 := bt_range d ((a + 3 : Nat) : Int)
  have hB : bigN d a 4 = (((0 * 256 + bt d ((a + 0 : Nat) : Int)) * 256 + bt d ((a + 1 : Nat) : Int)) * 256 + bt d ((a + 2 : Nat) : Int)) * 256 + bt d ((a + 3 : Nat) : Int) := rfl
  rw [hB]
  constructor
  · intro h
    simp only [List.map_cons, List.map_nil, List.cons.injEq, and_true] at h
    obtain ⟨a0, a1, a2, a3⟩ := h
    have b0 := ofNat_inj (by omega) (by omega) r0.1 r0.2 a0
    have b1 := ofNat_inj (by omega) (by omega) r1.1 r1.2 a1
    have b2 := ofNat_inj (by omega) (by omega) r2.1 r2.2 a2
    have b3 := ofNat_inj (by omega) (by omega) r3.1 r3.2 a3
    omega
  · intro h
    have b0 : v / 16777216 % 256 = bt d ((a + 0 : Nat) : Int) := by omega
    have b1 : v / 65536 % 256 = bt d ((a + 1 : Nat) : Int) := by omega
    have b2 : v / 256 % 256 = bt d ((a + 2 : Nat) : Int) := by omega
    have b3 : v % 256 = bt d ((a + 3 : Nat) : Int) := by omega
    rw [b0, b1, b2, b3]
    rfl
theorem frame_iff (d : ByteArray) (m : Nat) (hm : bigN d 0 4 = (m : Int)) (hz : m + 8 ≤ d.size) (c : Int) (h0 : 0 ≤ c) (h1 : c ≤ 4294967295) :
    ((strOfNums (numB 4 (m : Int)) ++ strOfNums (numB 4 c)) ++ d.extract 8 (8 + m)).toList = (d.extract 0 (8 + m)).toList ↔ c = bigN d 4 4 := by
  have hn := bigN_small d 0 4 (by omega)
  rw [ByteArray.toList_eq, ByteArray.toList_eq]
  have hL : ∀ a b : Nat, (d.extract a b).data.toList = (d.data.toList.drop a).take (b - a) := fun a b => by simp
  have hA : ∀ x y : ByteArray, (x ++ y).data.toList = x.data.toList ++ y.data.toList := fun x y => by simp
  have hS : ∀ l : List Int, (strOfNums l).data.toList = l.map fun n => UInt8.ofNat n.toNat := fun l => by simp [strOfNums]
  rw [hA, hA, hS, hS, hL, hL, List.drop_zero, Nat.sub_zero]
  have e1 : ((numB 4 (m : Int)).map fun n => UInt8.ofNat n.toNat) = (d.data.toList.drop 0).take 4 := (four_iff d 0 (by omega) m (by omega) (by omega)).2 hm.symm
  have e2 : d.data.toList.take (8 + m) = (d.data.toList.take 4 ++ (d.data.toList.drop 4).take 4) ++ (d.data.toList.drop 8).take (8 + m - 8) := by
    rw [show 8 + m = 4 + (4 + m) by omega, List.take_add, List.take_add, List.drop_drop, List.append_assoc]
    congr 3
    omega
  rw [e1, e2, List.drop_zero, ← four_iff d 4 (by omega) c h0 h1]
  constructor
  · intro h
    exact List.append_cancel_left (List.append_cancel_right h)
  · intro h
    rw [h]
theorem spec_first (d : ByteArray) (hs : d.size ≤ 1000000000000) : Ev (fun k => spec_l6First.f k d) ((firstP d).getD ⟨#[]⟩) := by
  unfold spec_l6First.f
  have he : (⟨#[]⟩ : ByteArray).toList = ([] : List UInt8) := by rw [ByteArray.toList_eq]
  by_cases h1 : d.size < 8
  · have e : firstP d = none := by unfold firstP; rw [if_pos h1]
    simp only [if_pos (show (d.size : Int) < 8 by omega), e]
    exact Ev.now _
  · simp only [if_neg (show ¬ (d.size : Int) < 8 by omega)]
    have hn := bigN_small d 0 4 (by omega)
    refine (get_ev d 0 4 (by omega) (by omega) (by omega)).bind ?_
    have hw : wrap64 ((d.size : Int) - 8) = (d.size : Int) - 8 := w64 _ (by omega)
    have hw2 : wrap64 (8 + bigN d 0 4) = 8 + bigN d 0 4 := w64 _ (by omega)
    simp only [hw, hw2]
    by_cases h2 : bigN d 0 4 > (d.size : Int) - 8
    · have e : firstP d = none := by unfold firstP; rw [if_neg h1, if_pos (.inr (.inr h2))]
      simp only [if_pos h2, e]
      exact Ev.now _
    · obtain ⟨m, hm⟩ : ∃ m : Nat, bigN d 0 4 = (m : Int) := ⟨(bigN d 0 4).toNat, by omega⟩
      have hz : (d.extract 8 (8 + m)).size = m := by rw [ByteArray.size_extract]; omega
      simp only [if_neg h2]
      rw [hm]
      have ht : ((8 + (m : Int)) : Int).toNat = 8 + m := by omega
      simp only [ht, if_pos (show (8 : Int) ≤ 8 + (m : Int) by omega), if_pos (show 8 + (m : Int) ≤ (d.size : Int) by omega), if_pos (show (0 : Int) ≤ 8 + (m : Int) by omega)]
      refine (spec_frame (d.extract 8 (8 + m)) (by omega)).bind ?_
      by_cases h3 : 1 ≤ m ∧ m ≤ 60000
      · have hf : frameB (d.extract 8 (8 + m)) = (strOfNums (numB 4 (m : Int)) ++ strOfNums (numB 4 (4294967295 - ((crcN (d.extract 8 (8 + m)) m : Nat) : Int)))) ++ d.extract 8 (8 + m) := by
          unfold frameB
          rw [hz, if_pos h3]
        have hne : ¬ (frameB (d.extract 8 (8 + m))).toList = ([] : List UInt8) := by
          intro e
          have := congrArg List.length e
          rw [ByteArray.toList_eq] at this
          have h4 : (frameB (d.extract 8 (8 + m))).data.toList.length = (frameB (d.extract 8 (8 + m))).size := by rw [Array.length_toList]; rfl
          rw [h4, hf, ByteArray.size_append, hz] at this
          simp at this
          omega
        have hc := crcN_lt (d.extract 8 (8 + m)) m
        have hiff := frame_iff d m hm (by omega) (4294967295 - ((crcN (d.extract 8 (8 + m)) m : Nat) : Int)) (by omega) (by omega)
        simp only [if_neg hne]
        rw [hf]
        have hbad : ¬ (bigN d 0 4 < 1 ∨ 60000 < bigN d 0 4 ∨ (d.size : Int) - 8 < bigN d 0 4) := by omega
        by_cases h5 : 4294967295 - ((crcN (d.extract 8 (8 + m)) m : Nat) : Int) = bigN d 4 4
        · have e : firstP d = some (d.extract 8 (8 + m)) := by unfold firstP; rw [if_neg h1, if_neg hbad, hm, Int.toNat_natCast, hz, if_pos h5]
          simp only [if_pos (hiff.2 h5), e]
          exact Ev.now _
        · have e : firstP d = none := by unfold firstP; rw [if_neg h1, if_neg hbad, hm, Int.toNat_natCast, hz, if_neg h5]
          simp only [if_neg (fun hh => h5 (hiff.1 hh)), e]
          exact Ev.now _
      · have hf : frameB (d.extract 8 (8 + m)) = ⟨#[]⟩ := by unfold frameB; rw [hz, if_neg h3]
        have e : firstP d = none := by unfold firstP; rw [if_neg h1, if_pos (by omega)]
        rw [hf]
        simp only [if_pos he, e]
        exact Ev.now _
theorem extract_extract_size (d : ByteArray) (a b : Nat) (ha : a ≤ d.size) : (d.extract a d.size).extract b (d.size - a) = d.extract (a + b) d.size := by
  apply ByteArray.ext
  simp
  congr 1
  omega
theorem spec_l0 (n : Nat) (d : ByteArray) (hs : d.size ≤ 1000000000000) : ∀ (at_ : Nat) (out : List ByteArray), d.size - at_ < n → at_ ≤ d.size → out.length + (d.size - at_) ≤ 8796093022000 →
    Ev (fun k => spec_ScanFrames.l0 k d out (at_ : Int)) (out ++ scanP n (d.extract at_ d.size), ((at_ + totP (scanP n (d.extract at_ d.size)) : Nat) : Int)) := by
  induction n with
  | zero => intro at_ out h; omega
  | succ n ih =>
    intro at_ out hd ha hl
    have hz : (d.extract at_ d.size).size = d.size - at_ := by rw [ByteArray.size_extract]; omega
    rw [scanP]
    refine Ev.step (f := fun k => (spec_l6First.f k (d.extract at_ d.size)).bind fun t => if t.toList = ([] : List UInt8) then some (out, (at_ : Int)) else if out.length < 8796093022208 then spec_ScanFrames.l0 k d (out ++ [t]) (wrap64 ((at_ : Int) + wrap64 (8 + (t.size : Int)))) else none) (fun k => by rw [spec_ScanFrames.l0, if_pos (by omega), if_pos (by omega), Int.toNat_natCast]) ?_
    refine (spec_first (d.extract at_ d.size) (by omega)).bind ?_
    cases h : firstP (d.extract at_ d.size) with
    | none =>
      have he : ((none : Option ByteArray).getD ⟨#[]⟩).toList = ([] : List UInt8) := by rw [Option.getD_none, ByteArray.toList_eq]
      simp only [if_pos he, totP, List.append_nil, List.map_nil, List.sum_nil, Nat.add_zero]
      exact Ev.now _
    | some e =>
      have hf := firstP_size h
      have hne : ¬ e.toList = ([] : List UInt8) := by
        intro hh
        have h4 : e.data.toList.length = e.size := by rw [Array.length_toList]; rfl
        rw [ByteArray.toList_eq] at hh
        rw [hh, List.length_nil] at h4
        omega
      simp only [Option.getD_some, if_neg hne, if_pos (show out.length < 8796093022208 by omega)]
      have hw : wrap64 ((at_ : Int) + wrap64 (8 + (e.size : Int))) = ((at_ + (8 + e.size) : Nat) : Int) := by rw [w64 (8 + (e.size : Int)) (by omega), w64 _ (by omega)]; omega
      rw [hw]
      have := ih (at_ + (8 + e.size)) (out ++ [e]) (by omega) (by omega) (by rw [List.length_append, List.length_singleton]; omega)
      rw [hz, extract_extract_size d at_ (8 + e.size) ha]
      simp only [totP, List.map_cons, List.sum_cons] at this ⊢
      rw [List.append_assoc, List.singleton_append] at this
      have e2 : at_ + (8 + e.size + (List.map (fun e => 8 + e.size) (scanP n (d.extract (at_ + (8 + e.size)) d.size))).sum) = at_ + (8 + e.size) + (List.map (fun e => 8 + e.size) (scanP n (d.extract (at_ + (8 + e.size)) d.size))).sum := by omega
      rw [e2]
      exact this
theorem spec_scan (d : ByteArray) (hs : d.size ≤ 1000000000000) : Ev (fun k => spec_ScanFrames.f k d) (scanP (d.size + 1) d, ((totP (scanP (d.size + 1) d) : Nat) : Int)) := by
  have := spec_l0 (d.size + 1) d hs 0 [] (by omega) (by omega) (by simp; omega)
  rw [List.nil_append, Nat.zero_add, show d.extract 0 d.size = d from by apply ByteArray.ext; rw [ByteArray.data_extract]; exact Array.extract_size] at this
  exact Ev.congr (fun k => rfl) this
end Go.Proofs.Ytoebfjfhdodakaa.Pure
end
section
set_option linter.unusedVariables false
set_option linter.unusedSimpArgs false
namespace Go.Proofs.Ytoebfjfhdodakaa.Pure
open Go.RowKit Go.Proofs.Ytoebfjfhdodakaa Go.Proofs.Ytoebfjfhdodakaa.L Go.Proofs.YtoebfjfhdodakaaW.PrintWords Go.Proofs.YtoebfjfhdodakaaW.PrintLast
theorem eqS_l0 (e : Nat) : ∀ (l : List ByteArray) (i : Nat), i + e = l.length → l.length ≤ 9223372036854775807 → Ev (fun k => laws_eqStringS.l0 k l l i) true := by
  induction e with
  | zero =>
    intro l i hi hl
    exact Ev.step (f := fun _ => some true) (fun k => by rw [laws_eqStringS.l0, if_neg (by omega)]) (Ev.now _)
  | succ e ih =>
    intro l i hi hl
    exact Ev.step (fun k => by rw [laws_eqStringS.l0, if_pos (by omega), if_pos (by omega), if_pos (by omega), if_pos rfl, wsucc i (by omega)]) (ih l (i + 1) (by omega) hl)
theorem eqS_ev (l : List ByteArray) (hl : l.length ≤ 9223372036854775807) : Ev (fun k => laws_eqStringS.f k l l) true := by
  refine Ev.congr (fun k => ?_) (eqS_l0 l.length l 0 (by omega) hl)
  unfold laws_eqStringS.f
  rw [if_pos rfl]
  rfl
end Go.Proofs.Ytoebfjfhdodakaa.Pure
end
section
set_option linter.unusedVariables false
set_option linter.unusedSimpArgs false
namespace Go.Proofs.Ytoebfjfhdodakaa.Pure
open Go Go.RowKit Go.Proofs.Ytoebfjfhdodakaa Go.Proofs.Ytoebfjfhdodakaa.L Go.Proofs.YtoebfjfhdodakaaW.PrintWords Go.Proofs.YtoebfjfhdodakaaW.PrintMore Go.Proofs.YtoebfjfhdodakaaW.PrintLast
theorem nums_size (l : List Int) : (strOfNums l).size = l.length := by simp [strOfNums, ByteArray.size]
theorem markText_l0 (d : Nat) : ∀ (n : Nat) (acc : ByteArray), n < 10 ^ d → d ≤ 18 → acc.size + d ≤ 100 → ∃ r, Ev (fun k => laws_markText.l0 k (n : Int) acc) r := by
  induction d with
  | zero =>
    intro n acc hn _ ha
    have : n = 0 := by omega
    subst this
    refine ⟨(⟨#[109]⟩ : ByteArray) ++ acc, Ev.step (f := fun _ => some ((⟨#[109]⟩ : ByteArray) ++ acc)) (fun k => ?_) (Ev.now _)⟩
    rw [laws_markText.l0, if_neg (by omega), if_pos (by omega)]
  | succ d ih =>
    intro n acc hn hd ha
    by_cases hz : n = 0
    · subst hz
      refine ⟨(⟨#[109]⟩ : ByteArray) ++ acc, Ev.step (f := fun _ => some ((⟨#[109]⟩ : ByteArray) ++ acc)) (fun k => ?_) (Ev.now _)⟩
      rw [laws_markText.l0, if_neg (by omega), if_pos (by omega)]
    · have hlt : n < 9223372036854775808 := by
        have : (10 : Nat) ^ (d + 1) ≤ 10 ^ 18 := Nat.pow_le_pow_right (by decide) (by omega)
        omega
      have e2 : Int.tdiv (n : Int) 10 = ((n / 10 : Nat) : Int) := (Int.ofNat_tdiv n 10).symm
      have e4 : wrap64 ((n / 10 : Nat) : Int) = ((n / 10 : Nat) : Int) := by unfold wrap64; omega
      obtain ⟨s, hs⟩ : ∃ s, strOfNums [(wrap64 (48 + (Int.tmod (n : Int) 10))) % 256] = s := ⟨_, rfl⟩
      have hsz : s.size = 1 := by rw [← hs, nums_size]; rfl
      obtain ⟨r, hr⟩ := ih (n / 10) (s ++ acc) (by rw [Nat.pow_succ] at hn; omega) (by omega) (by rw [ByteArray.size_append]; omega)
      refine ⟨r, Ev.step (f := fun k => laws_markText.l0 k ((n / 10 : Nat) : Int) (s ++ acc)) (fun k => ?_) hr⟩
      rw [laws_markText.l0, if_pos (by omega), e2, e4]
      simp only [Option.bind_some, hs]
      rw [if_pos (by omega)]
theorem markText_ex (n : Nat) (hn : n < 1000000000000000000) : ∃ r, Ev (fun k => laws_markText.f k (n : Int)) r := by
  unfold laws_markText.f
  by_cases h : (n : Int) ≤ 0
  · simp only [if_pos h]; exact ⟨_, Ev.now _⟩
  · simp only [if_neg h]
    exact markText_l0 18 n _ hn (by omega) (by show (0 : Nat) + 18 ≤ 100; omega)
/-- What the marks are: one function of the number. -/
theorem marks : ∃ mk : Nat → ByteArray, ∀ n : Nat, n < 1000000000000000000 → Ev (fun k => laws_markText.f k (n : Int)) (mk n) :=
  ⟨fun n => if h : n < 1000000000000000000 then (markText_ex n h).choose else ByteArray.empty, fun n hn => by
    have := (markText_ex n hn).choose_spec
    simpa only [dif_pos hn] using this⟩
/-- So many marks from a on. -/
def markL (mk : Nat → ByteArray) (a n : Nat) : List ByteArray := (List.range n).map fun j => mk (a + j)
theorem markL_length (mk : Nat → ByteArray) (a n : Nat) : (markL mk a n).length = n := by simp [markL]
theorem markL_at (mk : Nat → ByteArray) (a n i : Nat) (h : i < n) : (markL mk a n)[i]? = some (mk (a + i)) := by simp [markL, h]
theorem markS_l0 (mk : Nat → ByteArray) (hmk : ∀ n : Nat, n < 1000000000000000000 → Ev (fun k => laws_markText.f k (n : Int)) (mk n)) (a : Nat) (d : Nat) : ∀ (x : List ByteArray) (i : Nat), i + d = x.length → a + x.length < 1000000000000000 →
    (∀ j, j < i → x[j]? = some (mk (a + j))) → Ev (fun k => laws_markStringS.l0 k x ((a + i : Nat) : Int) (i : Int)) (((a + x.length : Nat) : Int), markL mk a x.length) := by
  induction d with
  | zero =>
    intro x i hi hb hx
    have e : x = markL mk a x.length := by
      apply List.ext_getElem?
      intro j
      by_cases hj : j < x.length
      · rw [hx j (by omega), markL_at mk a _ j hj]
      · rw [List.getElem?_eq_none (by omega), List.getElem?_eq_none (by rw [markL_length]; omega)]
    rw [← e]
    refine Ev.step (f := fun _ => some (((a + x.length : Nat) : Int), x)) (fun k => ?_) (Ev.now _)
    rw [laws_markStringS.l0, if_neg (by omega)]
    obtain rfl : i = x.length := by omega
    rfl
  | succ d ih =>
    intro x i hi hb hx
    have hil : i < x.length := by omega
    have w1 : wrap64 (((a + i : Nat) : Int) + 1) = ((a + (i + 1) : Nat) : Int) := by unfold wrap64; omega
    have hl : (x.set i (mk (a + i))).length = x.length := List.length_set
    refine Ev.step (f := fun k => (laws_markText.f k ((a + i : Nat) : Int)).bind fun t => laws_markStringS.l0 k (x.set i t) ((a + (i + 1) : Nat) : Int) ((i + 1 : Nat) : Int)) (fun k => ?_) ?_
    · rw [laws_markStringS.l0, if_pos (by omega)]
      simp only [if_pos (show (0 : Int) ≤ (i : Int) by omega), w1, wsucc i (show i + 1 ≤ 9223372036854775807 by omega), Int.toNat_natCast]
    · refine (hmk (a + i) (by omega)).bind ?_
      have := ih (x.set i (mk (a + i))) (i + 1) (by omega) (by omega) (fun j hj => by
        by_cases h : j = i
        · subst h; rw [List.getElem?_set_self hil]
        · rw [List.getElem?_set_ne (by omega)]; exact hx j (by omega))
      rw [hl] at this
      exact this
theorem markS_ev (mk : Nat → ByteArray) (hmk : ∀ n : Nat, n < 1000000000000000000 → Ev (fun k => laws_markText.f k (n : Int)) (mk n)) (a : Nat) (x : List ByteArray) (h : a + x.length < 1000000000000000) :
    Ev (fun k => laws_markStringS.f k x (a : Int)) (((a + x.length : Nat) : Int), markL mk a x.length) :=
  Ev.congr (fun k => rfl) (markS_l0 mk hmk a x.length x 0 (by omega) h (fun j hj => by omega))
end Go.Proofs.Ytoebfjfhdodakaa.Pure
end
section
set_option linter.unusedVariables false
set_option linter.unusedSimpArgs false
namespace Go.Proofs.Ytoebfjfhdodakaa.Pure
open Go Go.RowKit Go.Proofs.Ytoebfjfhdodakaa Go.Proofs.Ytoebfjfhdodakaa.L Go.Proofs.YtoebfjfhdodakaaW.PrintWords Go.Proofs.YtoebfjfhdodakaaW.PrintMore Go.Proofs.YtoebfjfhdodakaaW.PrintLast
theorem heldS_l0 (mk : Nat → ByteArray) (hmk : ∀ n : Nat, n < 1000000000000000000 → Ev (fun k => laws_markText.f k (n : Int)) (mk n)) (a n : Nat) (hb : a + n < 1000000000000000) (d : Nat) : ∀ (i : Nat), i + d = n →
    Ev (fun k => laws_heldStringS.l0 k (markL mk a n) ((a + i : Nat) : Int) (i : Int)) ((a + n : Nat) : Int) := by
  induction d with
  | zero =>
    intro i hi
    refine Ev.step (f := fun _ => some ((a + n : Nat) : Int)) (fun k => ?_) (Ev.now _)
    rw [laws_heldStringS.l0, if_neg (by rw [markL_length]; omega)]
    obtain rfl : i = n := by omega
    rfl
  | succ d ih =>
    intro i hi
    have hil : i < (markL mk a n).length := by rw [markL_length]; omega
    have hat : (markL mk a n)[i] = mk (a + i) := by
      have := markL_at mk a n i (by omega)
      rw [List.getElem?_eq_getElem hil] at this
      exact Option.some.inj this
    have w1 : wrap64 (((a + i : Nat) : Int) + 1) = ((a + (i + 1) : Nat) : Int) := by unfold wrap64; omega
    refine Ev.step (f := fun k => (laws_markText.f k ((a + i : Nat) : Int)).bind fun t => if (mk (a + i)).toList = t.toList then laws_heldStringS.l0 k (markL mk a n) ((a + (i + 1) : Nat) : Int) ((i + 1 : Nat) : Int) else some (-1)) (fun k => ?_) ?_
    · rw [laws_heldStringS.l0, if_pos (by omega), if_pos (by omega), w1, wsucc i (by omega), rdS _ i hil, hat]
    · refine (hmk (a + i) (by omega)).bind ?_
      simp only [if_true]
      exact ih (i + 1) (by omega)
theorem heldS_ev (mk : Nat → ByteArray) (hmk : ∀ n : Nat, n < 1000000000000000000 → Ev (fun k => laws_markText.f k (n : Int)) (mk n)) (a n : Nat) (hb : a + n < 1000000000000000) :
    Ev (fun k => laws_heldStringS.f k (markL mk a n) (a : Int)) ((a + n : Nat) : Int) :=
  Ev.congr (fun k => rfl) (heldS_l0 mk hmk a n hb n 0 (by omega))
end Go.Proofs.Ytoebfjfhdodakaa.Pure
end
section
set_option linter.unusedVariables false
set_option linter.unusedSimpArgs false
namespace Go.Proofs.Ytoebfjfhdodakaa.Pure
open Go.RowKit Go.Proofs.Ytoebfjfhdodakaa Go.Proofs.Ytoebfjfhdodakaa.L Go.Proofs.YtoebfjfhdodakaaW.PrintWords Go.Proofs.YtoebfjfhdodakaaW.PrintLast
theorem ff : ¬ (false = true) := by decide
theorem FnExactScanFrames : laws_FnExactScanFrames.Pure := by
  intro s hs
  have h : Ev (fun k => laws_FnExactScanFrames.f k s) true := by
    unfold laws_FnExactScanFrames.f
    by_cases hc : (s.size : Int) > 1048576
    · simp only [if_pos hc]; exact Ev.now _
    · simp only [if_neg hc]
      have hl := scanP_len (s.size + 1) s
      have hsc := spec_scan s (by omega)
      have him := impl_scan s (by omega)
      revert hsc him hl
      generalize scanP (s.size + 1) s = l
      generalize ((totP l : Nat) : Int) = n
      intro hl hsc him
      obtain ⟨mk, hmk⟩ := marks
      have hheld : Ev (fun k => laws_heldStringS.f k (markL mk 1 l.length) 1) ((1 + l.length : Nat) : Int) := heldS_ev mk hmk 1 l.length (by omega)
      refine hsc.bind ?_
      refine him.bind ?_
      refine (eqS_ev l (by omega)).bind ?_
      simp only [if_true, bne_self_eq_false]
      refine Ev.step (f := fun k => (laws_markStringS.f k l 1).bind fun bt138 => ((laws_heldStringS.f k bt138.2 1).bind fun t140 => (if t140 < 0 then (some false) else (if t140 = bt138.1 then ((impl_ScanFrames.f k s).bind fun bt141 => ((laws_eqStringS.f k bt141.1 l).bind fun t145 => (if t145 = true then (laws_FnExactScanFrames.j1 k bt138.2 bt138.1 (bt141.2 != n)) else (laws_FnExactScanFrames.j1 k bt138.2 bt138.1 true)))) else (some false))))) (fun k => by rw [laws_FnExactScanFrames.j0, if_neg ff]) ?_
      refine (markS_ev mk hmk 1 l (by omega)).bind ?_
      refine hheld.bind ?_
      simp only [if_neg (show ¬ (((1 + l.length : Nat) : Int) < 0) by omega), if_true]
      refine him.bind ?_
      refine (eqS_ev l (by omega)).bind ?_
      simp only [if_true, bne_self_eq_false]
      refine Ev.step (f := fun k => (laws_heldStringS.f k (markL mk 1 l.length) 1).bind fun t146 => (if t146 < 0 then (some false) else (if t146 = ((1 + l.length : Nat) : Int) then (some true) else (some false)))) (fun k => by rw [laws_FnExactScanFrames.j1, if_neg ff]) ?_
      refine hheld.bind ?_
      simp only [if_neg (show ¬ (((1 + l.length : Nat) : Int) < 0) by omega), if_true]
      exact Ev.now _
  exact h.rounds
end Go.Proofs.Ytoebfjfhdodakaa.Pure
end
section
namespace Go.Proofs.Ytoebfjfhdodakaa.fnExactScanFrames
open Go.ChangeShapes Go.WideShapes Go.ChangeAt Go.RowKit
open Go.ChangeMaps (open_string shut_string)
set_option linter.unusedVariables false
theorem own : ownKnob Try.prog.godebug = none := by kernel_rfl
set_option maxRecDepth 100000 in
theorem lifted (os : Os) (started : os.Started) (H : Type) (enc : TypeId × Value → H) :
    ReturnsInHanded {} Try.checked os 4 .any (Rows.fnExactScanFramesSpec.pre6 enc Try.prog Try.f4 Rows.fnExactScanFramesRow.domain false) (Rows.fnExactScanFramesSpec.post enc Try.prog Try.f4 false true false false) := by
  refine returnsInHanded_of_change_sized (C := Try.checked) own started (by kernel_rfl) Try.func4
    (ChangeSpec.witness6 (enc := enc) (C := Try.checked) false ⟨#[], #[.string ByteArray.empty], []⟩ 8 (by kernel_rfl) (by kernel_rfl) (by kernel_rfl) (by kernel_rfl)) ?_
  intro W base args ds gs before hval0 hW hcnd hsz0 _
  have hsz : (DataW.weightsEach Try.prog (Try.f4.params.toList ++ Rows.fnExactScanFramesSpec.plain.varTypes Try.prog) (ds ++ gs)).all (· ≤ reachBytes) = true := hsz0
  have hval : ∀ (j : Nat) t v, Try.f4.params[j]? = some t → args[j]? = some v → Value.okWide Try.prog W .any base t v := hval0
  have hW' := hW
  obtain ⟨p, q, hA0, hV, rfl, hfz, hnd⟩ := hW
  have hA : DataW.TrodAll enc Try.prog W 0 (fun _ => true) true Try.f4.params.toList args.toList ds p := hA0
  rw [Try.params4] at hA hval hsz
  obtain ⟨v0, vs0, d0, ds0, p0, q0, hargs, rfl, rfl, h0, r0⟩ := trodAll_cons hA
  obtain ⟨rfl, rfl, rfl⟩ := trodAll_nil r0
  obtain rfl : args = #[v0] := by cases args; simp_all
  obtain ⟨rfl, rfl⟩ := trodVars_none hV
  obtain ⟨a0, rfl, rfl, rfl, y0⟩ := open_string Try.underlying9 (hval 0 9 v0 rfl rfl) h0
  have w0 : a0.size ≤ 140737488351232 := by
    have z := sized_string hsz (j := 0) (t := 9) rfl rfl
    rw [Array.length_toList] at z
    exact z
  clear hA0 hval0 hsz0 hsz
  refine (L.laws_FnExactScanFrames.walk Pure.FnExactScanFrames a0 W w0).mono fun e W' ⟨he, bel⟩ => ?_
  subst he
  exact ⟨_, rfl, _, _, _, [], _, [], hW', trodAll_mk1 (shut_bool Try.underlying4 _), (trodAll_cons_mk (shut_string Try.underlying9 y0) trodAll_mk0), rfl, bel.frame _, fun h => by cases h⟩
theorem over : Rows.fnExactScanFramesRow.holds Try.pinned (OpenSpec.ofChange Rows.fnExactScanFramesSpec) :=
  OpenClaim.holds_of_wide 4 Try.f4 rfl rfl rfl rfl rfl rfl rfl ⟨rfl, rfl, rfl, rfl, rfl⟩ rfl rfl rfl rfl rfl (by kernel_rfl) Try.func4 (by kernel_rfl)
    (of_decide_eq_true (by kernel_rfl)) (by unfold Func.isWrapper; first | (rw [if_pos (by decide +kernel)]; kernel_rfl) | (rw [if_neg (by decide +kernel)]; exact ⟨rfl, rfl⟩))
    (fun os started H enc _ => lifted os started H enc)
theorem proved : Rows.FnExactScanFramesSaid := over
end Go.Proofs.Ytoebfjfhdodakaa.fnExactScanFrames
namespace Go.Proofs.Ytoebfjfhdodakaa
/-- The row, under a short name, for the claim. -/
theorem fnExactScanFrames_holds : Rows.FnExactScanFramesSaid := fnExactScanFrames.proved
end Go.Proofs.Ytoebfjfhdodakaa
end
