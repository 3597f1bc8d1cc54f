/- The texts that the proof of the law FnBurst rests on, part 4: printed functions with their contracts, words, plain laws; the last part ends in the statement itself. No condition but those that each theorem states. -/
import Derived.Test.YtoebfjfhdodakaaKFnBurst3
set_option linter.unusedVariables false
set_option linter.unusedSimpArgs false
section
namespace Go.Proofs.Ytoebfjfhdodakaa.L
open Go.RowKit Go.Proofs.YtoebfjfhdodakaaW.PrintWords Go.Proofs.YtoebfjfhdodakaaW.PrintLast Go.Proofs.YtoebfjfhdodakaaW.PrintMore
attribute [local go_sem] max2_int min2_int max_two min_two max_three min_three max_four min_four
set_option linter.unusedVariables false
set_option linter.unusedSimpArgs false
open Go.Proofs.YtoebfjfhdodakaaW.PrintWords renaming bal → zA
open Go.Proofs.YtoebfjfhdodakaaW.PrintWords renaming pbd → zD
open Go.Proofs.YtoebfjfhdodakaaW.PrintWords renaming bd1 → z1
open Go.Proofs.YtoebfjfhdodakaaW.PrintWords renaming bse → zS
open Go.Proofs.YtoebfjfhdodakaaW.PrintWords renaming bdN → zbN
open Go.Proofs.YtoebfjfhdodakaaW.PrintWords renaming bkD → zb1
open Go.Proofs.YtoebfjfhdodakaaW.PrintWords renaming bkA → zbA
open Go.Proofs.YtoebfjfhdodakaaW.PrintWords.Kd renaming Ral → zRa
open Go.Proofs.YtoebfjfhdodakaaW.PrintWords.Kd renaming RdN → zRn
open Go.Proofs.YtoebfjfhdodakaaW.PrintWords.Kd renaming Rdr → zRd
open Go.Proofs.YtoebfjfhdodakaaW.PrintWords.Kd renaming Cal → zCa
open Go.Proofs.YtoebfjfhdodakaaW.PrintWords.Kd renaming CdN → zCn
open Go.Proofs.YtoebfjfhdodakaaW.PrintWords.Kd renaming Cdr → zCd
open Go.Proofs.YtoebfjfhdodakaaW.PrintWords renaming bbe → zbb
open Go.Proofs.YtoebfjfhdodakaaW.PrintWords renaming bst → zst
open Go.Proofs.YtoebfjfhdodakaaW.PrintLast renaming goesL_ → zg
open Go.Proofs.YtoebfjfhdodakaaW.PrintWords renaming gcl → zgc
open Go.Proofs.YtoebfjfhdodakaaW.PrintWords renaming gds → zgd
open Go.Proofs.YtoebfjfhdodakaaW.PrintWords.Kd renaming R_reads' → zRr
open Go.Proofs.YtoebfjfhdodakaaW.PrintWords.Kd renaming Rlo → zRl
open Go.Proofs.YtoebfjfhdodakaaW.PrintWords.Kd renaming R_elder' → zRe
open Go.Proofs.YtoebfjfhdodakaaW.PrintWords.Kd renaming Rbe → zRb
open Go.Proofs.YtoebfjfhdodakaaW.PrintWords renaming bce → zbc
mutual
def spec_l5DrawStm.j0 : Nat → List (S114) → Int → List (S122) → Bool → List Int → Int → Int → Int → ByteArray → ByteArray → Option (Int × ByteArray × (List (S114)) × (List (S116)) × ByteArray × (List (S122)) × (List (S122)) × (List (List (S122))) × Int × Int)
  | 0, _, _, _, _, _, _, _, _, _, _ => none
  | k + 1, x4, x5, x6, x29, x1000, x1001, x1002, x292000, x292001, x292004 => if x29 = true then ((spec_l5DrawExp.f k x1000 x1001 x1002 x4 1 0).bind fun bt304 => (spec_l5DrawStm.j1 k x4 x5 bt304.1 x1000 bt304.2.1 bt304.2.2 x292000 x292001 x292004)) else (spec_l5DrawStm.j1 k x4 x5 x6 x1000 x1001 x1002 x292000 x292001 x292004)
def spec_l5DrawStm.j1 : Nat → List (S114) → Int → List (S122) → List Int → Int → Int → Int → ByteArray → ByteArray → Option (Int × ByteArray × (List (S114)) × (List (S116)) × ByteArray × (List (S122)) × (List (S122)) × (List (List (S122))) × Int × Int)
  | 0, _, _, _, _, _, _, _, _, _ => none
  | k + 1, x4, x5, x6, x1000, x1001, x1002, x292000, x292001, x292004 => if x5 = 0 then ((spec_l1Cur_pick.f x1000 x1001 x1002 3).bind fun bt309 => (spec_l5DrawStm.j2 k x4 x5 x6 (bt309.1 == 0) x1000 bt309.2.1 bt309.2.2 x292000 x292001 x292004)) else (spec_l5DrawStm.j2 k x4 x5 x6 false x1000 x1001 x1002 x292000 x292001 x292004)
def spec_l5DrawStm.j5 : Nat → List Int → Int → Int → Int → ByteArray → List (S114) → List (S116) → ByteArray → List (S122) → List (S122) → List (List (S122)) → Option (Int × ByteArray × (List (S114)) × (List (S116)) × ByteArray × (List (S122)) × (List (S122)) × (List (List (S122))) × Int × Int)
  | 0, _, _, _, _, _, _, _, _, _, _, _ => none
  | k + 1, x1000, x1001, x1002, x292000, x292001, x292002, x292003, x292004, x292005, x292006, x292007 => (spec_l1Cur_pick.f x1000 x1001 x1002 6).bind fun bt352 => (if bt352.1 = 5 then (if x292000 = 1 then ((some (([] : List (S114)) : List (S114))).bind fun y355 => (if y355.length + x292002.length < 5864062014805 then ((some (y355 ++ x292002 : List (S114))).bind fun y358 => (if 0 < (x292002.length : Int) then ((some (([(⟨(rd_T114 x292002 0).f0, (rd_T114 x292002 0).f1⟩ : S114)] : List (S114)) : List (S114))).bind fun y362 => (if y358.length + y362.length < 5864062014805 then (some (x292000, x292001, (y358 ++ y362), x292003, x292004, x292005, x292006, x292007, bt352.2.1, bt352.2.2)) else (none))) else (none))) else (none))) else (if x292000 = 2 then ((spec_l1Cur_pick.f x1000 bt352.2.1 bt352.2.2 2).bind fun bt368 => ((spec_l5DrawValue.f x1000 bt368.2.1 bt368.2.2 (wrap64 (1 + bt368.1))).bind fun bt371 => (if 0 < (x292003.length : Int) then ((spec_l1Cur_pick.f x1000 bt371.2.2.2.1 bt371.2.2.2.2 (x292003.length : Int)).bind fun bt377 => (if 0 ≤ (wrap64 (1 + bt377.1)) then (if (wrap64 (1 + bt377.1)) ≤ (x292003.length : Int) then (some (x292000, x292001, x292002, ((x292003.set (0 : Int).toNat (⟨bt371.1, bt371.2.1, bt371.2.2.1⟩ : S116)).take ((wrap64 (1 + bt377.1)) : Int).toNat), x292004, x292005, x292006, x292007, bt377.2.1, bt377.2.2)) else (none)) else (none))) else (none)))) else (if x292000 = 3 then ((some (([(⟨#[105, 100]⟩ : ByteArray), (⟨#[110, 97, 109, 101]⟩ : ByteArray), (⟨#[122, 122]⟩ : ByteArray)] : List ByteArray) : List ByteArray)).bind fun y383 => ((spec_l1Cur_pick.f x1000 bt352.2.1 bt352.2.2 3).bind fun bt386 => (if 0 ≤ bt386.1 then (if bt386.1 < (y383.length : Int) then (some (x292000, x292001, x292002, x292003, rdOf ByteArray.empty y383 bt386.1, x292005, x292006, x292007, bt386.2.1, bt386.2.2)) else (none)) else (none)))) else ((some (([(⟨#[110, 97, 109, 101]⟩ : ByteArray), (⟨#[105, 100]⟩ : ByteArray), (⟨#[122, 122]⟩ : ByteArray), (⟨#[107, 101, 121]⟩ : ByteArray)] : List ByteArray) : List ByteArray)).bind fun y390 => ((spec_l1Cur_pick.f x1000 bt352.2.1 bt352.2.2 4).bind fun bt393 => (if 0 ≤ bt393.1 then (if bt393.1 < (y390.length : Int) then (some (x292000, x292001, x292002, x292003, x292004, x292005, (([(⟨3, 0, rdOf ByteArray.empty y390 bt393.1⟩ : S122)] : List (S122))), x292007, bt393.2.1, bt393.2.2)) else (none)) else (none))))))) else (some (x292000, x292001, x292002, x292003, x292004, x292005, x292006, x292007, bt352.2.1, bt352.2.2)))
def spec_l5DrawStm.j2 : Nat → List (S114) → Int → List (S122) → Bool → List Int → Int → Int → Int → ByteArray → ByteArray → Option (Int × ByteArray × (List (S114)) × (List (S116)) × ByteArray × (List (S122)) × (List (S122)) × (List (List (S122))) × Int × Int)
  | 0, _, _, _, _, _, _, _, _, _, _ => none
  | k + 1, x4, x5, x6, x56, x1000, x1001, x1002, x292000, x292001, x292004 => if x56 = true then (spec_l5DrawStm.j5 k x1000 x1001 x1002 1 x292001 x4 ([] : List (S116)) x292004 ([] : List (S122)) ([] : List (S122)) ([] : List (List (S122)))) else (if x5 ≤ 6 then (spec_l5DrawStm.l0 k x4 (x4.length : Int) 0 x1000 x1001 x1002 2 x292001 ([] : List (S116)) x292004) else (if x5 ≤ 8 then ((spec_l1Cur_pick.f x1000 x1001 x1002 (x4.length : Int)).bind fun bt325 => (if 0 ≤ bt325.1 then (if bt325.1 < (x4.length : Int) then ((spec_l5DrawExp.f k x1000 bt325.2.1 bt325.2.2 x4 ((rd_T114 x4 bt325.1).f1) 0).bind fun bt330 => (spec_l5DrawStm.j5 k x1000 bt330.2.1 bt330.2.2 3 x292001 ([] : List (S114)) ([] : List (S116)) ((rd_T114 x4 bt325.1).f0) bt330.1 x6 ([] : List (List (S122))))) else (none)) else (none))) else (if x5 = 9 then (spec_l5DrawStm.j5 k x1000 x1001 x1002 4 x292001 ([] : List (S114)) ([] : List (S116)) x292004 ([] : List (S122)) x6 ([] : List (List (S122)))) else ((spec_l1Cur_pick.f x1000 x1001 x1002 3).bind fun bt335 => (spec_l5DrawStm.l1 k x4 x6 (wrap64 (1 + bt335.1)) 0 x1000 bt335.2.1 bt335.2.2 5 x292001 x292004 ([] : List (List (S122))))))))
def spec_l5DrawStm.l0 : Nat → List (S114) → Int → Int → List Int → Int → Int → Int → ByteArray → List (S116) → ByteArray → Option (Int × ByteArray × (List (S114)) × (List (S116)) × ByteArray × (List (S122)) × (List (S122)) × (List (List (S122))) × Int × Int)
  | 0, _, _, _, _, _, _, _, _, _, _ => none
  | k + 1, x71, x72, x73, x1000, x1001, x1002, x292000, x292001, x292003, x292004 => if x73 < x72 then (if 0 ≤ x73 then (if x73 < (x71.length : Int) then ((spec_l5DrawValue.f x1000 x1001 x1002 ((rd_T114 x71 x73).f1)).bind fun bt314 => ((some (([(⟨bt314.1, bt314.2.1, bt314.2.2.1⟩ : S116)] : List (S116)) : List (S116))).bind fun y319 => (if x292003.length + y319.length < 4398046511104 then (spec_l5DrawStm.l0 k x71 x72 (wrap64 (x73 + 1)) x1000 bt314.2.2.2.1 bt314.2.2.2.2 x292000 x292001 (x292003 ++ y319) x292004) else (none)))) else (none)) else (none)) else (spec_l5DrawStm.j5 k x1000 x1001 x1002 x292000 x292001 ([] : List (S114)) x292003 x292004 ([] : List (S122)) ([] : List (S122)) ([] : List (List (S122))))
def spec_l5DrawStm.l1 : Nat → List (S114) → List (S122) → Int → Int → List Int → Int → Int → Int → ByteArray → ByteArray → List (List (S122)) → Option (Int × ByteArray × (List (S114)) × (List (S116)) × ByteArray × (List (S122)) × (List (S122)) × (List (List (S122))) × Int × Int)
  | 0, _, _, _, _, _, _, _, _, _, _, _ => none
  | k + 1, x4, x6, x10, x11, x1000, x1001, x1002, x292000, x292001, x292004, x292007 => if x11 < x10 then ((spec_l1Cur_pick.f x1000 x1001 x1002 2).bind fun bt338 => ((spec_l5DrawExp.f k x1000 bt338.2.1 bt338.2.2 x4 (wrap64 (1 + bt338.1)) 0).bind fun bt341 => ((some (([bt341.1] : List (List (S122))) : List (List (S122)))).bind fun y346 => (if x292007.length + y346.length < 5864062014805 then (spec_l5DrawStm.l1 k x4 x6 x10 (wrap64 (x11 + 1)) x1000 bt341.2.1 bt341.2.2 x292000 x292001 x292004 (x292007 ++ y346)) else (none))))) else (spec_l5DrawStm.j5 k x1000 x1001 x1002 x292000 x292001 ([] : List (S114)) ([] : List (S116)) x292004 ([] : List (S122)) x6 x292007)
end
def spec_l5DrawStm.f (k : Nat) (s0_0 : List Int) (s0_1 : Int) (s0_2 : Int) : Option (Int × ByteArray × (List (S114)) × (List (S116)) × ByteArray × (List (S122)) × (List (S122)) × (List (List (S122))) × Int × Int) := (spec_l5DrawName.f s0_0 s0_1 s0_2).bind fun bt288 => ((spec_l5Usual.f bt288.1).bind fun t292 => ((spec_l1Cur_pick.f s0_0 bt288.2.1 bt288.2.2 12).bind fun bt295 => ((some (([] : List (S122)) : List (S122))).bind fun y298 => (if bt295.1 > 6 then ((spec_l1Cur_pick.f s0_0 bt295.2.1 bt295.2.2 4).bind fun bt301 => (spec_l5DrawStm.j0 k t292 bt295.1 y298 (decide (bt301.1 > 0)) s0_0 bt301.2.1 bt301.2.2 0 bt288.1 (⟨#[]⟩ : ByteArray))) else (spec_l5DrawStm.j0 k t292 bt295.1 y298 false s0_0 bt295.2.1 bt295.2.2 0 bt288.1 (⟨#[]⟩ : ByteArray))))))
theorem spec_l5DrawStm.mono_l : ∀ k, (∀ y0 y1 y2 y3 y4 y5 y6 y7 y8 y9, LeO (spec_l5DrawStm.j0 k y0 y1 y2 y3 y4 y5 y6 y7 y8 y9) (spec_l5DrawStm.j0 (k + 1) y0 y1 y2 y3 y4 y5 y6 y7 y8 y9)) ∧ (∀ y0 y1 y2 y3 y4 y5 y6 y7 y8, LeO (spec_l5DrawStm.j1 k y0 y1 y2 y3 y4 y5 y6 y7 y8) (spec_l5DrawStm.j1 (k + 1) y0 y1 y2 y3 y4 y5 y6 y7 y8)) ∧ (∀ y0 y1 y2 y3 y4 y5 y6 y7 y8 y9 y10, LeO (spec_l5DrawStm.j5 k y0 y1 y2 y3 y4 y5 y6 y7 y8 y9 y10) (spec_l5DrawStm.j5 (k + 1) y0 y1 y2 y3 y4 y5 y6 y7 y8 y9 y10)) ∧ (∀ y0 y1 y2 y3 y4 y5 y6 y7 y8 y9, LeO (spec_l5DrawStm.j2 k y0 y1 y2 y3 y4 y5 y6 y7 y8 y9) (spec_l5DrawStm.j2 (k + 1) y0 y1 y2 y3 y4 y5 y6 y7 y8 y9)) ∧ (∀ y0 y1 y2 y3 y4 y5 y6 y7 y8 y9, LeO (spec_l5DrawStm.l0 k y0 y1 y2 y3 y4 y5 y6 y7 y8 y9) (spec_l5DrawStm.l0 (k + 1) y0 y1 y2 y3 y4 y5 y6 y7 y8 y9)) ∧ (∀ y0 y1 y2 y3 y4 y5 y6 y7 y8 y9 y10, LeO (spec_l5DrawStm.l1 k y0 y1 y2 y3 y4 y5 y6 y7 y8 y9 y10) (spec_l5DrawStm.l1 (k + 1) y0 y1 y2 y3 y4 y5 y6 y7 y8 y9 y10))
  | 0 => ⟨fun _ _ _ _ _ _ _ _ _ _ r h => by simp [spec_l5DrawStm.j0] at h, fun _ _ _ _ _ _ _ _ _ r h => by simp [spec_l5DrawStm.j1] at h, fun _ _ _ _ _ _ _ _ _ _ _ r h => by simp [spec_l5DrawStm.j5] at h, fun _ _ _ _ _ _ _ _ _ _ r h => by simp [spec_l5DrawStm.j2] at h, fun _ _ _ _ _ _ _ _ _ _ r h => by simp [spec_l5DrawStm.l0] at h, fun _ _ _ _ _ _ _ _ _ _ _ r h => by simp [spec_l5DrawStm.l1] at h⟩
  | k + 1 => by
    obtain ⟨ih0, ih1, ih2, ih3, ih4, ih5⟩ := spec_l5DrawStm.mono_l k
    refine ⟨?_, ?_, ?_, ?_, ?_, ?_⟩
    · intro y0 y1 y2 y3 y4 y5 y6 y7 y8 y9
      unfold spec_l5DrawStm.j0
      repeat' first
      | (with_reducible exact ih0 _ _ _ _ _ _ _ _ _ _)
      | (with_reducible exact ih1 _ _ _ _ _ _ _ _ _)
      | (with_reducible exact ih2 _ _ _ _ _ _ _ _ _ _ _)
      | (with_reducible exact ih3 _ _ _ _ _ _ _ _ _ _)
      | (with_reducible exact ih4 _ _ _ _ _ _ _ _ _ _)
      | (with_reducible exact ih5 _ _ _ _ _ _ _ _ _ _ _)
      | (with_reducible exact spec_l5DrawExp.mono _ _ _ _ _ _ _)
      | (with_reducible exact LeO.refl _)
      | (with_reducible exact LeO.none _)
      | (with_reducible refine LeO.ite ?_ ?_)
      | (with_reducible refine LeO.bind ?_ (fun _ => ?_))
      | exact ih0 _ _ _ _ _ _ _ _ _ _
      | exact ih1 _ _ _ _ _ _ _ _ _
      | exact ih2 _ _ _ _ _ _ _ _ _ _ _
      | exact ih3 _ _ _ _ _ _ _ _ _ _
      | exact ih4 _ _ _ _ _ _ _ _ _ _
      | exact ih5 _ _ _ _ _ _ _ _ _ _ _
      | exact spec_l5DrawExp.mono _ _ _ _ _ _ _
      | exact LeO.none _
      | refine LeO.ite ?_ ?_
      | refine LeO.bind ?_ (fun _ => ?_)
    · intro y0 y1 y2 y3 y4 y5 y6 y7 y8
      unfold spec_l5DrawStm.j1
      repeat' first
      | (with_reducible exact ih0 _ _ _ _ _ _ _ _ _ _)
      | (with_reducible exact ih1 _ _ _ _ _ _ _ _ _)
      | (with_reducible exact ih2 _ _ _ _ _ _ _ _ _ _ _)
      | (with_reducible exact ih3 _ _ _ _ _ _ _ _ _ _)
      | (with_reducible exact ih4 _ _ _ _ _ _ _ _ _ _)
      | (with_reducible exact ih5 _ _ _ _ _ _ _ _ _ _ _)
      | (with_reducible exact spec_l5DrawExp.mono _ _ _ _ _ _ _)
      | (with_reducible exact LeO.refl _)
      | (with_reducible exact LeO.none _)
      | (with_reducible refine LeO.ite ?_ ?_)
      | (with_reducible refine LeO.bind ?_ (fun _ => ?_))
      | exact ih0 _ _ _ _ _ _ _ _ _ _
      | exact ih1 _ _ _ _ _ _ _ _ _
      | exact ih2 _ _ _ _ _ _ _ _ _ _ _
      | exact ih3 _ _ _ _ _ _ _ _ _ _
      | exact ih4 _ _ _ _ _ _ _ _ _ _
      | exact ih5 _ _ _ _ _ _ _ _ _ _ _
      | exact spec_l5DrawExp.mono _ _ _ _ _ _ _
      | exact LeO.none _
      | refine LeO.ite ?_ ?_
      | refine LeO.bind ?_ (fun _ => ?_)
    · intro y0 y1 y2 y3 y4 y5 y6 y7 y8 y9 y10
      unfold spec_l5DrawStm.j5
      repeat' first
      | (with_reducible exact ih0 _ _ _ _ _ _ _ _ _ _)
      | (with_reducible exact ih1 _ _ _ _ _ _ _ _ _)
      | (with_reducible exact ih2 _ _ _ _ _ _ _ _ _ _ _)
      | (with_reducible exact ih3 _ _ _ _ _ _ _ _ _ _)
      | (with_reducible exact ih4 _ _ _ _ _ _ _ _ _ _)
      | (with_reducible exact ih5 _ _ _ _ _ _ _ _ _ _ _)
      | (with_reducible exact spec_l5DrawExp.mono _ _ _ _ _ _ _)
      | (with_reducible exact LeO.refl _)
      | (with_reducible exact LeO.none _)
      | (with_reducible refine LeO.ite ?_ ?_)
      | (with_reducible refine LeO.bind ?_ (fun _ => ?_))
      | exact ih0 _ _ _ _ _ _ _ _ _ _
      | exact ih1 _ _ _ _ _ _ _ _ _
      | exact ih2 _ _ _ _ _ _ _ _ _ _ _
      | exact ih3 _ _ _ _ _ _ _ _ _ _
      | exact ih4 _ _ _ _ _ _ _ _ _ _
      | exact ih5 _ _ _ _ _ _ _ _ _ _ _
      | exact spec_l5DrawExp.mono _ _ _ _ _ _ _
      | exact LeO.none _
      | refine LeO.ite ?_ ?_
      | refine LeO.bind ?_ (fun _ => ?_)
    · intro y0 y1 y2 y3 y4 y5 y6 y7 y8 y9
      unfold spec_l5DrawStm.j2
      repeat' first
      | (with_reducible exact ih0 _ _ _ _ _ _ _ _ _ _)
      | (with_reducible exact ih1 _ _ _ _ _ _ _ _ _)
      | (with_reducible exact ih2 _ _ _ _ _ _ _ _ _ _ _)
      | (with_reducible exact ih3 _ _ _ _ _ _ _ _ _ _)
      | (with_reducible exact ih4 _ _ _ _ _ _ _ _ _ _)
      | (with_reducible exact ih5 _ _ _ _ _ _ _ _ _ _ _)
      | (with_reducible exact spec_l5DrawExp.mono _ _ _ _ _ _ _)
      | (with_reducible exact LeO.refl _)
      | (with_reducible exact LeO.none _)
      | (with_reducible refine LeO.ite ?_ ?_)
      | (with_reducible refine LeO.bind ?_ (fun _ => ?_))
      | exact ih0 _ _ _ _ _ _ _ _ _ _
      | exact ih1 _ _ _ _ _ _ _ _ _
      | exact ih2 _ _ _ _ _ _ _ _ _ _ _
      | exact ih3 _ _ _ _ _ _ _ _ _ _
      | exact ih4 _ _ _ _ _ _ _ _ _ _
      | exact ih5 _ _ _ _ _ _ _ _ _ _ _
      | exact spec_l5DrawExp.mono _ _ _ _ _ _ _
      | exact LeO.none _
      | refine LeO.ite ?_ ?_
      | refine LeO.bind ?_ (fun _ => ?_)
    · intro y0 y1 y2 y3 y4 y5 y6 y7 y8 y9
      unfold spec_l5DrawStm.l0
      repeat' first
      | (with_reducible exact ih0 _ _ _ _ _ _ _ _ _ _)
      | (with_reducible exact ih1 _ _ _ _ _ _ _ _ _)
      | (with_reducible exact ih2 _ _ _ _ _ _ _ _ _ _ _)
      | (with_reducible exact ih3 _ _ _ _ _ _ _ _ _ _)
      | (with_reducible exact ih4 _ _ _ _ _ _ _ _ _ _)
      | (with_reducible exact ih5 _ _ _ _ _ _ _ _ _ _ _)
      | (with_reducible exact spec_l5DrawExp.mono _ _ _ _ _ _ _)
      | (with_reducible exact LeO.refl _)
      | (with_reducible exact LeO.none _)
      | (with_reducible refine LeO.ite ?_ ?_)
      | (with_reducible refine LeO.bind ?_ (fun _ => ?_))
      | exact ih0 _ _ _ _ _ _ _ _ _ _
      | exact ih1 _ _ _ _ _ _ _ _ _
      | exact ih2 _ _ _ _ _ _ _ _ _ _ _
      | exact ih3 _ _ _ _ _ _ _ _ _ _
      | exact ih4 _ _ _ _ _ _ _ _ _ _
      | exact ih5 _ _ _ _ _ _ _ _ _ _ _
      | exact spec_l5DrawExp.mono _ _ _ _ _ _ _
      | exact LeO.none _
      | refine LeO.ite ?_ ?_
      | refine LeO.bind ?_ (fun _ => ?_)
    · intro y0 y1 y2 y3 y4 y5 y6 y7 y8 y9 y10
      unfold spec_l5DrawStm.l1
      repeat' first
      | (with_reducible exact ih0 _ _ _ _ _ _ _ _ _ _)
      | (with_reducible exact ih1 _ _ _ _ _ _ _ _ _)
      | (with_reducible exact ih2 _ _ _ _ _ _ _ _ _ _ _)
      | (with_reducible exact ih3 _ _ _ _ _ _ _ _ _ _)
      | (with_reducible exact ih4 _ _ _ _ _ _ _ _ _ _)
      | (with_reducible exact ih5 _ _ _ _ _ _ _ _ _ _ _)
      | (with_reducible exact spec_l5DrawExp.mono _ _ _ _ _ _ _)
      | (with_reducible exact LeO.refl _)
      | (with_reducible exact LeO.none _)
      | (with_reducible refine LeO.ite ?_ ?_)
      | (with_reducible refine LeO.bind ?_ (fun _ => ?_))
      | exact ih0 _ _ _ _ _ _ _ _ _ _
      | exact ih1 _ _ _ _ _ _ _ _ _
      | exact ih2 _ _ _ _ _ _ _ _ _ _ _
      | exact ih3 _ _ _ _ _ _ _ _ _ _
      | exact ih4 _ _ _ _ _ _ _ _ _ _
      | exact ih5 _ _ _ _ _ _ _ _ _ _ _
      | exact spec_l5DrawExp.mono _ _ _ _ _ _ _
      | exact LeO.none _
      | refine LeO.ite ?_ ?_
      | refine LeO.bind ?_ (fun _ => ?_)
theorem spec_l5DrawStm.mono : ∀ a0 a1 a2 k, LeO (spec_l5DrawStm.f k a0 a1 a2) (spec_l5DrawStm.f (k + 1) a0 a1 a2) := by
  intro a0 a1 a2 k
  obtain ⟨ih0, ih1, ih2, ih3, ih4, ih5⟩ := spec_l5DrawStm.mono_l k
  unfold spec_l5DrawStm.f
  repeat' first
      | (with_reducible exact ih0 _ _ _ _ _ _ _ _ _ _)
      | (with_reducible exact ih1 _ _ _ _ _ _ _ _ _)
      | (with_reducible exact ih2 _ _ _ _ _ _ _ _ _ _ _)
      | (with_reducible exact ih3 _ _ _ _ _ _ _ _ _ _)
      | (with_reducible exact ih4 _ _ _ _ _ _ _ _ _ _)
      | (with_reducible exact ih5 _ _ _ _ _ _ _ _ _ _ _)
      | (with_reducible exact spec_l5DrawExp.mono _ _ _ _ _ _ _)
      | (with_reducible exact LeO.refl _)
      | (with_reducible exact LeO.none _)
      | (with_reducible refine LeO.ite ?_ ?_)
      | (with_reducible refine LeO.bind ?_ (fun _ => ?_))
      | exact ih0 _ _ _ _ _ _ _ _ _ _
      | exact ih1 _ _ _ _ _ _ _ _ _
      | exact ih2 _ _ _ _ _ _ _ _ _ _ _
      | exact ih3 _ _ _ _ _ _ _ _ _ _
      | exact ih4 _ _ _ _ _ _ _ _ _ _
      | exact ih5 _ _ _ _ _ _ _ _ _ _ _
      | exact spec_l5DrawExp.mono _ _ _ _ _ _ _
      | exact LeO.none _
      | refine LeO.ite ?_ ?_
      | refine LeO.bind ?_ (fun _ => ?_)
def spec_l5DrawStm.T13 : Bool × List (List Nat × List Nat) := (true, [([], []), ([0], [0]), ([], []), ([], []), ([], []), ([2, 3, 4], [2, 3, 4]), ([5], [5]), ([1, 6, 5], [1, 6]), ([0, 1, 2, 3, 4, 5, 6, 7], []), ([8, 7, 7, 0, 1, 2, 3, 4, 5, 6, 7], [7, 8])])
def spec_l5DrawStm.B13 : List Nat := [0, 1, 0, 0, 0, 28, 60, 127, 255, 511]
theorem spec_l5DrawStm.tab13 : rtab .any (opsOf Try.f70 13) = spec_l5DrawStm.T13 := by kernel_rfl
theorem spec_l5DrawStm.bits13 : waitsOk spec_l5DrawStm.T13.2 spec_l5DrawStm.B13 = true := by kernel_rfl
def spec_l5DrawStm.T23 : Bool × List (List Nat × List Nat) := (true, [([], []), ([0], [0]), ([], []), ([], []), ([3], [3]), ([2, 4], [2, 4]), ([5], [5]), ([1, 6, 5], [1, 6]), ([0, 1, 2, 3, 4, 5, 6, 7], []), ([8, 7, 7, 0, 1, 2, 3, 4, 5, 6, 7], [7, 8])])
def spec_l5DrawStm.B23 : List Nat := [0, 1, 0, 0, 8, 28, 60, 127, 255, 511]
theorem spec_l5DrawStm.tab23 : rtab .any (opsOf Try.f70 23) = spec_l5DrawStm.T23 := by kernel_rfl
theorem spec_l5DrawStm.bits23 : waitsOk spec_l5DrawStm.T23.2 spec_l5DrawStm.B23 = true := by kernel_rfl
def spec_l5DrawStm.T38 : Bool × List (List Nat × List Nat) := (true, [([], []), ([], []), ([1], [1]), ([0, 2], [0, 2]), ([], []), ([4], [4]), ([5], [5]), ([6], [6]), ([7], [7]), ([3, 8, 3], [3, 8]), ([0, 1, 2, 3, 4, 5, 6, 7, 8, 9], []), ([10, 9, 9, 0, 1, 2, 3, 4, 5, 6, 7, 8, 9], [9, 10])])
def spec_l5DrawStm.B38 : List Nat := [0, 0, 2, 7, 0, 16, 48, 112, 240, 511, 1023, 2047]
theorem spec_l5DrawStm.tab38 : rtab .any (opsOf Try.f70 38) = spec_l5DrawStm.T38 := by kernel_rfl
theorem spec_l5DrawStm.bits38 : waitsOk spec_l5DrawStm.T38.2 spec_l5DrawStm.B38 = true := by kernel_rfl
def spec_l5DrawStm.T42 : Bool × List (List Nat × List Nat) := (true, [([], []), ([0], [0]), ([], []), ([], []), ([3], [3]), ([4], [4]), ([2, 5], [2, 5]), ([6], [6]), ([1, 7], [1, 7]), ([0, 1, 2, 3, 4, 5, 6, 7, 8], []), ([9, 8, 6, 0, 1, 2, 3, 4, 5, 6, 7, 8], [8, 9])])
def spec_l5DrawStm.B42 : List Nat := [0, 1, 0, 0, 8, 24, 60, 124, 255, 511, 1023]
theorem spec_l5DrawStm.tab42 : rtab .any (opsOf Try.f70 42) = spec_l5DrawStm.T42 := by kernel_rfl
theorem spec_l5DrawStm.bits42 : waitsOk spec_l5DrawStm.T42.2 spec_l5DrawStm.B42 = true := by kernel_rfl
end Go.Proofs.Ytoebfjfhdodakaa.L
end
