/- The texts that the proof of the law FnExactFsStep rests on, part 3: printed functions with their contracts, words, plain laws; the last part ends in the statement itself. No condition but those that each theorem states. -/
import Derived.Test.YtoebfjfhdodakaaKFnExactFsStep2
set_option linter.unusedVariables false
set_option linter.unusedSimpArgs false
section
set_option linter.unusedVariables false
set_option linter.unusedSimpArgs false
namespace Go.Proofs.Ytoebfjfhdodakaa.L
open Go Go.RowKit Go.Proofs Go.Proofs.Ytoebfjfhdodakaa Go.Proofs.YtoebfjfhdodakaaW.PrintWords Go.Proofs.YtoebfjfhdodakaaW.PrintLast Go.Proofs.YtoebfjfhdodakaaW.PrintMore
theorem infoOp : (Try.prog.info? 35).map (·.size) = some 4 := by kernel_rfl
/-- The files, the count, down, the code behind an operation. -/
def stepN (l : List FileT) (cap cnt cr fa : Int) (dn : Bool) (kind : Int) (name data : ByteArray) (size : Int) : List FileT × Int × Bool × Int :=
  if (tickR cnt cr fa dn).1 = 0 then ((doN l cap kind name data size).1, (tickR cnt cr fa dn).2.1, (tickR cnt cr fa dn).2.2, (doN l cap kind name data size).2)
  else (l, (tickR cnt cr fa dn).2.1, (tickR cnt cr fa dn).2.2, (tickR cnt cr fa dn).1)
theorem do_whole {w : World} {p : Nat} {v : Value} {cnt cr fa : Int} {dn : Bool} {cap : Int} {W : World} {l : List FileT} (h : SySt w p v cnt cr fa dn cap W l) {kind : Int} {name data : ByteArray} {size : Int} (hok : stepOk l cap cnt data = true) (hk : 1 ≤ kind ∧ kind ≤ 5)
    {l' : List FileT} {tn : Int} {td : Bool} {code : Int} (hs : stepN l cap cnt cr fa dn kind name data size = (l', tn, td, code)) :
    Calls Try.prog 34 #[.pointer (some ⟨p, 0, none⟩), .agg #[.int .i64 kind, .string name, .string data, .int .i64 size]] W fun e w' =>
      ∃ v', e = .returned (.int .i64 code) ∧ SySt w p v' tn cr fa td cap w' l' := by
  have hok2 := hok
  unfold stepOk at hok2
  simp only [Bool.and_eq_true, decide_eq_true_eq, List.all_eq_true] at hok2
  obtain ⟨hl, hcap, hcap2, hcn, hd, hX, hsd⟩ := hok2
  obtain ⟨a, b, d, ht⟩ : ∃ a b d, tickR cnt cr fa dn = (a, b, d) := ⟨_, _, _, rfl⟩
  unfold stepN at hs
  rw [ht] at hs
  by_cases h0 : a = 0
  · subst h0
    rw [if_pos rfl] at hs
    simp only [Prod.mk.injEq] at hs
    obtain ⟨rfl, rfl, rfl, rfl⟩ := hs
    exact do_any h kind name data size hok hk _ _ ht
  · rw [if_neg h0] at hs
    simp only [Prod.mk.injEq] at hs
    obtain ⟨rfl, rfl, rfl, rfl⟩ := hs
    exact (do_tick h hl hcn kind name data size _ _ _ ht h0).mono fun e w' hp => ⟨v, hp⟩
set_option maxHeartbeats 8000000 in
set_option maxRecDepth 100000 in
theorem step_any (A : Option Addr) (c : Nat) (l : List FileT) (cap cnt cr fa : Int) (dn : Bool) (kind : Int) (name data : ByteArray) (size : Int) (w : World)
    (hr : Kd.C FileK w A l.length l) (hc : l.length ≤ c) (hok : stepOk l cap cnt data = true) (hk : 1 ≤ kind ∧ kind ≤ 5)
    (hval : ∀ w', Kd.C FileK w' A l.length l → Calls Try.prog 31 #[.agg #[.slice A l.length c, .int .i64 cap, .int .i64 cnt, .int .i64 cr, .int .i64 fa, .bool dn]] w' fun e w'' => e = .returned (.bool true) ∧ Below w'.heap.size w' w'')
    (hname : ∀ w', Calls Try.prog 32 #[.string name] w' fun e w'' => e = .returned (.bool true) ∧ Drawn0 w' w'')
    (l' : List FileT) (tn : Int) (td : Bool) (code : Int) (hs : stepN l cap cnt cr fa dn kind name data size = (l', tn, td, code)) :
    Calls Try.prog 11 #[.agg #[.slice A l.length c, .int .i64 cap, .int .i64 cnt, .int .i64 cr, .int .i64 fa, .bool dn], .agg #[.int .i64 kind, .string name, .string data, .int .i64 size]] w fun e w' =>
      ∃ v0_ : Value, e = .returned (.tuple #[.agg #[v0_, .int .i64 cap, .int .i64 tn, .int .i64 cr, .int .i64 fa, .bool td], .int .i64 code]) ∧ Kd.R FileK 76 w' w.heap.size (fun _ => True) v0_ l' ∧ Below w.heap.size w w' := by
  have HR := Aside0.mk hr
  have HC := Aside0.mk hc
  have HV := Aside0.mk hval
  have HN := Aside0.mk hname
  have HOK := Aside0.mk hok
  have HL := Aside0.mk (show l.length ≤ 1000000 by unfold stepOk at hok; simp only [Bool.and_eq_true, decide_eq_true_eq] at hok; exact hok.1)
  have HK := Aside0.mk hk
  have HST := Aside0.mk hs
  have k1 : decide (kind < 1) = false := decide_eq_false (by omega)
  have k5 : decide (5 < kind) = false := decide_eq_false (by omega)
  clear hr hc hval hname hok hs hk
  go_enter Try.func11, Try.ntmps11
  go_wp2_with (first | ((with_reducible refine gds (N := 2) rfl ?_); refine qbx 2 #[.slice A l.length c, .int .i64 cap, .int .i64 cnt, .int .i64 cr, .int .i64 fa, .bool dn] 31 ?_; intro gb hg w1 hbox hb; have HB := Aside0.mk hb; have HX := Aside0.mk hbox; clear hb hbox hg) | ((with_reducible refine gds (N := 3) rfl ?_); refine qbx 3 #[.int .i64 kind, .string name, .string data, .int .i64 size] 35 ?_; intro go_ hg w2 hbox hb; have HX2 := Aside0.mk (bbe HX.out hb); have HO2 := Aside0.mk hbox; have HB2 := Aside0.mk (bst HB.out hb); clear hb hbox hg) | ((with_reducible refine gds (N := 4) rfl ?_); refine qbx 4 #[.slice none 0 0, .int .i64 0, .int .i64 0, .int .i64 0, .int .i64 0, .bool false] 31 ?_; intro gr hg w3 hbox hb; have HX3 := Aside0.mk (bbe HX2.out hb); have HO3 := Aside0.mk (bbe HO2.out hb); have HY3 := Aside0.mk hbox; have HB3 := Aside0.mk (bst HB2.out hb); have HG3 := Aside0.mk (Nat.le_trans HB2.out.size (Nat.le_of_eq hg.symm)); clear hb hbox hg) | ((with_reducible refine gds (N := 8) rfl ?_); refine wpList_load_row rfl 31 (.tmp 2) rfl gb ?hp 31 #[.slice A l.length c, .int .i64 cap, .int .i64 cnt, .int .i64 cr, .int .i64 fa, .bool dn] (0, 0) _ ?hg Try.underlying31 ?ha ?hi ?_; (case hp => rfl); (case hg => exact HX3.out); (case ha => rfl); (case hi => exact infoFs)) | (go_at_call 31; (with_reducible refine (HV.out _ (Kd.Cbe HR.out HB3.out)).mono ?_); rintro e w4 ⟨rfl, hb⟩; have HX4 := Aside0.mk (bbe HX3.out hb); have HO4 := Aside0.mk (bbe HO3.out hb); have HY4 := Aside0.mk (bbe HY3.out hb); have HB4 := Aside0.mk (bst HB3.out hb); have hz4 := qz4 HO4.out; clear hb) | (go_at_call 32; (with_reducible refine (HN.out _).mono ?_); rintro e w' ⟨rfl, m1, rfl⟩; have HX5 := Aside0.mk (bdN HX4.out m1); have HO5 := Aside0.mk (bdN HO4.out m1); have HY5 := Aside0.mk (bdN HY4.out m1); have HB5 := Aside0.mk (pbd HB4.out m1); clear hz4) | ((with_reducible refine gds (N := 28) rfl ?_); refine wpList_load_row rfl 31 (.tmp 2) rfl gb ?hp 31 #[.slice A l.length c, .int .i64 cap, .int .i64 cnt, .int .i64 cr, .int .i64 fa, .bool dn] (0, 0) _ ?hg Try.underlying31 ?ha ?hi ?_; (case hp => rfl); (case hg => exact HX5.out); (case ha => rfl); (case hi => exact infoFs)) | (go_at_call 33; (with_reducible refine (systemOf_any A c l cap cnt cr fa dn _ (Kd.Cbe HR.out HB5.out) HC.out HL.out).mono ?_); rintro e w6 ⟨p, v, rfl, hp, hs, hv, hb⟩; have HS6 := Aside0.mk (show SySt _ p v cnt cr fa dn cap w6 l from ⟨hs, hp, hv, hb⟩); have HO6 := Aside0.mk (bbe HO5.out hb); clear hp hs hv hb) | ((with_reducible refine gds (N := 31) rfl ?_); refine wpList_load_row rfl 35 (.tmp 3) rfl go_ ?hp 35 #[.int .i64 kind, .string name, .string data, .int .i64 size] (0, 0) _ ?hg Try.underlying35 ?ha ?hi ?_; (case hp => rfl); (case hg => exact HO6.out); (case ha => rfl); (case hi => exact infoOp)) | (go_at_call 34; (with_reducible refine (do_whole HS6.out HOK.out HK.out HST.out).mono ?_); rintro e w7 ⟨v', rfl, hs⟩; obtain ⟨A2, c2, rfl⟩ := hs.slice; unfold SySt at hs; obtain ⟨q1, q2, q3, q4⟩ := hs; have HS7 := Aside0.mk q1; have HV7 := Aside0.mk q3; have HY7 := Aside0.mk (bbe HY5.out q4); have HB7 := Aside0.mk (bst HB5.out q4); clear q1 q2 q3 q4) | (go_at_call 35; (with_reducible refine (fs_any p A2 l'.length c2 cap tn cr fa td _ HS7.out).mono ?_); rintro e w8 ⟨rfl, hb⟩; have HY8 := Aside0.mk (bbe HY7.out hb); have HB8 := Aside0.mk (bst HB7.out hb); have HR8 := Aside0.mk (Kd.Rlo (Kd.Rbe HV7.out hb) HB5.out.size); clear hb) | ((with_reducible refine gst (t := 31) (p := 4) rfl ?_); refine wpList_store_row rfl 31 (.tmp 4) (.tmp 34) rfl gr #[.slice A2 l'.length c2, .int .i64 cap, .int .i64 tn, .int .i64 cr, .int .i64 fa, .bool td] ?hx ?hy 31 #[.slice none 0 0, .int .i64 0, .int .i64 0, .int .i64 0, .int .i64 0, .bool false] ?hg ?hi ?ho ?h1 ?_; (case hx => rfl); (case hy => rfl); (case hg => exact HY8.out); (case hi => exact infoFs); (case ho => rfl); (case h1 => simp [Value.oneCell'])))
  have ho10 := Kd.Rty HR8.out HY8.out (by decide)
  have ho11 : Kd.R FileK 76 (w8.setRow gr #[.slice A2 l'.length c2, .int .i64 cap, .int .i64 tn, .int .i64 cr, .int .i64 fa, .bool td]) w.heap.size (fun _ => True) (.slice A2 l'.length c2) l' :=
    Kd.Rmo (Kd.R_step ho10 (fun k hk _ => by simp only [World.setRow, Array.getElem?_modify]; rw [if_neg (fun e => hk.2 e.symm)])) (fun _ _ => trivial)
  refine bodyPost_ret (results_ct rfl _ _ gr 31 #[.slice A2 l'.length c2, .int .i64 cap, .int .i64 tn, .int .i64 cr, .int .i64 fa, .bool td] (0, 0) _ rfl (heap_setRow_sameF HY8.out) Try.underlying31 rfl infoFs) rfl ⟨_, rfl, ho11, ?_⟩
  exact below_setRowF HB8.out HG3.out _
set_option maxHeartbeats 8000000 in
set_option maxRecDepth 100000 in
theorem step_bad (A : Option Addr) (c : Nat) (l : List FileT) (cap cnt cr fa : Int) (dn : Bool) (kind : Int) (name data : ByteArray) (size : Int) (w : World)
    (hr : Kd.C FileK w A l.length l) (b bn : Bool)
    (hval : ∀ w', Kd.C FileK w' A l.length l → Calls Try.prog 31 #[.agg #[.slice A l.length c, .int .i64 cap, .int .i64 cnt, .int .i64 cr, .int .i64 fa, .bool dn]] w' fun e w'' => e = .returned (.bool b) ∧ Below w'.heap.size w' w'')
    (hname : b = true → (1 ≤ kind ∧ kind ≤ 5) → ∀ w', Calls Try.prog 32 #[.string name] w' fun e w'' => e = .returned (.bool bn) ∧ Drawn0 w' w'')
    (hbad : b = true → (1 ≤ kind ∧ kind ≤ 5) → bn = false) :
    Calls Try.prog 11 #[.agg #[.slice A l.length c, .int .i64 cap, .int .i64 cnt, .int .i64 cr, .int .i64 fa, .bool dn], .agg #[.int .i64 kind, .string name, .string data, .int .i64 size]] w fun e w' =>
      e = .returned (.tuple #[.agg #[.slice none 0 0, .int .i64 0, .int .i64 0, .int .i64 0, .int .i64 0, .bool false], .int .i64 16]) ∧ Below w.heap.size w w' := by
  have HR := Aside0.mk hr
  have HV := Aside0.mk hval
  clear hr hval
  cases b with
  | false =>
    clear hname hbad
    go_enter Try.func11, Try.ntmps11
    go_wp2_with (first | ((with_reducible refine gds (N := 2) rfl ?_); refine qbx 2 #[.slice A l.length c, .int .i64 cap, .int .i64 cnt, .int .i64 cr, .int .i64 fa, .bool dn] 31 ?_; intro gb hg w1 hbox hb; have HB := Aside0.mk hb; have HX := Aside0.mk hbox; clear hb hbox hg) | ((with_reducible refine gds (N := 3) rfl ?_); refine qbx 3 #[.int .i64 kind, .string name, .string data, .int .i64 size] 35 ?_; intro go_ hg w2 hbox hb; have HX2 := Aside0.mk (bbe HX.out hb); have HO2 := Aside0.mk hbox; have HB2 := Aside0.mk (bst HB.out hb); clear hb hbox hg) | ((with_reducible refine gds (N := 4) rfl ?_); refine qbx 4 #[.slice none 0 0, .int .i64 0, .int .i64 0, .int .i64 0, .int .i64 0, .bool false] 31 ?_; intro gr hg w3 hbox hb; have HX3 := Aside0.mk (bbe HX2.out hb); have HO3 := Aside0.mk (bbe HO2.out hb); have HY3 := Aside0.mk hbox; have HB3 := Aside0.mk (bst HB2.out hb); have HG3 := Aside0.mk (Nat.le_trans HB2.out.size (Nat.le_of_eq hg.symm)); clear hb hbox hg) | ((with_reducible refine gds (N := 8) rfl ?_); refine wpList_load_row rfl 31 (.tmp 2) rfl gb ?hp 31 #[.slice A l.length c, .int .i64 cap, .int .i64 cnt, .int .i64 cr, .int .i64 fa, .bool dn] (0, 0) _ ?hg Try.underlying31 ?ha ?hi ?_; (case hp => rfl); (case hg => exact HX3.out); (case ha => rfl); (case hi => exact infoFs)) | (go_at_call 31; (with_reducible refine (HV.out _ (Kd.Cbe HR.out HB3.out)).mono ?_); rintro e w4 ⟨rfl, hb⟩; have HX4 := Aside0.mk (bbe HX3.out hb); have HO4 := Aside0.mk (bbe HO3.out hb); have HY4 := Aside0.mk (bbe HY3.out hb); have HB4 := Aside0.mk (bst HB3.out hb); have hz4 := qz4 HO4.out; clear hb) | ((with_reducible refine gst (t := 31) (p := 4) rfl ?_); refine wpList_store_row rfl 31 (.tmp 4) (.tmp 27) rfl gr #[.slice none 0 0, .int .i64 0, .int .i64 0, .int .i64 0, .int .i64 0, .bool false] ?hx ?hy 31 #[.slice none 0 0, .int .i64 0, .int .i64 0, .int .i64 0, .int .i64 0, .bool false] ?hg ?hi ?ho ?h1 ?_; (case hx => rfl); (case hy => rfl); (case hg => exact HY4.out); (case hi => exact infoFs); (case ho => rfl); (case h1 => simp [Value.oneCell'])))
    refine bodyPost_ret (results_ct rfl _ _ gr 31 #[.slice none 0 0, .int .i64 0, .int .i64 0, .int .i64 0, .int .i64 0, .bool false] (0, 0) _ rfl (heap_setRow_sameF HY4.out) Try.underlying31 rfl infoFs) rfl ⟨rfl, ?_⟩
    exact below_setRowF HB4.out HG3.out _
  | true =>
    by_cases h1 : kind < 1
    · have k1 : decide (kind < 1) = true := decide_eq_true h1
      clear hname hbad h1
      go_enter Try.func11, Try.ntmps11
      go_wp2_with (first | ((with_reducible refine gds (N := 2) rfl ?_); refine qbx 2 #[.slice A l.length c, .int .i64 cap, .int .i64 cnt, .int .i64 cr, .int .i64 fa, .bool dn] 31 ?_; intro gb hg w1 hbox hb; have HB := Aside0.mk hb; have HX := Aside0.mk hbox; clear hb hbox hg) | ((with_reducible refine gds (N := 3) rfl ?_); refine qbx 3 #[.int .i64 kind, .string name, .string data, .int .i64 size] 35 ?_; intro go_ hg w2 hbox hb; have HX2 := Aside0.mk (bbe HX.out hb); have HO2 := Aside0.mk hbox; have HB2 := Aside0.mk (bst HB.out hb); clear hb hbox hg) | ((with_reducible refine gds (N := 4) rfl ?_); refine qbx 4 #[.slice none 0 0, .int .i64 0, .int .i64 0, .int .i64 0, .int .i64 0, .bool false] 31 ?_; intro gr hg w3 hbox hb; have HX3 := Aside0.mk (bbe HX2.out hb); have HO3 := Aside0.mk (bbe HO2.out hb); have HY3 := Aside0.mk hbox; have HB3 := Aside0.mk (bst HB2.out hb); have HG3 := Aside0.mk (Nat.le_trans HB2.out.size (Nat.le_of_eq hg.symm)); clear hb hbox hg) | ((with_reducible refine gds (N := 8) rfl ?_); refine wpList_load_row rfl 31 (.tmp 2) rfl gb ?hp 31 #[.slice A l.length c, .int .i64 cap, .int .i64 cnt, .int .i64 cr, .int .i64 fa, .bool dn] (0, 0) _ ?hg Try.underlying31 ?ha ?hi ?_; (case hp => rfl); (case hg => exact HX3.out); (case ha => rfl); (case hi => exact infoFs)) | (go_at_call 31; (with_reducible refine (HV.out _ (Kd.Cbe HR.out HB3.out)).mono ?_); rintro e w4 ⟨rfl, hb⟩; have HX4 := Aside0.mk (bbe HX3.out hb); have HO4 := Aside0.mk (bbe HO3.out hb); have HY4 := Aside0.mk (bbe HY3.out hb); have HB4 := Aside0.mk (bst HB3.out hb); have hz4 := qz4 HO4.out; clear hb) | ((with_reducible refine gst (t := 31) (p := 4) rfl ?_); refine wpList_store_row rfl 31 (.tmp 4) (.tmp 27) rfl gr #[.slice none 0 0, .int .i64 0, .int .i64 0, .int .i64 0, .int .i64 0, .bool false] ?hx ?hy 31 #[.slice none 0 0, .int .i64 0, .int .i64 0, .int .i64 0, .int .i64 0, .bool false] ?hg ?hi ?ho ?h1 ?_; (case hx => rfl); (case hy => rfl); (case hg => exact HY4.out); (case hi => exact infoFs); (case ho => rfl); (case h1 => simp [Value.oneCell'])))
      refine bodyPost_ret (results_ct rfl _ _ gr 31 #[.slice none 0 0, .int .i64 0, .int .i64 0, .int .i64 0, .int .i64 0, .bool false] (0, 0) _ rfl (heap_setRow_sameF HY4.out) Try.underlying31 rfl infoFs) rfl ⟨rfl, ?_⟩
      exact below_setRowF HB4.out HG3.out _
    · have k1 : decide (kind < 1) = false := decide_eq_false h1
      by_cases h5 : 5 < kind
      · have k5 : decide (5 < kind) = true := decide_eq_true h5
        clear hname hbad h1 h5
        go_enter Try.func11, Try.ntmps11
        go_wp2_with (first | ((with_reducible refine gds (N := 2) rfl ?_); refine qbx 2 #[.slice A l.length c, .int .i64 cap, .int .i64 cnt, .int .i64 cr, .int .i64 fa, .bool dn] 31 ?_; intro gb hg w1 hbox hb; have HB := Aside0.mk hb; have HX := Aside0.mk hbox; clear hb hbox hg) | ((with_reducible refine gds (N := 3) rfl ?_); refine qbx 3 #[.int .i64 kind, .string name, .string data, .int .i64 size] 35 ?_; intro go_ hg w2 hbox hb; have HX2 := Aside0.mk (bbe HX.out hb); have HO2 := Aside0.mk hbox; have HB2 := Aside0.mk (bst HB.out hb); clear hb hbox hg) | ((with_reducible refine gds (N := 4) rfl ?_); refine qbx 4 #[.slice none 0 0, .int .i64 0, .int .i64 0, .int .i64 0, .int .i64 0, .bool false] 31 ?_; intro gr hg w3 hbox hb; have HX3 := Aside0.mk (bbe HX2.out hb); have HO3 := Aside0.mk (bbe HO2.out hb); have HY3 := Aside0.mk hbox; have HB3 := Aside0.mk (bst HB2.out hb); have HG3 := Aside0.mk (Nat.le_trans HB2.out.size (Nat.le_of_eq hg.symm)); clear hb hbox hg) | ((with_reducible refine gds (N := 8) rfl ?_); refine wpList_load_row rfl 31 (.tmp 2) rfl gb ?hp 31 #[.slice A l.length c, .int .i64 cap, .int .i64 cnt, .int .i64 cr, .int .i64 fa, .bool dn] (0, 0) _ ?hg Try.underlying31 ?ha ?hi ?_; (case hp => rfl); (case hg => exact HX3.out); (case ha => rfl); (case hi => exact infoFs)) | (go_at_call 31; (with_reducible refine (HV.out _ (Kd.Cbe HR.out HB3.out)).mono ?_); rintro e w4 ⟨rfl, hb⟩; have HX4 := Aside0.mk (bbe HX3.out hb); have HO4 := Aside0.mk (bbe HO3.out hb); have HY4 := Aside0.mk (bbe HY3.out hb); have HB4 := Aside0.mk (bst HB3.out hb); have hz4 := qz4 HO4.out; clear hb) | ((with_reducible refine gst (t := 31) (p := 4) rfl ?_); refine wpList_store_row rfl 31 (.tmp 4) (.tmp 27) rfl gr #[.slice none 0 0, .int .i64 0, .int .i64 0, .int .i64 0, .int .i64 0, .bool false] ?hx ?hy 31 #[.slice none 0 0, .int .i64 0, .int .i64 0, .int .i64 0, .int .i64 0, .bool false] ?hg ?hi ?ho ?h1 ?_; (case hx => rfl); (case hy => rfl); (case hg => exact HY4.out); (case hi => exact infoFs); (case ho => rfl); (case h1 => simp [Value.oneCell'])))
        refine bodyPost_ret (results_ct rfl _ _ gr 31 #[.slice none 0 0, .int .i64 0, .int .i64 0, .int .i64 0, .int .i64 0, .bool false] (0, 0) _ rfl (heap_setRow_sameF HY4.out) Try.underlying31 rfl infoFs) rfl ⟨rfl, ?_⟩
        exact below_setRowF HB4.out HG3.out _
      · have k5 : decide (5 < kind) = false := decide_eq_false h5
        have HN := Aside0.mk (hname rfl ⟨by omega, by omega⟩)
        obtain rfl : bn = false := hbad rfl ⟨by omega, by omega⟩
        clear hname hbad h1 h5
        go_enter Try.func11, Try.ntmps11
        go_wp2_with (first | ((with_reducible refine gds (N := 2) rfl ?_); refine qbx 2 #[.slice A l.length c, .int .i64 cap, .int .i64 cnt, .int .i64 cr, .int .i64 fa, .bool dn] 31 ?_; intro gb hg w1 hbox hb; have HB := Aside0.mk hb; have HX := Aside0.mk hbox; clear hb hbox hg) | ((with_reducible refine gds (N := 3) rfl ?_); refine qbx 3 #[.int .i64 kind, .string name, .string data, .int .i64 size] 35 ?_; intro go_ hg w2 hbox hb; have HX2 := Aside0.mk (bbe HX.out hb); have HO2 := Aside0.mk hbox; have HB2 := Aside0.mk (bst HB.out hb); clear hb hbox hg) | ((with_reducible refine gds (N := 4) rfl ?_); refine qbx 4 #[.slice none 0 0, .int .i64 0, .int .i64 0, .int .i64 0, .int .i64 0, .bool false] 31 ?_; intro gr hg w3 hbox hb; have HX3 := Aside0.mk (bbe HX2.out hb); have HO3 := Aside0.mk (bbe HO2.out hb); have HY3 := Aside0.mk hbox; have HB3 := Aside0.mk (bst HB2.out hb); have HG3 := Aside0.mk (Nat.le_trans HB2.out.size (Nat.le_of_eq hg.symm)); clear hb hbox hg) | ((with_reducible refine gds (N := 8) rfl ?_); refine wpList_load_row rfl 31 (.tmp 2) rfl gb ?hp 31 #[.slice A l.length c, .int .i64 cap, .int .i64 cnt, .int .i64 cr, .int .i64 fa, .bool dn] (0, 0) _ ?hg Try.underlying31 ?ha ?hi ?_; (case hp => rfl); (case hg => exact HX3.out); (case ha => rfl); (case hi => exact infoFs)) | (go_at_call 31; (with_reducible refine (HV.out _ (Kd.Cbe HR.out HB3.out)).mono ?_); rintro e w4 ⟨rfl, hb⟩; have HX4 := Aside0.mk (bbe HX3.out hb); have HO4 := Aside0.mk (bbe HO3.out hb); have HY4 := Aside0.mk (bbe HY3.out hb); have HB4 := Aside0.mk (bst HB3.out hb); have hz4 := qz4 HO4.out; clear hb) | (go_at_call 32; (with_reducible refine (HN.out _).mono ?_); rintro e w' ⟨rfl, m1, rfl⟩; have HX5 := Aside0.mk (bdN HX4.out m1); have HO5 := Aside0.mk (bdN HO4.out m1); have HY5 := Aside0.mk (bdN HY4.out m1); have HB5 := Aside0.mk (pbd HB4.out m1); clear hz4) | ((with_reducible refine gst (t := 31) (p := 4) rfl ?_); refine wpList_store_row rfl 31 (.tmp 4) (.tmp 27) rfl gr #[.slice none 0 0, .int .i64 0, .int .i64 0, .int .i64 0, .int .i64 0, .bool false] ?hx ?hy 31 #[.slice none 0 0, .int .i64 0, .int .i64 0, .int .i64 0, .int .i64 0, .bool false] ?hg ?hi ?ho ?h1 ?_; (case hx => rfl); (case hy => rfl); (case hg => exact HY5.out); (case hi => exact infoFs); (case ho => rfl); (case h1 => simp [Value.oneCell'])))
        refine bodyPost_ret (results_ct rfl _ _ gr 31 #[.slice none 0 0, .int .i64 0, .int .i64 0, .int .i64 0, .int .i64 0, .bool false] (0, 0) _ rfl (heap_setRow_sameF HY5.out) Try.underlying31 rfl infoFs) rfl ⟨rfl, ?_⟩
        exact below_setRowF HB5.out HG3.out _
end Go.Proofs.Ytoebfjfhdodakaa.L
end
section
set_option linter.unusedVariables false
set_option linter.unusedSimpArgs false
namespace Go.Proofs.Ytoebfjfhdodakaa.L
open Go Go.RowKit Go.Proofs Go.Proofs.Ytoebfjfhdodakaa Go.Proofs.YtoebfjfhdodakaaW.PrintWords Go.Proofs.YtoebfjfhdodakaaW.PrintLast Go.Proofs.YtoebfjfhdodakaaW.PrintMore
attribute [local go_sem] max2_int min2_int max_two min_two max_three min_three max_four min_four
theorem infoFile : (Try.prog.info? 76).map (·.size) = some 3 := by kernel_rfl
theorem fin_row {w : World} {B gb gr : Nat} {v' : Value} {l' : List FileT} {cs cs' : Array Value} (h : Kd.R FileK 76 w B (fun _ => True) v' l') (hX : w.heap[gb]? = some (.cells cs 31 (0, 0))) (hY : w.heap[gr]? = some (.cells cs' 31 (0, 0))) (hne : gr ≠ gb) (row : Array Value) :
    Kd.R FileK 76 ((w.setCell ⟨gb, 0, none⟩ v').setRow gr row) B (fun _ => True) v' l' := by
  have h1 := Kd.Rfa (p := ⟨gb, 0, none⟩) (Kd.Rty h hX (by decide)) (fun k hk => hk.2) v'
  have h2 := Kd.Rty h1 (bfa hY hne v') (by decide)
  exact Kd.Rmo (Kd.R_step h2 (fun k hk _ => by simp only [World.setRow, Array.getElem?_modify]; rw [if_neg (fun e => hk.2 e.symm)])) (fun _ _ => trivial)
theorem C_cells {W : World} {g : Nat} {l : List FileT} (h : Kd.C FileK W (some ⟨g, 0, none⟩) l.length l) (i : Nat) (hi : i < l.length) (X : FileT) (hX : l[i]? = some X) :
    W.cell? ⟨g, i * 3, none⟩ = some (.string X.f0) ∧ W.cell? ⟨g, i * 3 + 1, none⟩ = some (.string X.f1) ∧ W.cell? ⟨g, i * 3 + 2, none⟩ = some (.int .i64 X.f2) := by
  obtain ⟨ad, c, e, _, hK, hc⟩ := Kd.C_get h X (i : Int) (by omega) (by omega)
  injection e with e
  subst e
  have e2 : l.getD (i : Int).toNat X = X := by simp [List.getD_eq_getElem?_getD, hX]
  rw [e2] at hK
  obtain rfl := k76_open hK
  have f : ∀ j v, [Value.string X.f0, .string X.f1, .int .i64 X.f2][j]? = some v → W.cell? ⟨g, i * 3 + j, none⟩ = some v := by
    intro j v hj
    have := hc j v hj
    have e3 : (Addr.mk g 0 none).add ((i : Int).toNat * FileK.sz + j) = ⟨g, i * 3 + j, none⟩ := by
      show (if i * 3 + j = 0 then _ else _) = _
      split
      · rename_i h0; rw [h0]
      · exact congrArg (fun q => Addr.mk g q none) (Nat.zero_add _)
    rw [e3] at this
    exact this
  exact ⟨f 0 _ rfl, f 1 _ rfl, f 2 _ rfl⟩
set_option maxHeartbeats 8000000 in
set_option maxRecDepth 100000 in
theorem l6Do_exists (A : Option Addr) (c : Nat) (l : List FileT) (cap cnt cr fa : Int) (dn : Bool) (kind : Int) (name data : ByteArray) (size : Int) (w : World)
    (hr : Kd.C FileK w A l.length l) (at_ : Int) (hfind : ∀ w', Kd.C FileK w' A l.length l → Calls Try.prog 49 #[.agg #[.slice A l.length c, .int .i64 cap, .int .i64 cnt, .int .i64 cr, .int .i64 fa, .bool dn], .string name] w' fun e w'' => e = .returned (.int .i64 at_) ∧ Below w'.heap.size w' w'')
    (hk : kind = 1) (h0 : 0 ≤ at_) :
    Calls Try.prog 29 #[.agg #[.slice A l.length c, .int .i64 cap, .int .i64 cnt, .int .i64 cr, .int .i64 fa, .bool dn], .agg #[.int .i64 kind, .string name, .string data, .int .i64 size]] w fun e w' => e = .returned (.tuple #[.agg #[.slice A l.length c, .int .i64 cap, .int .i64 cnt, .int .i64 cr, .int .i64 fa, .bool dn], .int .i64 15]) ∧ Below w.heap.size w w' := by
  have c0 : (kind == 1) = true := beq_iff_eq.mpr hk
  clear hk
  have c1 : decide (0 ≤ at_) = true := decide_eq_true h0
  clear h0
  have HR := Aside0.mk hr
  have HFI := Aside0.mk hfind
  clear hr hfind
  go_enter Try.func29, Try.ntmps29
  go_wp2_with (first | ((with_reducible refine gds (N := 2) rfl ?_); refine qbx 2 #[.slice A l.length c, .int .i64 cap, .int .i64 cnt, .int .i64 cr, .int .i64 fa, .bool dn] 31 ?_; intro gb hg w1 hbox hb; have HB := Aside0.mk hb; have HX := Aside0.mk hbox; have HGB := Aside0.mk (Nat.le_of_eq hg.symm); clear hb hbox hg) | ((with_reducible refine gds (N := 3) rfl ?_); refine qbx 3 #[.int .i64 kind, .string name, .string data, .int .i64 size] 35 ?_; intro go_ hg w2 hbox hb; have HX2 := Aside0.mk (bbe HX.out hb); have HO2 := Aside0.mk hbox; have HB2 := Aside0.mk (bst HB.out hb); clear hb hbox hg) | ((with_reducible refine gds (N := 4) rfl ?_); refine qbx 4 #[.slice none 0 0, .int .i64 0, .int .i64 0, .int .i64 0, .int .i64 0, .bool false] 31 ?_; intro gr hg w3 hbox hb; have HX3 := Aside0.mk (bbe HX2.out hb); have HO3 := Aside0.mk (bbe HO2.out hb); have HY3 := Aside0.mk hbox; have HB3 := Aside0.mk (bst HB2.out hb); have HG3 := Aside0.mk (And.intro (Nat.le_trans HB2.out.size (Nat.le_of_eq hg.symm)) (Nat.ne_of_gt (hg ▸ blt HX2.out : gb < gr))); have hz3 := qz4 HO3.out; clear hb hbox hg) | ((with_reducible refine gds (N := 11) rfl ?_); refine wpList_load_row rfl 31 (.tmp 2) rfl gb ?hp 31 #[.slice A l.length c, .int .i64 cap, .int .i64 cnt, .int .i64 cr, .int .i64 fa, .bool dn] (0, 0) _ ?hg Try.underlying31 ?ha ?hi ?_; (case hp => rfl); (case hg => exact HX3.out); (case ha => rfl); (case hi => exact infoFs)) | (go_at_call 49; (with_reducible refine (HFI.out _ (Kd.Cbe HR.out HB3.out)).mono ?_); rintro e w4 ⟨rfl, hb⟩; have HX4 := Aside0.mk (bbe HX3.out hb); have HO4 := Aside0.mk (bbe HO3.out hb); have HY4 := Aside0.mk (bbe HY3.out hb); have HB4 := Aside0.mk (bst HB3.out hb); have hz4 := qz4 HO4.out; have hx4 := qz6 HX4.out; clear hb hz3) | ((with_reducible refine gds (N := 20) rfl ?_); refine wpList_load_row rfl 31 (.tmp 2) rfl gb ?hp 31 #[.slice A l.length c, .int .i64 cap, .int .i64 cnt, .int .i64 cr, .int .i64 fa, .bool dn] (0, 0) _ ?hg Try.underlying31 ?ha ?hi ?_; (case hp => rfl); (case hg => exact HX4.out); (case ha => rfl); (case hi => exact infoFs)) | ((with_reducible refine gst (t := 31) (p := 4) rfl ?_); refine wpList_store_row rfl 31 (.tmp 4) (.tmp 20) rfl gr #[.slice A l.length c, .int .i64 cap, .int .i64 cnt, .int .i64 cr, .int .i64 fa, .bool dn] ?hx ?hy 31 #[.slice none 0 0, .int .i64 0, .int .i64 0, .int .i64 0, .int .i64 0, .bool false] ?hg ?hi ?ho ?h1 ?_; (case hx => rfl); (case hy => rfl); (case hg => exact HY4.out); (case hi => exact infoFs); (case ho => rfl); (case h1 => simp [Value.oneCell'])))
  refine bodyPost_ret (results_ct rfl _ _ gr 31 #[.slice A l.length c, .int .i64 cap, .int .i64 cnt, .int .i64 cr, .int .i64 fa, .bool dn] (0, 0) _ rfl (heap_setRow_sameF HY4.out) Try.underlying31 rfl infoFs) rfl ⟨rfl, ?_⟩
  exact below_setRowF HB4.out HG3.out.1 _
set_option maxHeartbeats 8000000 in
set_option maxRecDepth 100000 in
theorem l6Do_full (A : Option Addr) (c : Nat) (l : List FileT) (cap cnt cr fa : Int) (dn : Bool) (kind : Int) (name data : ByteArray) (size : Int) (w : World)
    (hr : Kd.C FileK w A l.length l) (at_ : Int) (hfind : ∀ w', Kd.C FileK w' A l.length l → Calls Try.prog 49 #[.agg #[.slice A l.length c, .int .i64 cap, .int .i64 cnt, .int .i64 cr, .int .i64 fa, .bool dn], .string name] w' fun e w'' => e = .returned (.int .i64 at_) ∧ Below w'.heap.size w' w'')
    (hk : kind = 1) (h0 : ¬ 0 ≤ at_) (hl : l.length = 300) :
    Calls Try.prog 29 #[.agg #[.slice A l.length c, .int .i64 cap, .int .i64 cnt, .int .i64 cr, .int .i64 fa, .bool dn], .agg #[.int .i64 kind, .string name, .string data, .int .i64 size]] w fun e w' => e = .returned (.tuple #[.agg #[.slice A l.length c, .int .i64 cap, .int .i64 cnt, .int .i64 cr, .int .i64 fa, .bool dn], .int .i64 13]) ∧ Below w.heap.size w w' := by
  have c0 : (kind == 1) = true := beq_iff_eq.mpr hk
  clear hk
  have c1 : decide (0 ≤ at_) = false := decide_eq_false h0
  have c2 : ((l.length : Int) == 300) = true := beq_iff_eq.mpr (by omega)
  clear h0 hl
  have HR := Aside0.mk hr
  have HFI := Aside0.mk hfind
  clear hr hfind
  go_enter Try.func29, Try.ntmps29
  go_wp2_with (first | ((with_reducible refine gds (N := 2) rfl ?_); refine qbx 2 #[.slice A l.length c, .int .i64 cap, .int .i64 cnt, .int .i64 cr, .int .i64 fa, .bool dn] 31 ?_; intro gb hg w1 hbox hb; have HB := Aside0.mk hb; have HX := Aside0.mk hbox; have HGB := Aside0.mk (Nat.le_of_eq hg.symm); clear hb hbox hg) | ((with_reducible refine gds (N := 3) rfl ?_); refine qbx 3 #[.int .i64 kind, .string name, .string data, .int .i64 size] 35 ?_; intro go_ hg w2 hbox hb; have HX2 := Aside0.mk (bbe HX.out hb); have HO2 := Aside0.mk hbox; have HB2 := Aside0.mk (bst HB.out hb); clear hb hbox hg) | ((with_reducible refine gds (N := 4) rfl ?_); refine qbx 4 #[.slice none 0 0, .int .i64 0, .int .i64 0, .int .i64 0, .int .i64 0, .bool false] 31 ?_; intro gr hg w3 hbox hb; have HX3 := Aside0.mk (bbe HX2.out hb); have HO3 := Aside0.mk (bbe HO2.out hb); have HY3 := Aside0.mk hbox; have HB3 := Aside0.mk (bst HB2.out hb); have HG3 := Aside0.mk (And.intro (Nat.le_trans HB2.out.size (Nat.le_of_eq hg.symm)) (Nat.ne_of_gt (hg ▸ blt HX2.out : gb < gr))); have hz3 := qz4 HO3.out; clear hb hbox hg) | ((with_reducible refine gds (N := 11) rfl ?_); refine wpList_load_row rfl 31 (.tmp 2) rfl gb ?hp 31 #[.slice A l.length c, .int .i64 cap, .int .i64 cnt, .int .i64 cr, .int .i64 fa, .bool dn] (0, 0) _ ?hg Try.underlying31 ?ha ?hi ?_; (case hp => rfl); (case hg => exact HX3.out); (case ha => rfl); (case hi => exact infoFs)) | (go_at_call 49; (with_reducible refine (HFI.out _ (Kd.Cbe HR.out HB3.out)).mono ?_); rintro e w4 ⟨rfl, hb⟩; have HX4 := Aside0.mk (bbe HX3.out hb); have HO4 := Aside0.mk (bbe HO3.out hb); have HY4 := Aside0.mk (bbe HY3.out hb); have HB4 := Aside0.mk (bst HB3.out hb); have hz4 := qz4 HO4.out; have hx4 := qz6 HX4.out; clear hb hz3) | ((with_reducible refine gds (N := 25) rfl ?_); refine wpList_load_row rfl 31 (.tmp 2) rfl gb ?hp 31 #[.slice A l.length c, .int .i64 cap, .int .i64 cnt, .int .i64 cr, .int .i64 fa, .bool dn] (0, 0) _ ?hg Try.underlying31 ?ha ?hi ?_; (case hp => rfl); (case hg => exact HX4.out); (case ha => rfl); (case hi => exact infoFs)) | ((with_reducible refine gst (t := 31) (p := 4) rfl ?_); refine wpList_store_row rfl 31 (.tmp 4) (.tmp 25) rfl gr #[.slice A l.length c, .int .i64 cap, .int .i64 cnt, .int .i64 cr, .int .i64 fa, .bool dn] ?hx ?hy 31 #[.slice none 0 0, .int .i64 0, .int .i64 0, .int .i64 0, .int .i64 0, .bool false] ?hg ?hi ?ho ?h1 ?_; (case hx => rfl); (case hy => rfl); (case hg => exact HY4.out); (case hi => exact infoFs); (case ho => rfl); (case h1 => simp [Value.oneCell'])))
  refine bodyPost_ret (results_ct rfl _ _ gr 31 #[.slice A l.length c, .int .i64 cap, .int .i64 cnt, .int .i64 cr, .int .i64 fa, .bool dn] (0, 0) _ rfl (heap_setRow_sameF HY4.out) Try.underlying31 rfl infoFs) rfl ⟨rfl, ?_⟩
  exact below_setRowF HB4.out HG3.out.1 _
set_option maxHeartbeats 8000000 in
set_option maxRecDepth 100000 in
theorem l6Do_missing (A : Option Addr) (c : Nat) (l : List FileT) (cap cnt cr fa : Int) (dn : Bool) (kind : Int) (name data : ByteArray) (size : Int) (w : World)
    (hr : Kd.C FileK w A l.length l) (at_ : Int) (hfind : ∀ w', Kd.C FileK w' A l.length l → Calls Try.prog 49 #[.agg #[.slice A l.length c, .int .i64 cap, .int .i64 cnt, .int .i64 cr, .int .i64 fa, .bool dn], .string name] w' fun e w'' => e = .returned (.int .i64 at_) ∧ Below w'.heap.size w' w'')
    (hk : kind ≠ 1) (h0 : at_ < 0) :
    Calls Try.prog 29 #[.agg #[.slice A l.length c, .int .i64 cap, .int .i64 cnt, .int .i64 cr, .int .i64 fa, .bool dn], .agg #[.int .i64 kind, .string name, .string data, .int .i64 size]] w fun e w' => e = .returned (.tuple #[.agg #[.slice A l.length c, .int .i64 cap, .int .i64 cnt, .int .i64 cr, .int .i64 fa, .bool dn], .int .i64 14]) ∧ Below w.heap.size w w' := by
  have c0 : (kind == 1) = false := beq_eq_false_iff_ne.mpr hk
  clear hk
  have c1 : decide (at_ < 0) = true := decide_eq_true h0
  clear h0
  have HR := Aside0.mk hr
  have HFI := Aside0.mk hfind
  clear hr hfind
  go_enter Try.func29, Try.ntmps29
  go_wp2_with (first | ((with_reducible refine gds (N := 2) rfl ?_); refine qbx 2 #[.slice A l.length c, .int .i64 cap, .int .i64 cnt, .int .i64 cr, .int .i64 fa, .bool dn] 31 ?_; intro gb hg w1 hbox hb; have HB := Aside0.mk hb; have HX := Aside0.mk hbox; have HGB := Aside0.mk (Nat.le_of_eq hg.symm); clear hb hbox hg) | ((with_reducible refine gds (N := 3) rfl ?_); refine qbx 3 #[.int .i64 kind, .string name, .string data, .int .i64 size] 35 ?_; intro go_ hg w2 hbox hb; have HX2 := Aside0.mk (bbe HX.out hb); have HO2 := Aside0.mk hbox; have HB2 := Aside0.mk (bst HB.out hb); clear hb hbox hg) | ((with_reducible refine gds (N := 4) rfl ?_); refine qbx 4 #[.slice none 0 0, .int .i64 0, .int .i64 0, .int .i64 0, .int .i64 0, .bool false] 31 ?_; intro gr hg w3 hbox hb; have HX3 := Aside0.mk (bbe HX2.out hb); have HO3 := Aside0.mk (bbe HO2.out hb); have HY3 := Aside0.mk hbox; have HB3 := Aside0.mk (bst HB2.out hb); have HG3 := Aside0.mk (And.intro (Nat.le_trans HB2.out.size (Nat.le_of_eq hg.symm)) (Nat.ne_of_gt (hg ▸ blt HX2.out : gb < gr))); have hz3 := qz4 HO3.out; clear hb hbox hg) | ((with_reducible refine gds (N := 11) rfl ?_); refine wpList_load_row rfl 31 (.tmp 2) rfl gb ?hp 31 #[.slice A l.length c, .int .i64 cap, .int .i64 cnt, .int .i64 cr, .int .i64 fa, .bool dn] (0, 0) _ ?hg Try.underlying31 ?ha ?hi ?_; (case hp => rfl); (case hg => exact HX3.out); (case ha => rfl); (case hi => exact infoFs)) | (go_at_call 49; (with_reducible refine (HFI.out _ (Kd.Cbe HR.out HB3.out)).mono ?_); rintro e w4 ⟨rfl, hb⟩; have HX4 := Aside0.mk (bbe HX3.out hb); have HO4 := Aside0.mk (bbe HO3.out hb); have HY4 := Aside0.mk (bbe HY3.out hb); have HB4 := Aside0.mk (bst HB3.out hb); have hz4 := qz4 HO4.out; have hx4 := qz6 HX4.out; clear hb hz3) | ((with_reducible refine gds (N := 36) rfl ?_); refine wpList_load_row rfl 31 (.tmp 2) rfl gb ?hp 31 #[.slice A l.length c, .int .i64 cap, .int .i64 cnt, .int .i64 cr, .int .i64 fa, .bool dn] (0, 0) _ ?hg Try.underlying31 ?ha ?hi ?_; (case hp => rfl); (case hg => exact HX4.out); (case ha => rfl); (case hi => exact infoFs)) | ((with_reducible refine gst (t := 31) (p := 4) rfl ?_); refine wpList_store_row rfl 31 (.tmp 4) (.tmp 36) rfl gr #[.slice A l.length c, .int .i64 cap, .int .i64 cnt, .int .i64 cr, .int .i64 fa, .bool dn] ?hx ?hy 31 #[.slice none 0 0, .int .i64 0, .int .i64 0, .int .i64 0, .int .i64 0, .bool false] ?hg ?hi ?ho ?h1 ?_; (case hx => rfl); (case hy => rfl); (case hg => exact HY4.out); (case hi => exact infoFs); (case ho => rfl); (case h1 => simp [Value.oneCell'])))
  refine bodyPost_ret (results_ct rfl _ _ gr 31 #[.slice A l.length c, .int .i64 cap, .int .i64 cnt, .int .i64 cr, .int .i64 fa, .bool dn] (0, 0) _ rfl (heap_setRow_sameF HY4.out) Try.underlying31 rfl infoFs) rfl ⟨rfl, ?_⟩
  exact below_setRowF HB4.out HG3.out.1 _
set_option maxHeartbeats 8000000 in
set_option maxRecDepth 100000 in
theorem l6Do_create (A : Option Addr) (c : Nat) (l : List FileT) (cap cnt cr fa : Int) (dn : Bool) (kind : Int) (name data : ByteArray) (size : Int) (w : World)
    (hr : Kd.C FileK w A l.length l) (at_ : Int) (hfind : ∀ w', Kd.C FileK w' A l.length l → Calls Try.prog 49 #[.agg #[.slice A l.length c, .int .i64 cap, .int .i64 cnt, .int .i64 cr, .int .i64 fa, .bool dn], .string name] w' fun e w'' => e = .returned (.int .i64 at_) ∧ Below w'.heap.size w' w'')
    (hk : kind = 1) (h0 : ¬ 0 ≤ at_) (hl : l.length ≠ 300) (l' : List FileT) (hwith : ∀ w', Kd.C FileK w' A l.length l → Calls Try.prog 50 #[.slice A l.length c, .string (⟨#[]⟩ : ByteArray), .agg #[.string name, .string (⟨#[]⟩ : ByteArray), .int .i64 0]] w' fun e w'' => ∃ v, e = .returned v ∧ Kd.R FileK 76 w'' w'.heap.size (fun _ => True) v l' ∧ Below w'.heap.size w' w'') :
    Calls Try.prog 29 #[.agg #[.slice A l.length c, .int .i64 cap, .int .i64 cnt, .int .i64 cr, .int .i64 fa, .bool dn], .agg #[.int .i64 kind, .string name, .string data, .int .i64 size]] w fun e w' => ∃ v', e = .returned (.tuple #[.agg #[v', .int .i64 cap, .int .i64 cnt, .int .i64 cr, .int .i64 fa, .bool dn], .int .i64 0]) ∧ Kd.R FileK 76 w' w.heap.size (fun _ => True) v' l' ∧ Below w.heap.size w w' := by
  have c0 : (kind == 1) = true := beq_iff_eq.mpr hk
  clear hk
  have c1 : decide (0 ≤ at_) = false := decide_eq_false h0
  have c2 : ((l.length : Int) == 300) = false := beq_eq_false_iff_ne.mpr (by omega)
  have HW := Aside0.mk hwith
  clear h0 hl hwith
  have HR := Aside0.mk hr
  have HFI := Aside0.mk hfind
  clear hr hfind
  go_enter Try.func29, Try.ntmps29
  go_wp2_with (first | ((with_reducible refine gds (N := 2) rfl ?_); refine qbx 2 #[.slice A l.length c, .int .i64 cap, .int .i64 cnt, .int .i64 cr, .int .i64 fa, .bool dn] 31 ?_; intro gb hg w1 hbox hb; have HB := Aside0.mk hb; have HX := Aside0.mk hbox; have HGB := Aside0.mk (Nat.le_of_eq hg.symm); clear hb hbox hg) | ((with_reducible refine gds (N := 3) rfl ?_); refine qbx 3 #[.int .i64 kind, .string name, .string data, .int .i64 size] 35 ?_; intro go_ hg w2 hbox hb; have HX2 := Aside0.mk (bbe HX.out hb); have HO2 := Aside0.mk hbox; have HB2 := Aside0.mk (bst HB.out hb); clear hb hbox hg) | ((with_reducible refine gds (N := 4) rfl ?_); refine qbx 4 #[.slice none 0 0, .int .i64 0, .int .i64 0, .int .i64 0, .int .i64 0, .bool false] 31 ?_; intro gr hg w3 hbox hb; have HX3 := Aside0.mk (bbe HX2.out hb); have HO3 := Aside0.mk (bbe HO2.out hb); have HY3 := Aside0.mk hbox; have HB3 := Aside0.mk (bst HB2.out hb); have HG3 := Aside0.mk (And.intro (Nat.le_trans HB2.out.size (Nat.le_of_eq hg.symm)) (Nat.ne_of_gt (hg ▸ blt HX2.out : gb < gr))); have hz3 := qz4 HO3.out; clear hb hbox hg) | ((with_reducible refine gds (N := 11) rfl ?_); refine wpList_load_row rfl 31 (.tmp 2) rfl gb ?hp 31 #[.slice A l.length c, .int .i64 cap, .int .i64 cnt, .int .i64 cr, .int .i64 fa, .bool dn] (0, 0) _ ?hg Try.underlying31 ?ha ?hi ?_; (case hp => rfl); (case hg => exact HX3.out); (case ha => rfl); (case hi => exact infoFs)) | (go_at_call 49; (with_reducible refine (HFI.out _ (Kd.Cbe HR.out HB3.out)).mono ?_); rintro e w4 ⟨rfl, hb⟩; have HX4 := Aside0.mk (bbe HX3.out hb); have HO4 := Aside0.mk (bbe HO3.out hb); have HY4 := Aside0.mk (bbe HY3.out hb); have HB4 := Aside0.mk (bst HB3.out hb); have hz4 := qz4 HO4.out; have hx4 := qz6 HX4.out; clear hb hz3) | (go_at_call 50; (with_reducible refine (HW.out _ (Kd.Cbe HR.out HB4.out)).mono ?_); rintro e w8 ⟨v', rfl, ho, hb⟩; obtain ⟨A2, c2, rfl⟩ := Kd.R_slice ho; have HX8 := Aside0.mk (bbe HX4.out hb); have HY8 := Aside0.mk (bbe HY4.out hb); have HB8 := Aside0.mk (bst HB4.out hb); have HV8 := Aside0.mk (Kd.Rlo ho HB4.out.size); have hx8 := qz6 HX8.out; clear ho hb) | ((with_reducible refine gds (N := 33) rfl ?_); refine wpList_load_row rfl 31 (.tmp 2) rfl gb ?hp 31 #[.slice A2 l'.length c2, .int .i64 cap, .int .i64 cnt, .int .i64 cr, .int .i64 fa, .bool dn] (0, 0) _ ?hg Try.underlying31 ?ha ?hi ?_; (case hp => rfl); (case hg => exact (bpu HX8.out 0 _ rfl)); (case ha => rfl); (case hi => exact infoFs)) | ((with_reducible refine gst (t := 31) (p := 4) rfl ?_); refine wpList_store_row rfl 31 (.tmp 4) (.tmp 33) rfl gr #[.slice A2 l'.length c2, .int .i64 cap, .int .i64 cnt, .int .i64 cr, .int .i64 fa, .bool dn] ?hx ?hy 31 #[.slice none 0 0, .int .i64 0, .int .i64 0, .int .i64 0, .int .i64 0, .bool false] ?hg ?hi ?ho ?h1 ?_; (case hx => rfl); (case hy => rfl); (case hg => exact (bfa HY8.out HG3.out.2 _)); (case hi => exact infoFs); (case ho => rfl); (case h1 => simp [Value.oneCell'])))
  refine bodyPost_ret (results_ct rfl _ _ gr 31 #[.slice A2 l'.length c2, .int .i64 cap, .int .i64 cnt, .int .i64 cr, .int .i64 fa, .bool dn] (0, 0) _ rfl (heap_setRow_sameF (bfa HY8.out HG3.out.2 _)) Try.underlying31 rfl infoFs) rfl ⟨_, rfl, ?_, ?_⟩
  · exact fin_row HV8.out HX8.out HY8.out HG3.out.2 _
  · exact below_setRowF (bse HB8.out HGB.out) HG3.out.1 _
set_option maxHeartbeats 8000000 in
set_option maxRecDepth 100000 in
theorem l6Do_sync (g : Nat) (c : Nat) (l : List FileT) (cap cnt cr fa : Int) (dn : Bool) (kind : Int) (name data : ByteArray) (size : Int) (w : World)
    (hr : Kd.C FileK w (some ⟨g, 0, none⟩) l.length l) (i : Nat) (hfind : ∀ w', Kd.C FileK w' (some ⟨g, 0, none⟩) l.length l → Calls Try.prog 49 #[.agg #[.slice (some ⟨g, 0, none⟩) l.length c, .int .i64 cap, .int .i64 cnt, .int .i64 cr, .int .i64 fa, .bool dn], .string name] w' fun e w'' => e = .returned (.int .i64 (i : Int)) ∧ Below w'.heap.size w' w'')
    (hi : i < l.length) (X : FileT) (hX : l[i]? = some X) (hk : kind ≠ 1) (k3 : kind = 3) (l' : List FileT) (hwith : ∀ w', Kd.C FileK w' (some ⟨g, 0, none⟩) l.length l → Calls Try.prog 50 #[.slice (some ⟨g, 0, none⟩) l.length c, .string name, .agg #[.string X.f0, .string X.f1, .int .i64 (X.f1.size : Int)]] w' fun e w'' => ∃ v, e = .returned v ∧ Kd.R FileK 76 w'' w'.heap.size (fun _ => True) v l' ∧ Below w'.heap.size w' w'') :
    Calls Try.prog 29 #[.agg #[.slice (some ⟨g, 0, none⟩) l.length c, .int .i64 cap, .int .i64 cnt, .int .i64 cr, .int .i64 fa, .bool dn], .agg #[.int .i64 kind, .string name, .string data, .int .i64 size]] w fun e w' => ∃ v', e = .returned (.tuple #[.agg #[v', .int .i64 cap, .int .i64 cnt, .int .i64 cr, .int .i64 fa, .bool dn], .int .i64 0]) ∧ Kd.R FileK 76 w' w.heap.size (fun _ => True) v' l' ∧ Below w.heap.size w w' := by
  have c0 : (kind == 1) = false := beq_eq_false_iff_ne.mpr hk
  have c1 : decide ((i : Int) < 0) = false := decide_eq_false (by omega)
  have hi0 : (0 : Int) ≤ (i : Int) := by omega
  have hiz : (i : Int) < (l.length : Int) := by omega
  have HI := Aside0.mk (And.intro hi hX)
  clear hk hi hX
  have HW := Aside0.mk hwith
  clear hwith
  have c2 : (kind == 2) = false := beq_eq_false_iff_ne.mpr (by omega)
  have c3 : (kind == 3) = true := beq_iff_eq.mpr k3
  clear k3
  have HR := Aside0.mk hr
  have HFI := Aside0.mk hfind
  clear hr hfind
  go_enter Try.func29, Try.ntmps29
  go_upto_region 12 with (first | ((with_reducible refine gds (N := 2) rfl ?_); refine qbx 2 #[.slice (some ⟨g, 0, none⟩) l.length c, .int .i64 cap, .int .i64 cnt, .int .i64 cr, .int .i64 fa, .bool dn] 31 ?_; intro gb hg w1 hbox hb; have HB := Aside0.mk hb; have HX := Aside0.mk hbox; have HGB := Aside0.mk (Nat.le_of_eq hg.symm); clear hb hbox hg) | ((with_reducible refine gds (N := 3) rfl ?_); refine qbx 3 #[.int .i64 kind, .string name, .string data, .int .i64 size] 35 ?_; intro go_ hg w2 hbox hb; have HX2 := Aside0.mk (bbe HX.out hb); have HO2 := Aside0.mk hbox; have HB2 := Aside0.mk (bst HB.out hb); clear hb hbox hg) | ((with_reducible refine gds (N := 4) rfl ?_); refine qbx 4 #[.slice none 0 0, .int .i64 0, .int .i64 0, .int .i64 0, .int .i64 0, .bool false] 31 ?_; intro gr hg w3 hbox hb; have HX3 := Aside0.mk (bbe HX2.out hb); have HO3 := Aside0.mk (bbe HO2.out hb); have HY3 := Aside0.mk hbox; have HB3 := Aside0.mk (bst HB2.out hb); have HG3 := Aside0.mk (And.intro (Nat.le_trans HB2.out.size (Nat.le_of_eq hg.symm)) (Nat.ne_of_gt (hg ▸ blt HX2.out : gb < gr))); have hz3 := qz4 HO3.out; clear hb hbox hg) | ((with_reducible refine gds (N := 11) rfl ?_); refine wpList_load_row rfl 31 (.tmp 2) rfl gb ?hp 31 #[.slice (some ⟨g, 0, none⟩) l.length c, .int .i64 cap, .int .i64 cnt, .int .i64 cr, .int .i64 fa, .bool dn] (0, 0) _ ?hg Try.underlying31 ?ha ?hi ?_; (case hp => rfl); (case hg => exact HX3.out); (case ha => rfl); (case hi => exact infoFs)) | (go_at_call 49; (with_reducible refine (HFI.out _ (Kd.Cbe HR.out HB3.out)).mono ?_); rintro e w4 ⟨rfl, hb⟩; have HX4 := Aside0.mk (bbe HX3.out hb); have HO4 := Aside0.mk (bbe HO3.out hb); have HY4 := Aside0.mk (bbe HY3.out hb); have HB4 := Aside0.mk (bst HB3.out hb); have hz4 := qz4 HO4.out; have hx4 := qz6 HX4.out; clear hb hz3; obtain ⟨e40, e41, e42⟩ := C_cells (Kd.Cbe HR.out HB4.out) i HI.out.1 X HI.out.2) | ((with_reducible refine gds (N := 7) rfl ?_); refine qbx 7 #[.string (⟨#[]⟩ : ByteArray), .string (⟨#[]⟩ : ByteArray), .int .i64 0] 76 ?_; intro g7 hg w5 hbox hb; have HX5 := Aside0.mk (bbe HX4.out hb); have HO5 := Aside0.mk (bbe HO4.out hb); have HY5 := Aside0.mk (bbe HY4.out hb); have HB5 := Aside0.mk (bst HB4.out hb); have HF5 := Aside0.mk hbox; have HG7 := Aside0.mk (show w.heap.size ≤ g7 ∧ gb ≠ g7 ∧ go_ ≠ g7 ∧ gr ≠ g7 from ⟨Nat.le_trans HB4.out.size (Nat.le_of_eq hg.symm), Nat.ne_of_lt (hg ▸ blt HX4.out), Nat.ne_of_lt (hg ▸ blt HO4.out), Nat.ne_of_lt (hg ▸ blt HY4.out)⟩); have hz7 := qz3 hbox; clear hb hbox hg hz4 hx4))
  have HX6 := Aside0.mk (bfa (bfa (bfa HX5.out HG7.out.2.1 (p := ⟨g7, 0, none⟩) (.string X.f0)) HG7.out.2.1 (p := ⟨g7, 1, none⟩) (.string X.f1)) HG7.out.2.1 (p := ⟨g7, 2, none⟩) (.int .i64 X.f2))
  have HO6 := Aside0.mk (bfa (bfa (bfa HO5.out HG7.out.2.2.1 (p := ⟨g7, 0, none⟩) (.string X.f0)) HG7.out.2.2.1 (p := ⟨g7, 1, none⟩) (.string X.f1)) HG7.out.2.2.1 (p := ⟨g7, 2, none⟩) (.int .i64 X.f2))
  have HY6 := Aside0.mk (bfa (bfa (bfa HY5.out HG7.out.2.2.2 (p := ⟨g7, 0, none⟩) (.string X.f0)) HG7.out.2.2.2 (p := ⟨g7, 1, none⟩) (.string X.f1)) HG7.out.2.2.2 (p := ⟨g7, 2, none⟩) (.int .i64 X.f2))
  have HF6 := Aside0.mk (bpu (cs' := #[.string X.f0, .string X.f1, .int .i64 X.f2]) (bpu (cs' := #[.string X.f0, .string X.f1, .int .i64 0]) (bpu (cs' := #[.string X.f0, .string (⟨#[]⟩ : ByteArray), .int .i64 0]) HF5.out 0 (.string X.f0) rfl) 1 (.string X.f1) rfl) 2 (.int .i64 X.f2) rfl)
  have HB6 := Aside0.mk (bse (bse (bse HB5.out HG7.out.1 (j := 0) (v := .string X.f0)) HG7.out.1 (j := 1) (v := .string X.f1)) HG7.out.1 (j := 2) (v := .int .i64 X.f2))
  generalize ((w5.setCell ⟨g7, 0, none⟩ (.string X.f0)).setCell ⟨g7, 1, none⟩ (.string X.f1)).setCell ⟨g7, 2, none⟩ (.int .i64 X.f2) = w6 at HX6 HO6 HY6 HF6 HB6 ⊢
  clear hz7 HX5 HO5 HY5 HF5 HB5
  have hz6 := qz4 HO6.out
  have hx6 := qz6 HX6.out
  have hf6 := qz3 HF6.out
  go_upto_region 31 with fail
  clear hz6 hx6 hf6
  have HX7 := Aside0.mk (bfa HX6.out HG7.out.2.1 (p := ⟨g7, 2, none⟩) (.int .i64 (X.f1.size : Int)))
  have HO7 := Aside0.mk (bfa HO6.out HG7.out.2.2.1 (p := ⟨g7, 2, none⟩) (.int .i64 (X.f1.size : Int)))
  have HY7 := Aside0.mk (bfa HY6.out HG7.out.2.2.2 (p := ⟨g7, 2, none⟩) (.int .i64 (X.f1.size : Int)))
  have HF7 := Aside0.mk (bpu (cs' := #[.string X.f0, .string X.f1, .int .i64 (X.f1.size : Int)]) HF6.out 2 (.int .i64 (X.f1.size : Int)) rfl)
  have HB7 := Aside0.mk (bse HB6.out HG7.out.1 (j := 2) (v := .int .i64 (X.f1.size : Int)))
  generalize (w6).setCell ⟨g7, 2, none⟩ (.int .i64 (X.f1.size : Int)) = w7 at HX7 HO7 HY7 HF7 HB7 ⊢
  have hz9 := qz4 HO7.out
  have hx9 := qz6 HX7.out
  go_wp2_with (first | ((with_reducible refine gds (N := 105) rfl ?_); refine wpList_load_row rfl 76 (.tmp 7) rfl g7 ?hp 76 #[.string X.f0, .string X.f1, .int .i64 (X.f1.size : Int)] (0, 0) _ ?hg Try.underlying76 ?ha ?hi ?_; (case hp => rfl); (case hg => exact HF7.out); (case ha => rfl); (case hi => exact infoFile)) | (go_at_call 50; (with_reducible refine (HW.out _ (Kd.Cbe HR.out HB7.out)).mono ?_); rintro e w8 ⟨v', rfl, ho, hb⟩; obtain ⟨A2, c2, rfl⟩ := Kd.R_slice ho; have HX8 := Aside0.mk (bbe HX7.out hb); have HY8 := Aside0.mk (bbe HY7.out hb); have HB8 := Aside0.mk (bst HB7.out hb); have HV8 := Aside0.mk (Kd.Rlo ho HB7.out.size); have hx8 := qz6 HX8.out; clear ho hb) | ((with_reducible refine gds (N := 108) rfl ?_); refine wpList_load_row rfl 31 (.tmp 2) rfl gb ?hp 31 #[.slice A2 l'.length c2, .int .i64 cap, .int .i64 cnt, .int .i64 cr, .int .i64 fa, .bool dn] (0, 0) _ ?hg Try.underlying31 ?ha ?hi ?_; (case hp => rfl); (case hg => exact (bpu HX8.out 0 _ rfl)); (case ha => rfl); (case hi => exact infoFs)) | ((with_reducible refine gst (t := 31) (p := 4) rfl ?_); refine wpList_store_row rfl 31 (.tmp 4) (.tmp 108) rfl gr #[.slice A2 l'.length c2, .int .i64 cap, .int .i64 cnt, .int .i64 cr, .int .i64 fa, .bool dn] ?hx ?hy 31 #[.slice none 0 0, .int .i64 0, .int .i64 0, .int .i64 0, .int .i64 0, .bool false] ?hg ?hi ?ho ?h1 ?_; (case hx => rfl); (case hy => rfl); (case hg => exact (bfa HY8.out HG3.out.2 _)); (case hi => exact infoFs); (case ho => rfl); (case h1 => simp [Value.oneCell'])))
  refine bodyPost_ret (results_ct rfl _ _ gr 31 #[.slice A2 l'.length c2, .int .i64 cap, .int .i64 cnt, .int .i64 cr, .int .i64 fa, .bool dn] (0, 0) _ rfl (heap_setRow_sameF (bfa HY8.out HG3.out.2 _)) Try.underlying31 rfl infoFs) rfl ⟨_, rfl, ?_, ?_⟩
  · exact fin_row HV8.out HX8.out HY8.out HG3.out.2 _
  · exact below_setRowF (bse HB8.out HGB.out) HG3.out.1 _
set_option maxHeartbeats 8000000 in
set_option maxRecDepth 100000 in
theorem l6Do_delete (g : Nat) (c : Nat) (l : List FileT) (cap cnt cr fa : Int) (dn : Bool) (kind : Int) (name data : ByteArray) (size : Int) (w : World)
    (hr : Kd.C FileK w (some ⟨g, 0, none⟩) l.length l) (i : Nat) (hfind : ∀ w', Kd.C FileK w' (some ⟨g, 0, none⟩) l.length l → Calls Try.prog 49 #[.agg #[.slice (some ⟨g, 0, none⟩) l.length c, .int .i64 cap, .int .i64 cnt, .int .i64 cr, .int .i64 fa, .bool dn], .string name] w' fun e w'' => e = .returned (.int .i64 (i : Int)) ∧ Below w'.heap.size w' w'')
    (hi : i < l.length) (X : FileT) (hX : l[i]? = some X) (hk : kind ≠ 1) (k5 : kind = 5) (l' : List FileT) (hwith : ∀ w', Kd.C FileK w' (some ⟨g, 0, none⟩) l.length l → Calls Try.prog 50 #[.slice (some ⟨g, 0, none⟩) l.length c, .string name, .agg #[.string (⟨#[]⟩ : ByteArray), .string (⟨#[]⟩ : ByteArray), .int .i64 0]] w' fun e w'' => ∃ v, e = .returned v ∧ Kd.R FileK 76 w'' w'.heap.size (fun _ => True) v l' ∧ Below w'.heap.size w' w'') :
    Calls Try.prog 29 #[.agg #[.slice (some ⟨g, 0, none⟩) l.length c, .int .i64 cap, .int .i64 cnt, .int .i64 cr, .int .i64 fa, .bool dn], .agg #[.int .i64 kind, .string name, .string data, .int .i64 size]] w fun e w' => ∃ v', e = .returned (.tuple #[.agg #[v', .int .i64 cap, .int .i64 cnt, .int .i64 cr, .int .i64 fa, .bool dn], .int .i64 0]) ∧ Kd.R FileK 76 w' w.heap.size (fun _ => True) v' l' ∧ Below w.heap.size w w' := by
  have c0 : (kind == 1) = false := beq_eq_false_iff_ne.mpr hk
  have c1 : decide ((i : Int) < 0) = false := decide_eq_false (by omega)
  have hi0 : (0 : Int) ≤ (i : Int) := by omega
  have hiz : (i : Int) < (l.length : Int) := by omega
  have HI := Aside0.mk (And.intro hi hX)
  clear hk hi hX
  have HW := Aside0.mk hwith
  clear hwith
  have c2 : (kind == 2) = false := beq_eq_false_iff_ne.mpr (by omega)
  have c3 : (kind == 3) = false := beq_eq_false_iff_ne.mpr (by omega)
  have c4 : (kind == 4) = false := beq_eq_false_iff_ne.mpr (by omega)
  have c5 : (kind == 5) = true := beq_iff_eq.mpr k5
  clear k5
  have HR := Aside0.mk hr
  have HFI := Aside0.mk hfind
  clear hr hfind
  go_enter Try.func29, Try.ntmps29
  go_upto_region 12 with (first | ((with_reducible refine gds (N := 2) rfl ?_); refine qbx 2 #[.slice (some ⟨g, 0, none⟩) l.length c, .int .i64 cap, .int .i64 cnt, .int .i64 cr, .int .i64 fa, .bool dn] 31 ?_; intro gb hg w1 hbox hb; have HB := Aside0.mk hb; have HX := Aside0.mk hbox; have HGB := Aside0.mk (Nat.le_of_eq hg.symm); clear hb hbox hg) | ((with_reducible refine gds (N := 3) rfl ?_); refine qbx 3 #[.int .i64 kind, .string name, .string data, .int .i64 size] 35 ?_; intro go_ hg w2 hbox hb; have HX2 := Aside0.mk (bbe HX.out hb); have HO2 := Aside0.mk hbox; have HB2 := Aside0.mk (bst HB.out hb); clear hb hbox hg) | ((with_reducible refine gds (N := 4) rfl ?_); refine qbx 4 #[.slice none 0 0, .int .i64 0, .int .i64 0, .int .i64 0, .int .i64 0, .bool false] 31 ?_; intro gr hg w3 hbox hb; have HX3 := Aside0.mk (bbe HX2.out hb); have HO3 := Aside0.mk (bbe HO2.out hb); have HY3 := Aside0.mk hbox; have HB3 := Aside0.mk (bst HB2.out hb); have HG3 := Aside0.mk (And.intro (Nat.le_trans HB2.out.size (Nat.le_of_eq hg.symm)) (Nat.ne_of_gt (hg ▸ blt HX2.out : gb < gr))); have hz3 := qz4 HO3.out; clear hb hbox hg) | ((with_reducible refine gds (N := 11) rfl ?_); refine wpList_load_row rfl 31 (.tmp 2) rfl gb ?hp 31 #[.slice (some ⟨g, 0, none⟩) l.length c, .int .i64 cap, .int .i64 cnt, .int .i64 cr, .int .i64 fa, .bool dn] (0, 0) _ ?hg Try.underlying31 ?ha ?hi ?_; (case hp => rfl); (case hg => exact HX3.out); (case ha => rfl); (case hi => exact infoFs)) | (go_at_call 49; (with_reducible refine (HFI.out _ (Kd.Cbe HR.out HB3.out)).mono ?_); rintro e w4 ⟨rfl, hb⟩; have HX4 := Aside0.mk (bbe HX3.out hb); have HO4 := Aside0.mk (bbe HO3.out hb); have HY4 := Aside0.mk (bbe HY3.out hb); have HB4 := Aside0.mk (bst HB3.out hb); have hz4 := qz4 HO4.out; have hx4 := qz6 HX4.out; clear hb hz3; obtain ⟨e40, e41, e42⟩ := C_cells (Kd.Cbe HR.out HB4.out) i HI.out.1 X HI.out.2) | ((with_reducible refine gds (N := 7) rfl ?_); refine qbx 7 #[.string (⟨#[]⟩ : ByteArray), .string (⟨#[]⟩ : ByteArray), .int .i64 0] 76 ?_; intro g7 hg w5 hbox hb; have HX5 := Aside0.mk (bbe HX4.out hb); have HO5 := Aside0.mk (bbe HO4.out hb); have HY5 := Aside0.mk (bbe HY4.out hb); have HB5 := Aside0.mk (bst HB4.out hb); have HF5 := Aside0.mk hbox; have HG7 := Aside0.mk (show w.heap.size ≤ g7 ∧ gb ≠ g7 ∧ go_ ≠ g7 ∧ gr ≠ g7 from ⟨Nat.le_trans HB4.out.size (Nat.le_of_eq hg.symm), Nat.ne_of_lt (hg ▸ blt HX4.out), Nat.ne_of_lt (hg ▸ blt HO4.out), Nat.ne_of_lt (hg ▸ blt HY4.out)⟩); have hz7 := qz3 hbox; clear hb hbox hg hz4 hx4))
  have HX6 := Aside0.mk (bfa (bfa (bfa HX5.out HG7.out.2.1 (p := ⟨g7, 0, none⟩) (.string X.f0)) HG7.out.2.1 (p := ⟨g7, 1, none⟩) (.string X.f1)) HG7.out.2.1 (p := ⟨g7, 2, none⟩) (.int .i64 X.f2))
  have HO6 := Aside0.mk (bfa (bfa (bfa HO5.out HG7.out.2.2.1 (p := ⟨g7, 0, none⟩) (.string X.f0)) HG7.out.2.2.1 (p := ⟨g7, 1, none⟩) (.string X.f1)) HG7.out.2.2.1 (p := ⟨g7, 2, none⟩) (.int .i64 X.f2))
  have HY6 := Aside0.mk (bfa (bfa (bfa HY5.out HG7.out.2.2.2 (p := ⟨g7, 0, none⟩) (.string X.f0)) HG7.out.2.2.2 (p := ⟨g7, 1, none⟩) (.string X.f1)) HG7.out.2.2.2 (p := ⟨g7, 2, none⟩) (.int .i64 X.f2))
  have HF6 := Aside0.mk (bpu (cs' := #[.string X.f0, .string X.f1, .int .i64 X.f2]) (bpu (cs' := #[.string X.f0, .string X.f1, .int .i64 0]) (bpu (cs' := #[.string X.f0, .string (⟨#[]⟩ : ByteArray), .int .i64 0]) HF5.out 0 (.string X.f0) rfl) 1 (.string X.f1) rfl) 2 (.int .i64 X.f2) rfl)
  have HB6 := Aside0.mk (bse (bse (bse HB5.out HG7.out.1 (j := 0) (v := .string X.f0)) HG7.out.1 (j := 1) (v := .string X.f1)) HG7.out.1 (j := 2) (v := .int .i64 X.f2))
  generalize ((w5.setCell ⟨g7, 0, none⟩ (.string X.f0)).setCell ⟨g7, 1, none⟩ (.string X.f1)).setCell ⟨g7, 2, none⟩ (.int .i64 X.f2) = w6 at HX6 HO6 HY6 HF6 HB6 ⊢
  clear hz7 HX5 HO5 HY5 HF5 HB5
  have hz6 := qz4 HO6.out
  have hx6 := qz6 HX6.out
  have hf6 := qz3 HF6.out
  go_wp2_with (first | (go_at_call 50; (with_reducible refine (HW.out _ (Kd.Cbe HR.out HB6.out)).mono ?_); rintro e w8 ⟨v', rfl, ho, hb⟩; obtain ⟨A2, c2, rfl⟩ := Kd.R_slice ho; have HX8 := Aside0.mk (bbe HX6.out hb); have HY8 := Aside0.mk (bbe HY6.out hb); have HB8 := Aside0.mk (bst HB6.out hb); have HV8 := Aside0.mk (Kd.Rlo ho HB6.out.size); have hx8 := qz6 HX8.out; clear ho hb) | ((with_reducible refine gds (N := 99) rfl ?_); refine wpList_load_row rfl 31 (.tmp 2) rfl gb ?hp 31 #[.slice A2 l'.length c2, .int .i64 cap, .int .i64 cnt, .int .i64 cr, .int .i64 fa, .bool dn] (0, 0) _ ?hg Try.underlying31 ?ha ?hi ?_; (case hp => rfl); (case hg => exact (bpu HX8.out 0 _ rfl)); (case ha => rfl); (case hi => exact infoFs)) | ((with_reducible refine gst (t := 31) (p := 4) rfl ?_); refine wpList_store_row rfl 31 (.tmp 4) (.tmp 99) rfl gr #[.slice A2 l'.length c2, .int .i64 cap, .int .i64 cnt, .int .i64 cr, .int .i64 fa, .bool dn] ?hx ?hy 31 #[.slice none 0 0, .int .i64 0, .int .i64 0, .int .i64 0, .int .i64 0, .bool false] ?hg ?hi ?ho ?h1 ?_; (case hx => rfl); (case hy => rfl); (case hg => exact (bfa HY8.out HG3.out.2 _)); (case hi => exact infoFs); (case ho => rfl); (case h1 => simp [Value.oneCell'])))
  refine bodyPost_ret (results_ct rfl _ _ gr 31 #[.slice A2 l'.length c2, .int .i64 cap, .int .i64 cnt, .int .i64 cr, .int .i64 fa, .bool dn] (0, 0) _ rfl (heap_setRow_sameF (bfa HY8.out HG3.out.2 _)) Try.underlying31 rfl infoFs) rfl ⟨_, rfl, ?_, ?_⟩
  · exact fin_row HV8.out HX8.out HY8.out HG3.out.2 _
  · exact below_setRowF (bse HB8.out HGB.out) HG3.out.1 _
set_option maxHeartbeats 8000000 in
set_option maxRecDepth 100000 in
theorem l6Do_trunc_bad (g : Nat) (c : Nat) (l : List FileT) (cap cnt cr fa : Int) (dn : Bool) (kind : Int) (name data : ByteArray) (size : Int) (w : World)
    (hr : Kd.C FileK w (some ⟨g, 0, none⟩) l.length l) (i : Nat) (hfind : ∀ w', Kd.C FileK w' (some ⟨g, 0, none⟩) l.length l → Calls Try.prog 49 #[.agg #[.slice (some ⟨g, 0, none⟩) l.length c, .int .i64 cap, .int .i64 cnt, .int .i64 cr, .int .i64 fa, .bool dn], .string name] w' fun e w'' => e = .returned (.int .i64 (i : Int)) ∧ Below w'.heap.size w' w'')
    (hi : i < l.length) (X : FileT) (hX : l[i]? = some X) (hk : kind ≠ 1) (k4 : kind = 4) (hbet : ∀ w', Calls Try.prog 26 #[.int .i64 size, .int .i64 0, .int .i64 (X.f1.size : Int)] w' fun e w'' => e = .returned (.bool false) ∧ Drawn0 w' w'')  :
    Calls Try.prog 29 #[.agg #[.slice (some ⟨g, 0, none⟩) l.length c, .int .i64 cap, .int .i64 cnt, .int .i64 cr, .int .i64 fa, .bool dn], .agg #[.int .i64 kind, .string name, .string data, .int .i64 size]] w fun e w' => e = .returned (.tuple #[.agg #[.slice (some ⟨g, 0, none⟩) l.length c, .int .i64 cap, .int .i64 cnt, .int .i64 cr, .int .i64 fa, .bool dn], .int .i64 16]) ∧ Below w.heap.size w w' := by
  have c0 : (kind == 1) = false := beq_eq_false_iff_ne.mpr hk
  have c1 : decide ((i : Int) < 0) = false := decide_eq_false (by omega)
  have hi0 : (0 : Int) ≤ (i : Int) := by omega
  have hiz : (i : Int) < (l.length : Int) := by omega
  have HI := Aside0.mk (And.intro hi hX)
  clear hk hi hX


  have c2 : (kind == 2) = false := beq_eq_false_iff_ne.mpr (by omega)
  have c3 : (kind == 3) = false := beq_eq_false_iff_ne.mpr (by omega)
  have c4 : (kind == 4) = true := beq_iff_eq.mpr k4
  clear k4
  have HBT := Aside0.mk hbet
  clear hbet
  have HR := Aside0.mk hr
  have HFI := Aside0.mk hfind
  clear hr hfind
  go_enter Try.func29, Try.ntmps29
  go_upto_region 12 with (first | ((with_reducible refine gds (N := 2) rfl ?_); refine qbx 2 #[.slice (some ⟨g, 0, none⟩) l.length c, .int .i64 cap, .int .i64 cnt, .int .i64 cr, .int .i64 fa, .bool dn] 31 ?_; intro gb hg w1 hbox hb; have HB := Aside0.mk hb; have HX := Aside0.mk hbox; have HGB := Aside0.mk (Nat.le_of_eq hg.symm); clear hb hbox hg) | ((with_reducible refine gds (N := 3) rfl ?_); refine qbx 3 #[.int .i64 kind, .string name, .string data, .int .i64 size] 35 ?_; intro go_ hg w2 hbox hb; have HX2 := Aside0.mk (bbe HX.out hb); have HO2 := Aside0.mk hbox; have HB2 := Aside0.mk (bst HB.out hb); clear hb hbox hg) | ((with_reducible refine gds (N := 4) rfl ?_); refine qbx 4 #[.slice none 0 0, .int .i64 0, .int .i64 0, .int .i64 0, .int .i64 0, .bool false] 31 ?_; intro gr hg w3 hbox hb; have HX3 := Aside0.mk (bbe HX2.out hb); have HO3 := Aside0.mk (bbe HO2.out hb); have HY3 := Aside0.mk hbox; have HB3 := Aside0.mk (bst HB2.out hb); have HG3 := Aside0.mk (And.intro (Nat.le_trans HB2.out.size (Nat.le_of_eq hg.symm)) (Nat.ne_of_gt (hg ▸ blt HX2.out : gb < gr))); have hz3 := qz4 HO3.out; clear hb hbox hg) | ((with_reducible refine gds (N := 11) rfl ?_); refine wpList_load_row rfl 31 (.tmp 2) rfl gb ?hp 31 #[.slice (some ⟨g, 0, none⟩) l.length c, .int .i64 cap, .int .i64 cnt, .int .i64 cr, .int .i64 fa, .bool dn] (0, 0) _ ?hg Try.underlying31 ?ha ?hi ?_; (case hp => rfl); (case hg => exact HX3.out); (case ha => rfl); (case hi => exact infoFs)) | (go_at_call 49; (with_reducible refine (HFI.out _ (Kd.Cbe HR.out HB3.out)).mono ?_); rintro e w4 ⟨rfl, hb⟩; have HX4 := Aside0.mk (bbe HX3.out hb); have HO4 := Aside0.mk (bbe HO3.out hb); have HY4 := Aside0.mk (bbe HY3.out hb); have HB4 := Aside0.mk (bst HB3.out hb); have hz4 := qz4 HO4.out; have hx4 := qz6 HX4.out; clear hb hz3; obtain ⟨e40, e41, e42⟩ := C_cells (Kd.Cbe HR.out HB4.out) i HI.out.1 X HI.out.2) | ((with_reducible refine gds (N := 7) rfl ?_); refine qbx 7 #[.string (⟨#[]⟩ : ByteArray), .string (⟨#[]⟩ : ByteArray), .int .i64 0] 76 ?_; intro g7 hg w5 hbox hb; have HX5 := Aside0.mk (bbe HX4.out hb); have HO5 := Aside0.mk (bbe HO4.out hb); have HY5 := Aside0.mk (bbe HY4.out hb); have HB5 := Aside0.mk (bst HB4.out hb); have HF5 := Aside0.mk hbox; have HG7 := Aside0.mk (show w.heap.size ≤ g7 ∧ gb ≠ g7 ∧ go_ ≠ g7 ∧ gr ≠ g7 from ⟨Nat.le_trans HB4.out.size (Nat.le_of_eq hg.symm), Nat.ne_of_lt (hg ▸ blt HX4.out), Nat.ne_of_lt (hg ▸ blt HO4.out), Nat.ne_of_lt (hg ▸ blt HY4.out)⟩); have hz7 := qz3 hbox; clear hb hbox hg hz4 hx4))
  have HX6 := Aside0.mk (bfa (bfa (bfa HX5.out HG7.out.2.1 (p := ⟨g7, 0, none⟩) (.string X.f0)) HG7.out.2.1 (p := ⟨g7, 1, none⟩) (.string X.f1)) HG7.out.2.1 (p := ⟨g7, 2, none⟩) (.int .i64 X.f2))
  have HO6 := Aside0.mk (bfa (bfa (bfa HO5.out HG7.out.2.2.1 (p := ⟨g7, 0, none⟩) (.string X.f0)) HG7.out.2.2.1 (p := ⟨g7, 1, none⟩) (.string X.f1)) HG7.out.2.2.1 (p := ⟨g7, 2, none⟩) (.int .i64 X.f2))
  have HY6 := Aside0.mk (bfa (bfa (bfa HY5.out HG7.out.2.2.2 (p := ⟨g7, 0, none⟩) (.string X.f0)) HG7.out.2.2.2 (p := ⟨g7, 1, none⟩) (.string X.f1)) HG7.out.2.2.2 (p := ⟨g7, 2, none⟩) (.int .i64 X.f2))
  have HF6 := Aside0.mk (bpu (cs' := #[.string X.f0, .string X.f1, .int .i64 X.f2]) (bpu (cs' := #[.string X.f0, .string X.f1, .int .i64 0]) (bpu (cs' := #[.string X.f0, .string (⟨#[]⟩ : ByteArray), .int .i64 0]) HF5.out 0 (.string X.f0) rfl) 1 (.string X.f1) rfl) 2 (.int .i64 X.f2) rfl)
  have HB6 := Aside0.mk (bse (bse (bse HB5.out HG7.out.1 (j := 0) (v := .string X.f0)) HG7.out.1 (j := 1) (v := .string X.f1)) HG7.out.1 (j := 2) (v := .int .i64 X.f2))
  generalize ((w5.setCell ⟨g7, 0, none⟩ (.string X.f0)).setCell ⟨g7, 1, none⟩ (.string X.f1)).setCell ⟨g7, 2, none⟩ (.int .i64 X.f2) = w6 at HX6 HO6 HY6 HF6 HB6 ⊢
  clear hz7 HX5 HO5 HY5 HF5 HB5
  have hz6 := qz4 HO6.out
  have hx6 := qz6 HX6.out
  have hf6 := qz3 HF6.out
  go_wp2_with (first | (go_at_call 26; (with_reducible refine (HBT.out _).mono ?_); rintro e w' ⟨rfl, m1, rfl⟩; have HX9 := Aside0.mk (bdN HX6.out m1); have HO9 := Aside0.mk (bdN HO6.out m1); have HY9 := Aside0.mk (bdN HY6.out m1); have HF9 := Aside0.mk (bdN HF6.out m1); have HB9 := Aside0.mk (pbd HB6.out m1); clear hz6 hx6 hf6; have hz9 := qz4 HO9.out; have hx9 := qz6 HX9.out; have hf9 := qz3 HF9.out) | ((with_reducible refine gds (N := 80) rfl ?_); refine wpList_load_row rfl 31 (.tmp 2) rfl gb ?hp 31 #[.slice (some ⟨g, 0, none⟩) l.length c, .int .i64 cap, .int .i64 cnt, .int .i64 cr, .int .i64 fa, .bool dn] (0, 0) _ ?hg Try.underlying31 ?ha ?hi ?_; (case hp => rfl); (case hg => exact HX9.out); (case ha => rfl); (case hi => exact infoFs)) | ((with_reducible refine gst (t := 31) (p := 4) rfl ?_); refine wpList_store_row rfl 31 (.tmp 4) (.tmp 80) rfl gr #[.slice (some ⟨g, 0, none⟩) l.length c, .int .i64 cap, .int .i64 cnt, .int .i64 cr, .int .i64 fa, .bool dn] ?hx ?hy 31 #[.slice none 0 0, .int .i64 0, .int .i64 0, .int .i64 0, .int .i64 0, .bool false] ?hg ?hi ?ho ?h1 ?_; (case hx => rfl); (case hy => rfl); (case hg => exact HY9.out); (case hi => exact infoFs); (case ho => rfl); (case h1 => simp [Value.oneCell'])))
  refine bodyPost_ret (results_ct rfl _ _ gr 31 #[.slice (some ⟨g, 0, none⟩) l.length c, .int .i64 cap, .int .i64 cnt, .int .i64 cr, .int .i64 fa, .bool dn] (0, 0) _ rfl (heap_setRow_sameF HY9.out) Try.underlying31 rfl infoFs) rfl ⟨rfl, ?_⟩
  exact below_setRowF HB9.out HG3.out.1 _
set_option maxHeartbeats 8000000 in
set_option maxRecDepth 100000 in
theorem l6Do_trunc (g : Nat) (c : Nat) (l : List FileT) (cap cnt cr fa : Int) (dn : Bool) (kind : Int) (name data : ByteArray) (size : Int) (w : World)
    (hr : Kd.C FileK w (some ⟨g, 0, none⟩) l.length l) (i : Nat) (hfind : ∀ w', Kd.C FileK w' (some ⟨g, 0, none⟩) l.length l → Calls Try.prog 49 #[.agg #[.slice (some ⟨g, 0, none⟩) l.length c, .int .i64 cap, .int .i64 cnt, .int .i64 cr, .int .i64 fa, .bool dn], .string name] w' fun e w'' => e = .returned (.int .i64 (i : Int)) ∧ Below w'.heap.size w' w'')
    (hi : i < l.length) (X : FileT) (hX : l[i]? = some X) (hk : kind ≠ 1) (k4 : kind = 4) (hbet : ∀ w', Calls Try.prog 26 #[.int .i64 size, .int .i64 0, .int .i64 (X.f1.size : Int)] w' fun e w'' => e = .returned (.bool true) ∧ Drawn0 w' w'') (s0 : 0 ≤ size) (s1 : size ≤ (X.f1.size : Int)) (l' : List FileT) (hwith : ∀ w', Kd.C FileK w' (some ⟨g, 0, none⟩) l.length l → Calls Try.prog 50 #[.slice (some ⟨g, 0, none⟩) l.length c, .string name, .agg #[.string X.f0, .string (X.f1.extract 0 size.toNat), .int .i64 size]] w' fun e w'' => ∃ v, e = .returned v ∧ Kd.R FileK 76 w'' w'.heap.size (fun _ => True) v l' ∧ Below w'.heap.size w' w'') :
    Calls Try.prog 29 #[.agg #[.slice (some ⟨g, 0, none⟩) l.length c, .int .i64 cap, .int .i64 cnt, .int .i64 cr, .int .i64 fa, .bool dn], .agg #[.int .i64 kind, .string name, .string data, .int .i64 size]] w fun e w' => ∃ v', e = .returned (.tuple #[.agg #[v', .int .i64 cap, .int .i64 cnt, .int .i64 cr, .int .i64 fa, .bool dn], .int .i64 0]) ∧ Kd.R FileK 76 w' w.heap.size (fun _ => True) v' l' ∧ Below w.heap.size w w' := by
  have c0 : (kind == 1) = false := beq_eq_false_iff_ne.mpr hk
  have c1 : decide ((i : Int) < 0) = false := decide_eq_false (by omega)
  have hi0 : (0 : Int) ≤ (i : Int) := by omega
  have hiz : (i : Int) < (l.length : Int) := by omega
  have HI := Aside0.mk (And.intro hi hX)
  clear hk hi hX
  have HW := Aside0.mk hwith
  clear hwith
  have c2 : (kind == 2) = false := beq_eq_false_iff_ne.mpr (by omega)
  have c3 : (kind == 3) = false := beq_eq_false_iff_ne.mpr (by omega)
  have c4 : (kind == 4) = true := beq_iff_eq.mpr k4
  clear k4
  have HBT := Aside0.mk hbet
  clear hbet
  have HR := Aside0.mk hr
  have HFI := Aside0.mk hfind
  clear hr hfind
  go_enter Try.func29, Try.ntmps29
  go_upto_region 12 with (first | ((with_reducible refine gds (N := 2) rfl ?_); refine qbx 2 #[.slice (some ⟨g, 0, none⟩) l.length c, .int .i64 cap, .int .i64 cnt, .int .i64 cr, .int .i64 fa, .bool dn] 31 ?_; intro gb hg w1 hbox hb; have HB := Aside0.mk hb; have HX := Aside0.mk hbox; have HGB := Aside0.mk (Nat.le_of_eq hg.symm); clear hb hbox hg) | ((with_reducible refine gds (N := 3) rfl ?_); refine qbx 3 #[.int .i64 kind, .string name, .string data, .int .i64 size] 35 ?_; intro go_ hg w2 hbox hb; have HX2 := Aside0.mk (bbe HX.out hb); have HO2 := Aside0.mk hbox; have HB2 := Aside0.mk (bst HB.out hb); clear hb hbox hg) | ((with_reducible refine gds (N := 4) rfl ?_); refine qbx 4 #[.slice none 0 0, .int .i64 0, .int .i64 0, .int .i64 0, .int .i64 0, .bool false] 31 ?_; intro gr hg w3 hbox hb; have HX3 := Aside0.mk (bbe HX2.out hb); have HO3 := Aside0.mk (bbe HO2.out hb); have HY3 := Aside0.mk hbox; have HB3 := Aside0.mk (bst HB2.out hb); have HG3 := Aside0.mk (And.intro (Nat.le_trans HB2.out.size (Nat.le_of_eq hg.symm)) (Nat.ne_of_gt (hg ▸ blt HX2.out : gb < gr))); have hz3 := qz4 HO3.out; clear hb hbox hg) | ((with_reducible refine gds (N := 11) rfl ?_); refine wpList_load_row rfl 31 (.tmp 2) rfl gb ?hp 31 #[.slice (some ⟨g, 0, none⟩) l.length c, .int .i64 cap, .int .i64 cnt, .int .i64 cr, .int .i64 fa, .bool dn] (0, 0) _ ?hg Try.underlying31 ?ha ?hi ?_; (case hp => rfl); (case hg => exact HX3.out); (case ha => rfl); (case hi => exact infoFs)) | (go_at_call 49; (with_reducible refine (HFI.out _ (Kd.Cbe HR.out HB3.out)).mono ?_); rintro e w4 ⟨rfl, hb⟩; have HX4 := Aside0.mk (bbe HX3.out hb); have HO4 := Aside0.mk (bbe HO3.out hb); have HY4 := Aside0.mk (bbe HY3.out hb); have HB4 := Aside0.mk (bst HB3.out hb); have hz4 := qz4 HO4.out; have hx4 := qz6 HX4.out; clear hb hz3; obtain ⟨e40, e41, e42⟩ := C_cells (Kd.Cbe HR.out HB4.out) i HI.out.1 X HI.out.2) | ((with_reducible refine gds (N := 7) rfl ?_); refine qbx 7 #[.string (⟨#[]⟩ : ByteArray), .string (⟨#[]⟩ : ByteArray), .int .i64 0] 76 ?_; intro g7 hg w5 hbox hb; have HX5 := Aside0.mk (bbe HX4.out hb); have HO5 := Aside0.mk (bbe HO4.out hb); have HY5 := Aside0.mk (bbe HY4.out hb); have HB5 := Aside0.mk (bst HB4.out hb); have HF5 := Aside0.mk hbox; have HG7 := Aside0.mk (show w.heap.size ≤ g7 ∧ gb ≠ g7 ∧ go_ ≠ g7 ∧ gr ≠ g7 from ⟨Nat.le_trans HB4.out.size (Nat.le_of_eq hg.symm), Nat.ne_of_lt (hg ▸ blt HX4.out), Nat.ne_of_lt (hg ▸ blt HO4.out), Nat.ne_of_lt (hg ▸ blt HY4.out)⟩); have hz7 := qz3 hbox; clear hb hbox hg hz4 hx4))
  have HX6 := Aside0.mk (bfa (bfa (bfa HX5.out HG7.out.2.1 (p := ⟨g7, 0, none⟩) (.string X.f0)) HG7.out.2.1 (p := ⟨g7, 1, none⟩) (.string X.f1)) HG7.out.2.1 (p := ⟨g7, 2, none⟩) (.int .i64 X.f2))
  have HO6 := Aside0.mk (bfa (bfa (bfa HO5.out HG7.out.2.2.1 (p := ⟨g7, 0, none⟩) (.string X.f0)) HG7.out.2.2.1 (p := ⟨g7, 1, none⟩) (.string X.f1)) HG7.out.2.2.1 (p := ⟨g7, 2, none⟩) (.int .i64 X.f2))
  have HY6 := Aside0.mk (bfa (bfa (bfa HY5.out HG7.out.2.2.2 (p := ⟨g7, 0, none⟩) (.string X.f0)) HG7.out.2.2.2 (p := ⟨g7, 1, none⟩) (.string X.f1)) HG7.out.2.2.2 (p := ⟨g7, 2, none⟩) (.int .i64 X.f2))
  have HF6 := Aside0.mk (bpu (cs' := #[.string X.f0, .string X.f1, .int .i64 X.f2]) (bpu (cs' := #[.string X.f0, .string X.f1, .int .i64 0]) (bpu (cs' := #[.string X.f0, .string (⟨#[]⟩ : ByteArray), .int .i64 0]) HF5.out 0 (.string X.f0) rfl) 1 (.string X.f1) rfl) 2 (.int .i64 X.f2) rfl)
  have HB6 := Aside0.mk (bse (bse (bse HB5.out HG7.out.1 (j := 0) (v := .string X.f0)) HG7.out.1 (j := 1) (v := .string X.f1)) HG7.out.1 (j := 2) (v := .int .i64 X.f2))
  generalize ((w5.setCell ⟨g7, 0, none⟩ (.string X.f0)).setCell ⟨g7, 1, none⟩ (.string X.f1)).setCell ⟨g7, 2, none⟩ (.int .i64 X.f2) = w6 at HX6 HO6 HY6 HF6 HB6 ⊢
  clear hz7 HX5 HO5 HY5 HF5 HB5
  have hz6 := qz4 HO6.out
  have hx6 := qz6 HX6.out
  have hf6 := qz3 HF6.out
  go_upto_region 31 with (first | (go_at_call 26; (with_reducible refine (HBT.out _).mono ?_); rintro e w' ⟨rfl, m1, rfl⟩; have HX9 := Aside0.mk (bdN HX6.out m1); have HO9 := Aside0.mk (bdN HO6.out m1); have HY9 := Aside0.mk (bdN HY6.out m1); have HF9 := Aside0.mk (bdN HF6.out m1); have HB9 := Aside0.mk (pbd HB6.out m1); clear hz6 hx6 hf6; have hz9 := qz4 HO9.out; have hx9 := qz6 HX9.out; have hf9 := qz3 HF9.out))
  clear hz9 hx9 hf9
  have HX8 := Aside0.mk (bfa HX9.out HG7.out.2.1 (p := ⟨g7, 1, none⟩) (.string (X.f1.extract 0 size.toNat)))
  have HO8 := Aside0.mk (bfa HO9.out HG7.out.2.2.1 (p := ⟨g7, 1, none⟩) (.string (X.f1.extract 0 size.toNat)))
  have HY8 := Aside0.mk (bfa HY9.out HG7.out.2.2.2 (p := ⟨g7, 1, none⟩) (.string (X.f1.extract 0 size.toNat)))
  have HF8 := Aside0.mk (bpu (cs' := #[.string X.f0, .string (X.f1.extract 0 size.toNat), .int .i64 X.f2]) HF9.out 1 (.string (X.f1.extract 0 size.toNat)) rfl)
  have HB8 := Aside0.mk (bse HB9.out HG7.out.1 (j := 1) (v := .string (X.f1.extract 0 size.toNat)))
  generalize (w6.drewN m1).setCell ⟨g7, 1, none⟩ (.string (X.f1.extract 0 size.toNat)) = w8 at HX8 HO8 HY8 HF8 HB8 ⊢
  have HX7 := Aside0.mk (bfa HX8.out HG7.out.2.1 (p := ⟨g7, 2, none⟩) (.int .i64 size))
  have HO7 := Aside0.mk (bfa HO8.out HG7.out.2.2.1 (p := ⟨g7, 2, none⟩) (.int .i64 size))
  have HY7 := Aside0.mk (bfa HY8.out HG7.out.2.2.2 (p := ⟨g7, 2, none⟩) (.int .i64 size))
  have HF7 := Aside0.mk (bpu (cs' := #[.string X.f0, .string (X.f1.extract 0 size.toNat), .int .i64 size]) HF8.out 2 (.int .i64 size) rfl)
  have HB7 := Aside0.mk (bse HB8.out HG7.out.1 (j := 2) (v := .int .i64 size))
  generalize (w8).setCell ⟨g7, 2, none⟩ (.int .i64 size) = w7 at HX7 HO7 HY7 HF7 HB7 ⊢
  clear HX8 HO8 HY8 HF8 HB8
  have hz9 := qz4 HO7.out
  have hx9 := qz6 HX7.out
  go_wp2_with (first | ((with_reducible refine gds (N := 105) rfl ?_); refine wpList_load_row rfl 76 (.tmp 7) rfl g7 ?hp 76 #[.string X.f0, .string (X.f1.extract 0 size.toNat), .int .i64 size] (0, 0) _ ?hg Try.underlying76 ?ha ?hi ?_; (case hp => rfl); (case hg => exact HF7.out); (case ha => rfl); (case hi => exact infoFile)) | (go_at_call 50; (with_reducible refine (HW.out _ (Kd.Cbe HR.out HB7.out)).mono ?_); rintro e w8 ⟨v', rfl, ho, hb⟩; obtain ⟨A2, c2, rfl⟩ := Kd.R_slice ho; have HX8 := Aside0.mk (bbe HX7.out hb); have HY8 := Aside0.mk (bbe HY7.out hb); have HB8 := Aside0.mk (bst HB7.out hb); have HV8 := Aside0.mk (Kd.Rlo ho HB7.out.size); have hx8 := qz6 HX8.out; clear ho hb) | ((with_reducible refine gds (N := 108) rfl ?_); refine wpList_load_row rfl 31 (.tmp 2) rfl gb ?hp 31 #[.slice A2 l'.length c2, .int .i64 cap, .int .i64 cnt, .int .i64 cr, .int .i64 fa, .bool dn] (0, 0) _ ?hg Try.underlying31 ?ha ?hi ?_; (case hp => rfl); (case hg => exact (bpu HX8.out 0 _ rfl)); (case ha => rfl); (case hi => exact infoFs)) | ((with_reducible refine gst (t := 31) (p := 4) rfl ?_); refine wpList_store_row rfl 31 (.tmp 4) (.tmp 108) rfl gr #[.slice A2 l'.length c2, .int .i64 cap, .int .i64 cnt, .int .i64 cr, .int .i64 fa, .bool dn] ?hx ?hy 31 #[.slice none 0 0, .int .i64 0, .int .i64 0, .int .i64 0, .int .i64 0, .bool false] ?hg ?hi ?ho ?h1 ?_; (case hx => rfl); (case hy => rfl); (case hg => exact (bfa HY8.out HG3.out.2 _)); (case hi => exact infoFs); (case ho => rfl); (case h1 => simp [Value.oneCell'])))
  refine bodyPost_ret (results_ct rfl _ _ gr 31 #[.slice A2 l'.length c2, .int .i64 cap, .int .i64 cnt, .int .i64 cr, .int .i64 fa, .bool dn] (0, 0) _ rfl (heap_setRow_sameF (bfa HY8.out HG3.out.2 _)) Try.underlying31 rfl infoFs) rfl ⟨_, rfl, ?_, ?_⟩
  · exact fin_row HV8.out HX8.out HY8.out HG3.out.2 _
  · exact below_setRowF (bse HB8.out HGB.out) HG3.out.1 _
set_option maxHeartbeats 8000000 in
set_option maxRecDepth 100000 in
theorem l6Do_append_full (g : Nat) (c : Nat) (l : List FileT) (cap cnt cr fa : Int) (dn : Bool) (kind : Int) (name data : ByteArray) (size : Int) (w : World)
    (hr : Kd.C FileK w (some ⟨g, 0, none⟩) l.length l) (i : Nat) (hfind : ∀ w', Kd.C FileK w' (some ⟨g, 0, none⟩) l.length l → Calls Try.prog 49 #[.agg #[.slice (some ⟨g, 0, none⟩) l.length c, .int .i64 cap, .int .i64 cnt, .int .i64 cr, .int .i64 fa, .bool dn], .string name] w' fun e w'' => e = .returned (.int .i64 (i : Int)) ∧ Below w'.heap.size w' w'')
    (hi : i < l.length) (X : FileT) (hX : l[i]? = some X) (hk : kind ≠ 1) (k2 : kind = 2) (n : Int) (hbytes : ∀ w', Kd.C FileK w' (some ⟨g, 0, none⟩) l.length l → Calls Try.prog 47 #[.agg #[.slice (some ⟨g, 0, none⟩) l.length c, .int .i64 cap, .int .i64 cnt, .int .i64 cr, .int .i64 fa, .bool dn]] w' fun e w'' => e = .returned (.int .i64 n) ∧ Below w'.heap.size w' w'') (R : Nat) (hR : cap - n = (R : Int)) (hR2 : R ≤ 1000000000) (hd2 : data.size ≤ 1000000000) (hX2 : X.f1.size ≤ 1000000000) (hr : R < data.size) (l' : List FileT) (hwith : ∀ w', Kd.C FileK w' (some ⟨g, 0, none⟩) l.length l → Calls Try.prog 50 #[.slice (some ⟨g, 0, none⟩) l.length c, .string name, .agg #[.string X.f0, .string (X.f1 ++ data.extract 0 R), .int .i64 X.f2]] w' fun e w'' => ∃ v, e = .returned v ∧ Kd.R FileK 76 w'' w'.heap.size (fun _ => True) v l' ∧ Below w'.heap.size w' w'') :
    Calls Try.prog 29 #[.agg #[.slice (some ⟨g, 0, none⟩) l.length c, .int .i64 cap, .int .i64 cnt, .int .i64 cr, .int .i64 fa, .bool dn], .agg #[.int .i64 kind, .string name, .string data, .int .i64 size]] w fun e w' => ∃ v', e = .returned (.tuple #[.agg #[v', .int .i64 cap, .int .i64 cnt, .int .i64 cr, .int .i64 fa, .bool dn], .int .i64 13]) ∧ Kd.R FileK 76 w' w.heap.size (fun _ => True) v' l' ∧ Below w.heap.size w w' := by
  have c0 : (kind == 1) = false := beq_eq_false_iff_ne.mpr hk
  have c1 : decide ((i : Int) < 0) = false := decide_eq_false (by omega)
  have hi0 : (0 : Int) ≤ (i : Int) := by omega
  have hiz : (i : Int) < (l.length : Int) := by omega
  have HI := Aside0.mk (And.intro hi hX)
  clear hk hi hX
  have HW := Aside0.mk hwith
  clear hwith
  have c2 : (kind == 2) = true := beq_iff_eq.mpr k2
  clear k2
  have HBY := Aside0.mk hbytes
  have hwr : wrap64 (cap - n) = (R : Int) := by rw [hR]; unfold wrap64; omega
  have HWR := Aside0.mk hwr
  have r2 : (0 : Int) ≤ (R : Int) := by omega
  have r3 : (0 : Int) ≤ (data.size : Int) := by omega
  have r9 : (R : Int) < (data.size : Int) := by omega
  have r1 : decide ((R : Int) < (data.size : Int)) = true := decide_eq_true (by omega)
  have r5 : (R : Int) ≤ (data.size : Int) := by omega
  have r6 : (9223372036854775807 < X.f1.size + (data.extract 0 R).size) = False := eq_false (by rw [ByteArray.size_extract]; omega)
  have r8 : (9223372036854775807 < X.f1.size + min R data.size) = False := eq_false (by omega)
  have r11 : (9223372036854775807 < X.f1.size + R) = False := eq_false (by omega)
  have r12 : min R data.size = R := by omega
  clear hbytes hwr hR hR2 hd2 hX2 hr
  have HR := Aside0.mk hr
  have HFI := Aside0.mk hfind
  clear hr hfind
  go_enter Try.func29, Try.ntmps29
  go_upto_region 12 with (first | ((with_reducible refine gds (N := 2) rfl ?_); refine qbx 2 #[.slice (some ⟨g, 0, none⟩) l.length c, .int .i64 cap, .int .i64 cnt, .int .i64 cr, .int .i64 fa, .bool dn] 31 ?_; intro gb hg w1 hbox hb; have HB := Aside0.mk hb; have HX := Aside0.mk hbox; have HGB := Aside0.mk (Nat.le_of_eq hg.symm); clear hb hbox hg) | ((with_reducible refine gds (N := 3) rfl ?_); refine qbx 3 #[.int .i64 kind, .string name, .string data, .int .i64 size] 35 ?_; intro go_ hg w2 hbox hb; have HX2 := Aside0.mk (bbe HX.out hb); have HO2 := Aside0.mk hbox; have HB2 := Aside0.mk (bst HB.out hb); clear hb hbox hg) | ((with_reducible refine gds (N := 4) rfl ?_); refine qbx 4 #[.slice none 0 0, .int .i64 0, .int .i64 0, .int .i64 0, .int .i64 0, .bool false] 31 ?_; intro gr hg w3 hbox hb; have HX3 := Aside0.mk (bbe HX2.out hb); have HO3 := Aside0.mk (bbe HO2.out hb); have HY3 := Aside0.mk hbox; have HB3 := Aside0.mk (bst HB2.out hb); have HG3 := Aside0.mk (And.intro (Nat.le_trans HB2.out.size (Nat.le_of_eq hg.symm)) (Nat.ne_of_gt (hg ▸ blt HX2.out : gb < gr))); have hz3 := qz4 HO3.out; clear hb hbox hg) | ((with_reducible refine gds (N := 11) rfl ?_); refine wpList_load_row rfl 31 (.tmp 2) rfl gb ?hp 31 #[.slice (some ⟨g, 0, none⟩) l.length c, .int .i64 cap, .int .i64 cnt, .int .i64 cr, .int .i64 fa, .bool dn] (0, 0) _ ?hg Try.underlying31 ?ha ?hi ?_; (case hp => rfl); (case hg => exact HX3.out); (case ha => rfl); (case hi => exact infoFs)) | (go_at_call 49; (with_reducible refine (HFI.out _ (Kd.Cbe HR.out HB3.out)).mono ?_); rintro e w4 ⟨rfl, hb⟩; have HX4 := Aside0.mk (bbe HX3.out hb); have HO4 := Aside0.mk (bbe HO3.out hb); have HY4 := Aside0.mk (bbe HY3.out hb); have HB4 := Aside0.mk (bst HB3.out hb); have hz4 := qz4 HO4.out; have hx4 := qz6 HX4.out; clear hb hz3; obtain ⟨e40, e41, e42⟩ := C_cells (Kd.Cbe HR.out HB4.out) i HI.out.1 X HI.out.2) | ((with_reducible refine gds (N := 7) rfl ?_); refine qbx 7 #[.string (⟨#[]⟩ : ByteArray), .string (⟨#[]⟩ : ByteArray), .int .i64 0] 76 ?_; intro g7 hg w5 hbox hb; have HX5 := Aside0.mk (bbe HX4.out hb); have HO5 := Aside0.mk (bbe HO4.out hb); have HY5 := Aside0.mk (bbe HY4.out hb); have HB5 := Aside0.mk (bst HB4.out hb); have HF5 := Aside0.mk hbox; have HG7 := Aside0.mk (show w.heap.size ≤ g7 ∧ gb ≠ g7 ∧ go_ ≠ g7 ∧ gr ≠ g7 from ⟨Nat.le_trans HB4.out.size (Nat.le_of_eq hg.symm), Nat.ne_of_lt (hg ▸ blt HX4.out), Nat.ne_of_lt (hg ▸ blt HO4.out), Nat.ne_of_lt (hg ▸ blt HY4.out)⟩); have hz7 := qz3 hbox; clear hb hbox hg hz4 hx4))
  have HX6 := Aside0.mk (bfa (bfa (bfa HX5.out HG7.out.2.1 (p := ⟨g7, 0, none⟩) (.string X.f0)) HG7.out.2.1 (p := ⟨g7, 1, none⟩) (.string X.f1)) HG7.out.2.1 (p := ⟨g7, 2, none⟩) (.int .i64 X.f2))
  have HO6 := Aside0.mk (bfa (bfa (bfa HO5.out HG7.out.2.2.1 (p := ⟨g7, 0, none⟩) (.string X.f0)) HG7.out.2.2.1 (p := ⟨g7, 1, none⟩) (.string X.f1)) HG7.out.2.2.1 (p := ⟨g7, 2, none⟩) (.int .i64 X.f2))
  have HY6 := Aside0.mk (bfa (bfa (bfa HY5.out HG7.out.2.2.2 (p := ⟨g7, 0, none⟩) (.string X.f0)) HG7.out.2.2.2 (p := ⟨g7, 1, none⟩) (.string X.f1)) HG7.out.2.2.2 (p := ⟨g7, 2, none⟩) (.int .i64 X.f2))
  have HF6 := Aside0.mk (bpu (cs' := #[.string X.f0, .string X.f1, .int .i64 X.f2]) (bpu (cs' := #[.string X.f0, .string X.f1, .int .i64 0]) (bpu (cs' := #[.string X.f0, .string (⟨#[]⟩ : ByteArray), .int .i64 0]) HF5.out 0 (.string X.f0) rfl) 1 (.string X.f1) rfl) 2 (.int .i64 X.f2) rfl)
  have HB6 := Aside0.mk (bse (bse (bse HB5.out HG7.out.1 (j := 0) (v := .string X.f0)) HG7.out.1 (j := 1) (v := .string X.f1)) HG7.out.1 (j := 2) (v := .int .i64 X.f2))
  generalize ((w5.setCell ⟨g7, 0, none⟩ (.string X.f0)).setCell ⟨g7, 1, none⟩ (.string X.f1)).setCell ⟨g7, 2, none⟩ (.int .i64 X.f2) = w6 at HX6 HO6 HY6 HF6 HB6 ⊢
  clear hz7 HX5 HO5 HY5 HF5 HB5
  have hz6 := qz4 HO6.out
  have hx6 := qz6 HX6.out
  have hf6 := qz3 HF6.out
  go_upto_region 16 with fail
  refine start_ (n := 6) (S := (fun w' =>  w'.cell? ⟨gb, 0, none⟩ = some (.slice (some ⟨g, 0, none⟩) l.length c) ∧ w'.cell? ⟨gb, 1, none⟩ = some (.int .i64 cap) ∧ w'.cell? ⟨gb, 2, none⟩ = some (.int .i64 cnt) ∧ w'.cell? ⟨gb, 3, none⟩ = some (.int .i64 cr) ∧ w'.cell? ⟨gb, 4, none⟩ = some (.int .i64 fa) ∧ w'.cell? ⟨gb, 5, none⟩ = some (.bool dn) )) (ds := []) #[false, false, false, false, false, false] (by kernel_rfl) rfl rfl (qy6 (bkD HX6.out)) (fun hHeld => ?_)
  refine pure_ (i := 0) (N := some 48) (v := ?_) (a' := ?_) #[true, false, false, false, false, false] rfl rfl (by kernel_rfl) (fun _ _ _ h => h) (Or.inl ⟨by rfl, ?_⟩) ?_ ?_
  rotate_left
  · intro w'
    go_simp
    with_reducible rfl
  rotate_left
  · simp only [Act.put, List.setIfInBounds_toArray, List.set_cons_zero, List.set_cons_succ, i64_w, i32_w]
    rfl
  refine take_ (i := 1) (N := some 49) (v := ?_) (a' := ?_) #[true, true, false, false, false, false] rfl rfl (by kernel_rfl) (fun _ _ _ h => h) (Or.inl ⟨by rfl, ?_⟩) hHeld ?_ ?_
  rotate_left
  · rintro w' ⟨s0, s1, s2, s3, s4, s5⟩
    go_simp
    with_reducible rfl
  rotate_left
  · simp only [Act.put, List.setIfInBounds_toArray, List.set_cons_zero, List.set_cons_succ, i64_w, i32_w]
    rfl
  refine take_ (i := 2) (N := some 50) (v := ?_) (a' := ?_) #[true, true, true, false, false, false] rfl rfl (by kernel_rfl) (fun _ _ _ h => h) (Or.inl ⟨by rfl, ?_⟩) hHeld ?_ ?_
  rotate_left
  · rintro w' ⟨s0, s1, s2, s3, s4, s5⟩
    go_simp
    with_reducible rfl
  rotate_left
  · simp only [Act.put, List.setIfInBounds_toArray, List.set_cons_zero, List.set_cons_succ, i64_w, i32_w]
    rfl
  refine one_ (i := 3) (N := some 51) #[true, true, true, true, false, false] rfl rfl (by kernel_rfl) (by decide) (fun K hK => ?_)
  refine goes_ Try.func47 (by kernel_rfl) rfl #[.agg #[.slice (some ⟨g, 0, none⟩) l.length c, .int .i64 cap, .int .i64 cnt, .int .i64 cr, .int .i64 fa, .bool dn]] (by rfl) rfl rfl qA ?_
  (with_reducible refine (HBY.out _ (Kd.Cbe HR.out (bd1 HB6.out))).mono ?_)
  rintro e w10 ⟨rfl, hb⟩
  refine ⟨_, rfl, ?_⟩
  have HX10 := Aside0.mk (bbe (bkD HX6.out) hb)
  have HO10 := Aside0.mk (bbe (bkD HO6.out) hb)
  have HY10 := Aside0.mk (bbe (bkD HY6.out) hb)
  have HF10 := Aside0.mk (bbe (bkD HF6.out) hb)
  have HB10 := Aside0.mk (bst (bd1 HB6.out) hb)
  clear hb hz6 hx6 hf6
  refine hK.out _ _ (qy6 HX10.out) (fun hHeld => ?_)
  clear hK K
  refine norm_ (a' := ?_) ?_ ?_
  rotate_left
  · show Act.put _ (some 51) _ = _
    simp only [Act.put, List.setIfInBounds_toArray, List.set_cons_zero, List.set_cons_succ, i64_w, i32_w]
    rfl
  refine pure_ (i := 4) (N := some 52) (v := ?_) (a' := ?_) #[true, true, true, true, true, false] rfl rfl (by kernel_rfl) (fun _ _ _ h => h) (Or.inl ⟨by rfl, ?_⟩) ?_ ?_
  rotate_left
  · intro w'
    go_simp
    with_reducible rfl
  rotate_left
  · simp only [Act.put, List.setIfInBounds_toArray, List.set_cons_zero, List.set_cons_succ, i64_w, i32_w]
    rfl
  refine pure_ (i := 5) (N := some 10) (v := ?_) (a' := ?_) #[true, true, true, true, true, true] rfl rfl (by kernel_rfl) (fun _ _ _ h => h) (Or.inl ⟨by rfl, ?_⟩) ?_ ?_
  rotate_left
  · intro w'
    go_simp
    with_reducible rfl
  rotate_left
  · simp only [Act.put, List.setIfInBounds_toArray, List.set_cons_zero, List.set_cons_succ, i64_w, i32_w]
    rfl
  refine done_ (by kernel_rfl) ?_
  simp only [HWR.out]
  have hz10 := qz4 HO10.out
  have hx10 := qz6 HX10.out
  have hf10 := qz3 HF10.out
  clear hHeld
  go_upto_region 31 with fail
  clear hz10 hx10 hf10
  have HX7 := Aside0.mk (bfa HX10.out HG7.out.2.1 (p := ⟨g7, 1, none⟩) (.string (X.f1 ++ data.extract 0 R)))
  have HO7 := Aside0.mk (bfa HO10.out HG7.out.2.2.1 (p := ⟨g7, 1, none⟩) (.string (X.f1 ++ data.extract 0 R)))
  have HY7 := Aside0.mk (bfa HY10.out HG7.out.2.2.2 (p := ⟨g7, 1, none⟩) (.string (X.f1 ++ data.extract 0 R)))
  have HF7 := Aside0.mk (bpu (cs' := #[.string X.f0, .string (X.f1 ++ data.extract 0 R), .int .i64 X.f2]) HF10.out 1 (.string (X.f1 ++ data.extract 0 R)) rfl)
  have HB7 := Aside0.mk (bse HB10.out HG7.out.1 (j := 1) (v := .string (X.f1 ++ data.extract 0 R)))
  generalize (w10).setCell ⟨g7, 1, none⟩ (.string (X.f1 ++ data.extract 0 R)) = w7 at HX7 HO7 HY7 HF7 HB7 ⊢
  have hz9 := qz4 HO7.out
  have hx9 := qz6 HX7.out
  go_wp2_with (first | ((with_reducible refine gds (N := 105) rfl ?_); refine wpList_load_row rfl 76 (.tmp 7) rfl g7 ?hp 76 #[.string X.f0, .string (X.f1 ++ data.extract 0 R), .int .i64 X.f2] (0, 0) _ ?hg Try.underlying76 ?ha ?hi ?_; (case hp => rfl); (case hg => exact HF7.out); (case ha => rfl); (case hi => exact infoFile)) | (go_at_call 50; (with_reducible refine (HW.out _ (Kd.Cbe HR.out HB7.out)).mono ?_); rintro e w8 ⟨v', rfl, ho, hb⟩; obtain ⟨A2, c2, rfl⟩ := Kd.R_slice ho; have HX8 := Aside0.mk (bbe HX7.out hb); have HY8 := Aside0.mk (bbe HY7.out hb); have HB8 := Aside0.mk (bst HB7.out hb); have HV8 := Aside0.mk (Kd.Rlo ho HB7.out.size); have hx8 := qz6 HX8.out; clear ho hb) | ((with_reducible refine gds (N := 108) rfl ?_); refine wpList_load_row rfl 31 (.tmp 2) rfl gb ?hp 31 #[.slice A2 l'.length c2, .int .i64 cap, .int .i64 cnt, .int .i64 cr, .int .i64 fa, .bool dn] (0, 0) _ ?hg Try.underlying31 ?ha ?hi ?_; (case hp => rfl); (case hg => exact (bpu HX8.out 0 _ rfl)); (case ha => rfl); (case hi => exact infoFs)) | ((with_reducible refine gst (t := 31) (p := 4) rfl ?_); refine wpList_store_row rfl 31 (.tmp 4) (.tmp 108) rfl gr #[.slice A2 l'.length c2, .int .i64 cap, .int .i64 cnt, .int .i64 cr, .int .i64 fa, .bool dn] ?hx ?hy 31 #[.slice none 0 0, .int .i64 0, .int .i64 0, .int .i64 0, .int .i64 0, .bool false] ?hg ?hi ?ho ?h1 ?_; (case hx => rfl); (case hy => rfl); (case hg => exact (bfa HY8.out HG3.out.2 _)); (case hi => exact infoFs); (case ho => rfl); (case h1 => simp [Value.oneCell'])))
  refine bodyPost_ret (results_ct rfl _ _ gr 31 #[.slice A2 l'.length c2, .int .i64 cap, .int .i64 cnt, .int .i64 cr, .int .i64 fa, .bool dn] (0, 0) _ rfl (heap_setRow_sameF (bfa HY8.out HG3.out.2 _)) Try.underlying31 rfl infoFs) rfl ⟨_, rfl, ?_, ?_⟩
  · exact fin_row HV8.out HX8.out HY8.out HG3.out.2 _
  · exact below_setRowF (bse HB8.out HGB.out) HG3.out.1 _
set_option maxHeartbeats 8000000 in
set_option maxRecDepth 100000 in
theorem l6Do_append_fits (g : Nat) (c : Nat) (l : List FileT) (cap cnt cr fa : Int) (dn : Bool) (kind : Int) (name data : ByteArray) (size : Int) (w : World)
    (hr : Kd.C FileK w (some ⟨g, 0, none⟩) l.length l) (i : Nat) (hfind : ∀ w', Kd.C FileK w' (some ⟨g, 0, none⟩) l.length l → Calls Try.prog 49 #[.agg #[.slice (some ⟨g, 0, none⟩) l.length c, .int .i64 cap, .int .i64 cnt, .int .i64 cr, .int .i64 fa, .bool dn], .string name] w' fun e w'' => e = .returned (.int .i64 (i : Int)) ∧ Below w'.heap.size w' w'')
    (hi : i < l.length) (X : FileT) (hX : l[i]? = some X) (hk : kind ≠ 1) (k2 : kind = 2) (n : Int) (hbytes : ∀ w', Kd.C FileK w' (some ⟨g, 0, none⟩) l.length l → Calls Try.prog 47 #[.agg #[.slice (some ⟨g, 0, none⟩) l.length c, .int .i64 cap, .int .i64 cnt, .int .i64 cr, .int .i64 fa, .bool dn]] w' fun e w'' => e = .returned (.int .i64 n) ∧ Below w'.heap.size w' w'') (R : Nat) (hR : cap - n = (R : Int)) (hR2 : R ≤ 1000000000) (hd2 : data.size ≤ 1000000000) (hX2 : X.f1.size ≤ 1000000000) (hr : ¬ R < data.size) (l' : List FileT) (hwith : ∀ w', Kd.C FileK w' (some ⟨g, 0, none⟩) l.length l → Calls Try.prog 50 #[.slice (some ⟨g, 0, none⟩) l.length c, .string name, .agg #[.string X.f0, .string (X.f1 ++ data), .int .i64 X.f2]] w' fun e w'' => ∃ v, e = .returned v ∧ Kd.R FileK 76 w'' w'.heap.size (fun _ => True) v l' ∧ Below w'.heap.size w' w'') :
    Calls Try.prog 29 #[.agg #[.slice (some ⟨g, 0, none⟩) l.length c, .int .i64 cap, .int .i64 cnt, .int .i64 cr, .int .i64 fa, .bool dn], .agg #[.int .i64 kind, .string name, .string data, .int .i64 size]] w fun e w' => ∃ v', e = .returned (.tuple #[.agg #[v', .int .i64 cap, .int .i64 cnt, .int .i64 cr, .int .i64 fa, .bool dn], .int .i64 0]) ∧ Kd.R FileK 76 w' w.heap.size (fun _ => True) v' l' ∧ Below w.heap.size w w' := by
  have c0 : (kind == 1) = false := beq_eq_false_iff_ne.mpr hk
  have c1 : decide ((i : Int) < 0) = false := decide_eq_false (by omega)
  have hi0 : (0 : Int) ≤ (i : Int) := by omega
  have hiz : (i : Int) < (l.length : Int) := by omega
  have HI := Aside0.mk (And.intro hi hX)
  clear hk hi hX
  have HW := Aside0.mk hwith
  clear hwith
  have c2 : (kind == 2) = true := beq_iff_eq.mpr k2
  clear k2
  have HBY := Aside0.mk hbytes
  have hwr : wrap64 (cap - n) = (R : Int) := by rw [hR]; unfold wrap64; omega
  have HWR := Aside0.mk hwr
  have r2 : (0 : Int) ≤ (R : Int) := by omega
  have r3 : (0 : Int) ≤ (data.size : Int) := by omega
  have r9 : ¬ (R : Int) < (data.size : Int) := by omega
  have r1 : decide ((R : Int) < (data.size : Int)) = false := decide_eq_false (by omega)
  have r4 : (9223372036854775807 < X.f1.size + data.size) = False := eq_false (by omega)
  clear hbytes hwr hR hR2 hd2 hX2 hr
  have HR := Aside0.mk hr
  have HFI := Aside0.mk hfind
  clear hr hfind
  go_enter Try.func29, Try.ntmps29
  go_upto_region 12 with (first | ((with_reducible refine gds (N := 2) rfl ?_); refine qbx 2 #[.slice (some ⟨g, 0, none⟩) l.length c, .int .i64 cap, .int .i64 cnt, .int .i64 cr, .int .i64 fa, .bool dn] 31 ?_; intro gb hg w1 hbox hb; have HB := Aside0.mk hb; have HX := Aside0.mk hbox; have HGB := Aside0.mk (Nat.le_of_eq hg.symm); clear hb hbox hg) | ((with_reducible refine gds (N := 3) rfl ?_); refine qbx 3 #[.int .i64 kind, .string name, .string data, .int .i64 size] 35 ?_; intro go_ hg w2 hbox hb; have HX2 := Aside0.mk (bbe HX.out hb); have HO2 := Aside0.mk hbox; have HB2 := Aside0.mk (bst HB.out hb); clear hb hbox hg) | ((with_reducible refine gds (N := 4) rfl ?_); refine qbx 4 #[.slice none 0 0, .int .i64 0, .int .i64 0, .int .i64 0, .int .i64 0, .bool false] 31 ?_; intro gr hg w3 hbox hb; have HX3 := Aside0.mk (bbe HX2.out hb); have HO3 := Aside0.mk (bbe HO2.out hb); have HY3 := Aside0.mk hbox; have HB3 := Aside0.mk (bst HB2.out hb); have HG3 := Aside0.mk (And.intro (Nat.le_trans HB2.out.size (Nat.le_of_eq hg.symm)) (Nat.ne_of_gt (hg ▸ blt HX2.out : gb < gr))); have hz3 := qz4 HO3.out; clear hb hbox hg) | ((with_reducible refine gds (N := 11) rfl ?_); refine wpList_load_row rfl 31 (.tmp 2) rfl gb ?hp 31 #[.slice (some ⟨g, 0, none⟩) l.length c, .int .i64 cap, .int .i64 cnt, .int .i64 cr, .int .i64 fa, .bool dn] (0, 0) _ ?hg Try.underlying31 ?ha ?hi ?_; (case hp => rfl); (case hg => exact HX3.out); (case ha => rfl); (case hi => exact infoFs)) | (go_at_call 49; (with_reducible refine (HFI.out _ (Kd.Cbe HR.out HB3.out)).mono ?_); rintro e w4 ⟨rfl, hb⟩; have HX4 := Aside0.mk (bbe HX3.out hb); have HO4 := Aside0.mk (bbe HO3.out hb); have HY4 := Aside0.mk (bbe HY3.out hb); have HB4 := Aside0.mk (bst HB3.out hb); have hz4 := qz4 HO4.out; have hx4 := qz6 HX4.out; clear hb hz3; obtain ⟨e40, e41, e42⟩ := C_cells (Kd.Cbe HR.out HB4.out) i HI.out.1 X HI.out.2) | ((with_reducible refine gds (N := 7) rfl ?_); refine qbx 7 #[.string (⟨#[]⟩ : ByteArray), .string (⟨#[]⟩ : ByteArray), .int .i64 0] 76 ?_; intro g7 hg w5 hbox hb; have HX5 := Aside0.mk (bbe HX4.out hb); have HO5 := Aside0.mk (bbe HO4.out hb); have HY5 := Aside0.mk (bbe HY4.out hb); have HB5 := Aside0.mk (bst HB4.out hb); have HF5 := Aside0.mk hbox; have HG7 := Aside0.mk (show w.heap.size ≤ g7 ∧ gb ≠ g7 ∧ go_ ≠ g7 ∧ gr ≠ g7 from ⟨Nat.le_trans HB4.out.size (Nat.le_of_eq hg.symm), Nat.ne_of_lt (hg ▸ blt HX4.out), Nat.ne_of_lt (hg ▸ blt HO4.out), Nat.ne_of_lt (hg ▸ blt HY4.out)⟩); have hz7 := qz3 hbox; clear hb hbox hg hz4 hx4))
  have HX6 := Aside0.mk (bfa (bfa (bfa HX5.out HG7.out.2.1 (p := ⟨g7, 0, none⟩) (.string X.f0)) HG7.out.2.1 (p := ⟨g7, 1, none⟩) (.string X.f1)) HG7.out.2.1 (p := ⟨g7, 2, none⟩) (.int .i64 X.f2))
  have HO6 := Aside0.mk (bfa (bfa (bfa HO5.out HG7.out.2.2.1 (p := ⟨g7, 0, none⟩) (.string X.f0)) HG7.out.2.2.1 (p := ⟨g7, 1, none⟩) (.string X.f1)) HG7.out.2.2.1 (p := ⟨g7, 2, none⟩) (.int .i64 X.f2))
  have HY6 := Aside0.mk (bfa (bfa (bfa HY5.out HG7.out.2.2.2 (p := ⟨g7, 0, none⟩) (.string X.f0)) HG7.out.2.2.2 (p := ⟨g7, 1, none⟩) (.string X.f1)) HG7.out.2.2.2 (p := ⟨g7, 2, none⟩) (.int .i64 X.f2))
  have HF6 := Aside0.mk (bpu (cs' := #[.string X.f0, .string X.f1, .int .i64 X.f2]) (bpu (cs' := #[.string X.f0, .string X.f1, .int .i64 0]) (bpu (cs' := #[.string X.f0, .string (⟨#[]⟩ : ByteArray), .int .i64 0]) HF5.out 0 (.string X.f0) rfl) 1 (.string X.f1) rfl) 2 (.int .i64 X.f2) rfl)
  have HB6 := Aside0.mk (bse (bse (bse HB5.out HG7.out.1 (j := 0) (v := .string X.f0)) HG7.out.1 (j := 1) (v := .string X.f1)) HG7.out.1 (j := 2) (v := .int .i64 X.f2))
  generalize ((w5.setCell ⟨g7, 0, none⟩ (.string X.f0)).setCell ⟨g7, 1, none⟩ (.string X.f1)).setCell ⟨g7, 2, none⟩ (.int .i64 X.f2) = w6 at HX6 HO6 HY6 HF6 HB6 ⊢
  clear hz7 HX5 HO5 HY5 HF5 HB5
  have hz6 := qz4 HO6.out
  have hx6 := qz6 HX6.out
  have hf6 := qz3 HF6.out
  go_upto_region 16 with fail
  refine start_ (n := 6) (S := (fun w' =>  w'.cell? ⟨gb, 0, none⟩ = some (.slice (some ⟨g, 0, none⟩) l.length c) ∧ w'.cell? ⟨gb, 1, none⟩ = some (.int .i64 cap) ∧ w'.cell? ⟨gb, 2, none⟩ = some (.int .i64 cnt) ∧ w'.cell? ⟨gb, 3, none⟩ = some (.int .i64 cr) ∧ w'.cell? ⟨gb, 4, none⟩ = some (.int .i64 fa) ∧ w'.cell? ⟨gb, 5, none⟩ = some (.bool dn) )) (ds := []) #[false, false, false, false, false, false] (by kernel_rfl) rfl rfl (qy6 (bkD HX6.out)) (fun hHeld => ?_)
  refine pure_ (i := 0) (N := some 48) (v := ?_) (a' := ?_) #[true, false, false, false, false, false] rfl rfl (by kernel_rfl) (fun _ _ _ h => h) (Or.inl ⟨by rfl, ?_⟩) ?_ ?_
  rotate_left
  · intro w'
    go_simp
    with_reducible rfl
  rotate_left
  · simp only [Act.put, List.setIfInBounds_toArray, List.set_cons_zero, List.set_cons_succ, i64_w, i32_w]
    rfl
  refine take_ (i := 1) (N := some 49) (v := ?_) (a' := ?_) #[true, true, false, false, false, false] rfl rfl (by kernel_rfl) (fun _ _ _ h => h) (Or.inl ⟨by rfl, ?_⟩) hHeld ?_ ?_
  rotate_left
  · rintro w' ⟨s0, s1, s2, s3, s4, s5⟩
    go_simp
    with_reducible rfl
  rotate_left
  · simp only [Act.put, List.setIfInBounds_toArray, List.set_cons_zero, List.set_cons_succ, i64_w, i32_w]
    rfl
  refine take_ (i := 2) (N := some 50) (v := ?_) (a' := ?_) #[true, true, true, false, false, false] rfl rfl (by kernel_rfl) (fun _ _ _ h => h) (Or.inl ⟨by rfl, ?_⟩) hHeld ?_ ?_
  rotate_left
  · rintro w' ⟨s0, s1, s2, s3, s4, s5⟩
    go_simp
    with_reducible rfl
  rotate_left
  · simp only [Act.put, List.setIfInBounds_toArray, List.set_cons_zero, List.set_cons_succ, i64_w, i32_w]
    rfl
  refine one_ (i := 3) (N := some 51) #[true, true, true, true, false, false] rfl rfl (by kernel_rfl) (by decide) (fun K hK => ?_)
  refine goes_ Try.func47 (by kernel_rfl) rfl #[.agg #[.slice (some ⟨g, 0, none⟩) l.length c, .int .i64 cap, .int .i64 cnt, .int .i64 cr, .int .i64 fa, .bool dn]] (by rfl) rfl rfl qA ?_
  (with_reducible refine (HBY.out _ (Kd.Cbe HR.out (bd1 HB6.out))).mono ?_)
  rintro e w10 ⟨rfl, hb⟩
  refine ⟨_, rfl, ?_⟩
  have HX10 := Aside0.mk (bbe (bkD HX6.out) hb)
  have HO10 := Aside0.mk (bbe (bkD HO6.out) hb)
  have HY10 := Aside0.mk (bbe (bkD HY6.out) hb)
  have HF10 := Aside0.mk (bbe (bkD HF6.out) hb)
  have HB10 := Aside0.mk (bst (bd1 HB6.out) hb)
  clear hb hz6 hx6 hf6
  refine hK.out _ _ (qy6 HX10.out) (fun hHeld => ?_)
  clear hK K
  refine norm_ (a' := ?_) ?_ ?_
  rotate_left
  · show Act.put _ (some 51) _ = _
    simp only [Act.put, List.setIfInBounds_toArray, List.set_cons_zero, List.set_cons_succ, i64_w, i32_w]
    rfl
  refine pure_ (i := 4) (N := some 52) (v := ?_) (a' := ?_) #[true, true, true, true, true, false] rfl rfl (by kernel_rfl) (fun _ _ _ h => h) (Or.inl ⟨by rfl, ?_⟩) ?_ ?_
  rotate_left
  · intro w'
    go_simp
    with_reducible rfl
  rotate_left
  · simp only [Act.put, List.setIfInBounds_toArray, List.set_cons_zero, List.set_cons_succ, i64_w, i32_w]
    rfl
  refine pure_ (i := 5) (N := some 10) (v := ?_) (a' := ?_) #[true, true, true, true, true, true] rfl rfl (by kernel_rfl) (fun _ _ _ h => h) (Or.inl ⟨by rfl, ?_⟩) ?_ ?_
  rotate_left
  · intro w'
    go_simp
    with_reducible rfl
  rotate_left
  · simp only [Act.put, List.setIfInBounds_toArray, List.set_cons_zero, List.set_cons_succ, i64_w, i32_w]
    rfl
  refine done_ (by kernel_rfl) ?_
  simp only [HWR.out]
  have hz10 := qz4 HO10.out
  have hx10 := qz6 HX10.out
  have hf10 := qz3 HF10.out
  clear hHeld
  go_upto_region 31 with fail
  clear hz10 hx10 hf10
  have HX7 := Aside0.mk (bfa HX10.out HG7.out.2.1 (p := ⟨g7, 1, none⟩) (.string (X.f1 ++ data)))
  have HO7 := Aside0.mk (bfa HO10.out HG7.out.2.2.1 (p := ⟨g7, 1, none⟩) (.string (X.f1 ++ data)))
  have HY7 := Aside0.mk (bfa HY10.out HG7.out.2.2.2 (p := ⟨g7, 1, none⟩) (.string (X.f1 ++ data)))
  have HF7 := Aside0.mk (bpu (cs' := #[.string X.f0, .string (X.f1 ++ data), .int .i64 X.f2]) HF10.out 1 (.string (X.f1 ++ data)) rfl)
  have HB7 := Aside0.mk (bse HB10.out HG7.out.1 (j := 1) (v := .string (X.f1 ++ data)))
  generalize (w10).setCell ⟨g7, 1, none⟩ (.string (X.f1 ++ data)) = w7 at HX7 HO7 HY7 HF7 HB7 ⊢
  have hz9 := qz4 HO7.out
  have hx9 := qz6 HX7.out
  go_wp2_with (first | ((with_reducible refine gds (N := 105) rfl ?_); refine wpList_load_row rfl 76 (.tmp 7) rfl g7 ?hp 76 #[.string X.f0, .string (X.f1 ++ data), .int .i64 X.f2] (0, 0) _ ?hg Try.underlying76 ?ha ?hi ?_; (case hp => rfl); (case hg => exact HF7.out); (case ha => rfl); (case hi => exact infoFile)) | (go_at_call 50; (with_reducible refine (HW.out _ (Kd.Cbe HR.out HB7.out)).mono ?_); rintro e w8 ⟨v', rfl, ho, hb⟩; obtain ⟨A2, c2, rfl⟩ := Kd.R_slice ho; have HX8 := Aside0.mk (bbe HX7.out hb); have HY8 := Aside0.mk (bbe HY7.out hb); have HB8 := Aside0.mk (bst HB7.out hb); have HV8 := Aside0.mk (Kd.Rlo ho HB7.out.size); have hx8 := qz6 HX8.out; clear ho hb) | ((with_reducible refine gds (N := 108) rfl ?_); refine wpList_load_row rfl 31 (.tmp 2) rfl gb ?hp 31 #[.slice A2 l'.length c2, .int .i64 cap, .int .i64 cnt, .int .i64 cr, .int .i64 fa, .bool dn] (0, 0) _ ?hg Try.underlying31 ?ha ?hi ?_; (case hp => rfl); (case hg => exact (bpu HX8.out 0 _ rfl)); (case ha => rfl); (case hi => exact infoFs)) | ((with_reducible refine gst (t := 31) (p := 4) rfl ?_); refine wpList_store_row rfl 31 (.tmp 4) (.tmp 108) rfl gr #[.slice A2 l'.length c2, .int .i64 cap, .int .i64 cnt, .int .i64 cr, .int .i64 fa, .bool dn] ?hx ?hy 31 #[.slice none 0 0, .int .i64 0, .int .i64 0, .int .i64 0, .int .i64 0, .bool false] ?hg ?hi ?ho ?h1 ?_; (case hx => rfl); (case hy => rfl); (case hg => exact (bfa HY8.out HG3.out.2 _)); (case hi => exact infoFs); (case ho => rfl); (case h1 => simp [Value.oneCell'])))
  refine bodyPost_ret (results_ct rfl _ _ gr 31 #[.slice A2 l'.length c2, .int .i64 cap, .int .i64 cnt, .int .i64 cr, .int .i64 fa, .bool dn] (0, 0) _ rfl (heap_setRow_sameF (bfa HY8.out HG3.out.2 _)) Try.underlying31 rfl infoFs) rfl ⟨_, rfl, ?_, ?_⟩
  · exact fin_row HV8.out HX8.out HY8.out HG3.out.2 _
  · exact below_setRowF (bse HB8.out HGB.out) HG3.out.1 _
end Go.Proofs.Ytoebfjfhdodakaa.L
end
section
set_option linter.unusedVariables false
set_option linter.unusedSimpArgs false
namespace Go.Proofs.Ytoebfjfhdodakaa.L
open Go Go.RowKit Go.Proofs Go.Proofs.Ytoebfjfhdodakaa Go.Proofs.YtoebfjfhdodakaaW.PrintWords Go.Proofs.YtoebfjfhdodakaaW.PrintLast Go.Proofs.YtoebfjfhdodakaaW.PrintMore
theorem blk_setRow {w : World} {g g' : Nat} {o : Obj} (h : w.heap[g']? = some o) (hne : g' ≠ g) (cs : Array Value) : (w.setRow g cs).heap[g']? = some o := by
  simp only [World.setRow, Array.getElem?_modify]
  rw [if_neg (fun e => hne e.symm)]
  exact h
theorem row_keep {w : World} {B g : Nat} {v : Value} {l : List FileT} {cs : Array Value} (h : Kd.R FileK 76 w B (fun _ => True) v l) (hX : w.heap[g]? = some (.cells cs 31 (0, 0))) (row : Array Value) :
    Kd.R FileK 76 (w.setRow g row) B (fun _ => True) v l :=
  Kd.Rmo (Kd.R_step (Kd.Rty h hX (by decide)) (fun k hk _ => by simp only [World.setRow, Array.getElem?_modify]; rw [if_neg (fun e => hk.2 e.symm)])) (fun _ _ => trivial)
theorem cell_keep {w : World} {B g : Nat} {v : Value} {l : List FileT} {cs : Array Value} (h : Kd.R FileK 76 w B (fun _ => True) v l) (hX : w.heap[g]? = some (.cells cs 31 (0, 0))) (j : Nat) (u : Value) :
    Kd.R FileK 76 (w.setCell ⟨g, j, none⟩ u) B (fun _ => True) v l :=
  Kd.Rmo (Kd.Rfa (p := ⟨g, j, none⟩) (Kd.Rty h hX (by decide)) (fun k hk => hk.2) u) (fun _ _ => trivial)
set_option maxHeartbeats 8000000 in
set_option maxRecDepth 100000 in
theorem specStep_down (A : Option Addr) (c : Nat) (l : List FileT) (cap cnt cr fa : Int) (dn : Bool) (kind : Int) (name data : ByteArray) (size : Int) (w : World)
    (hr : Kd.C FileK w A l.length l) (hval : ∀ w', Kd.C FileK w' A l.length l → Calls Try.prog 25 #[.agg #[.slice A l.length c, .int .i64 cap, .int .i64 cnt, .int .i64 cr, .int .i64 fa, .bool dn]] w' fun e w'' => e = .returned (.bool true) ∧ Below w'.heap.size w' w'') (hbet : ∀ w', Calls Try.prog 26 #[.int .i64 kind, .int .i64 1, .int .i64 5] w' fun e w'' => e = .returned (.bool true) ∧ Drawn0 w' w'') (hname : ∀ w', Calls Try.prog 27 #[.string name] w' fun e w'' => e = .returned (.bool true) ∧ Drawn0 w' w'') (hcopy : ∀ w', Kd.C FileK w' A l.length l → Calls Try.prog 28 #[.agg #[.slice A l.length c, .int .i64 cap, .int .i64 cnt, .int .i64 cr, .int .i64 fa, .bool dn]] w' fun e w'' => ∃ v, e = .returned (.agg #[v, .int .i64 cap, .int .i64 (cnt), .int .i64 cr, .int .i64 fa, .bool dn]) ∧ Kd.R FileK 76 w'' w'.heap.size (fun _ => True) v l ∧ Below w'.heap.size w' w'')
    (hdn : dn = true) :
    Calls Try.prog 8 #[.agg #[.slice A l.length c, .int .i64 cap, .int .i64 cnt, .int .i64 cr, .int .i64 fa, .bool dn], .agg #[.int .i64 kind, .string name, .string data, .int .i64 size]] w fun e w' => ∃ v0_ : Value, e = .returned (.tuple #[.agg #[v0_, .int .i64 cap, .int .i64 (cnt), .int .i64 cr, .int .i64 fa, .bool dn], .int .i64 11]) ∧ Kd.R FileK 76 w' w.heap.size (fun _ => True) v0_ l ∧ Below w.heap.size w w' := by
  subst hdn
  have HR := Aside0.mk hr
  have HV := Aside0.mk hval
  have HBT := Aside0.mk hbet
  have HN := Aside0.mk hname
  have HCP := Aside0.mk hcopy
  clear hr hval hbet hname hcopy
  go_enter Try.func8, Try.ntmps8
  go_upto_region 4 with (first | ((with_reducible refine gds (N := 2) rfl ?_); refine qbx 2 #[.slice A l.length c, .int .i64 cap, .int .i64 cnt, .int .i64 cr, .int .i64 fa, .bool true] 31 ?_; intro gb hg w1 hbox hb; have HB := Aside0.mk hb; have HX := Aside0.mk hbox; have HGB := Aside0.mk (Nat.le_of_eq hg.symm); clear hb hbox hg) | ((with_reducible refine gds (N := 3) rfl ?_); refine qbx 3 #[.int .i64 kind, .string name, .string data, .int .i64 size] 35 ?_; intro go_ hg w2 hbox hb; have HX2 := Aside0.mk (bbe HX.out hb); have HO2 := Aside0.mk hbox; have HB2 := Aside0.mk (bst HB.out hb); have HGO := Aside0.mk (Nat.ne_of_gt (hg ▸ blt HX.out : gb < go_)); clear hb hbox hg) | ((with_reducible refine gds (N := 4) rfl ?_); refine qbx 4 #[.slice none 0 0, .int .i64 0, .int .i64 0, .int .i64 0, .int .i64 0, .bool false] 31 ?_; intro gr hg w3 hbox hb; have HX3 := Aside0.mk (bbe HX2.out hb); have HO3 := Aside0.mk (bbe HO2.out hb); have HY3 := Aside0.mk hbox; have HB3 := Aside0.mk (bst HB2.out hb); have HG3 := Aside0.mk (And.intro (Nat.le_trans HB2.out.size (Nat.le_of_eq hg.symm)) (Nat.ne_of_gt (hg ▸ blt HX2.out : gb < gr))); clear hb hbox hg) | ((with_reducible refine gds (N := 6) rfl ?_); refine wpList_load_row rfl 31 (.tmp 2) rfl gb ?hp 31 #[.slice A l.length c, .int .i64 cap, .int .i64 cnt, .int .i64 cr, .int .i64 fa, .bool true] (0, 0) _ ?hg Try.underlying31 ?ha ?hi ?_; (case hp => rfl); (case hg => exact HX3.out); (case ha => rfl); (case hi => exact infoFs)) | (go_at_call 25; (with_reducible refine (HV.out _ (Kd.Cbe HR.out HB3.out)).mono ?_); rintro e w4 ⟨rfl, hb⟩; have HX4 := Aside0.mk (bbe HX3.out hb); have HO4 := Aside0.mk (bbe HO3.out hb); have HY4 := Aside0.mk (bbe HY3.out hb); have HB4 := Aside0.mk (bst HB3.out hb); have hz4 := qz4 HO4.out; clear hb) | (go_at_call 26; (with_reducible refine (HBT.out _).mono ?_); rintro e w' ⟨rfl, m1, rfl⟩; have HX5 := Aside0.mk (bdN HX4.out m1); have HO5 := Aside0.mk (bdN HO4.out m1); have HY5 := Aside0.mk (bdN HY4.out m1); have HB5 := Aside0.mk (pbd HB4.out m1); clear hz4; have hz5 := qz4 HO5.out) | (go_at_call 27; (with_reducible refine (HN.out _).mono ?_); rintro e w' ⟨rfl, m2, rfl⟩; have HX6 := Aside0.mk (bdN HX4.out (m1 + m2)); have HO6 := Aside0.mk (bdN HO4.out (m1 + m2)); have HY6 := Aside0.mk (bdN HY4.out (m1 + m2)); have HB6 := Aside0.mk (pbd HB4.out (m1 + m2)); clear hz5) | ((with_reducible refine gds (N := 22) rfl ?_); refine wpList_load_row rfl 31 (.tmp 2) rfl gb ?hp 31 #[.slice A l.length c, .int .i64 cap, .int .i64 cnt, .int .i64 cr, .int .i64 fa, .bool true] (0, 0) _ ?hg Try.underlying31 ?ha ?hi ?_; (case hp => rfl); (case hg => exact HX6.out); (case ha => rfl); (case hi => exact infoFs)) | (go_at_call 28; (with_reducible refine (HCP.out _ (Kd.Cbe HR.out HB6.out)).mono ?_); rintro e w7 ⟨v, rfl, ho, hb⟩; obtain ⟨A2, c2, rfl⟩ := Kd.R_slice ho; have HX7 := Aside0.mk (bbe HX6.out hb); have HO7 := Aside0.mk (bbe HO6.out hb); have HY7 := Aside0.mk (bbe HY6.out hb); have HV7 := Aside0.mk (Kd.Rlo ho HB6.out.size); have HB7 := Aside0.mk (bst HB6.out hb); clear ho hb) | ((with_reducible refine gst (t := 31) (p := 2) rfl ?_); refine wpList_store_row rfl 31 (.tmp 2) (.tmp 23) rfl gb #[.slice A2 l.length c2, .int .i64 cap, .int .i64 (cnt), .int .i64 cr, .int .i64 fa, .bool true] ?hx ?hy 31 #[.slice A l.length c, .int .i64 cap, .int .i64 cnt, .int .i64 cr, .int .i64 fa, .bool true] ?hg ?hi ?ho ?h1 ?_; (case hx => rfl); (case hy => rfl); (case hg => exact HX7.out); (case hi => exact infoFs); (case ho => rfl); (case h1 => simp [Value.oneCell'])))
  have HX8 := Aside0.mk (heap_setRow_sameF (cs' := #[.slice A2 l.length c2, .int .i64 cap, .int .i64 (cnt), .int .i64 cr, .int .i64 fa, .bool true]) HX7.out)
  have HO8 := Aside0.mk (blk_setRow HO7.out HGO.out #[.slice A2 l.length c2, .int .i64 cap, .int .i64 (cnt), .int .i64 cr, .int .i64 fa, .bool true])
  have HY8 := Aside0.mk (blk_setRow HY7.out HG3.out.2 #[.slice A2 l.length c2, .int .i64 cap, .int .i64 (cnt), .int .i64 cr, .int .i64 fa, .bool true])
  have HV8 := Aside0.mk (row_keep HV7.out HX7.out #[.slice A2 l.length c2, .int .i64 cap, .int .i64 (cnt), .int .i64 cr, .int .i64 fa, .bool true])
  have HB8 := Aside0.mk (below_setRowF HB7.out HGB.out #[.slice A2 l.length c2, .int .i64 cap, .int .i64 (cnt), .int .i64 cr, .int .i64 fa, .bool true])
  generalize w7.setRow gb #[.slice A2 l.length c2, .int .i64 cap, .int .i64 (cnt), .int .i64 cr, .int .i64 fa, .bool true] = w8 at HX8 HO8 HY8 HV8 HB8 ⊢
  clear HX7 HO7 HY7 HV7 HB7
  have hx8 := qz6 HX8.out
  go_wp2_with (first | ((with_reducible refine gds (N := 26) rfl ?_); refine wpList_load_row rfl 31 (.tmp 2) rfl gb ?hp 31 #[.slice A2 l.length c2, .int .i64 cap, .int .i64 (cnt), .int .i64 cr, .int .i64 fa, .bool true] (0, 0) _ ?hg Try.underlying31 ?ha ?hi ?_; (case hp => rfl); (case hg => exact HX8.out); (case ha => rfl); (case hi => exact infoFs)) | ((with_reducible refine gst (t := 31) (p := 4) rfl ?_); refine wpList_store_row rfl 31 (.tmp 4) (.tmp 26) rfl gr #[.slice A2 l.length c2, .int .i64 cap, .int .i64 (cnt), .int .i64 cr, .int .i64 fa, .bool true] ?hx ?hy 31 #[.slice none 0 0, .int .i64 0, .int .i64 0, .int .i64 0, .int .i64 0, .bool false] ?hg ?hi ?ho ?h1 ?_; (case hx => rfl); (case hy => rfl); (case hg => exact HY8.out); (case hi => exact infoFs); (case ho => rfl); (case h1 => simp [Value.oneCell'])))
  refine bodyPost_ret (results_ct rfl _ _ gr 31 #[.slice A2 l.length c2, .int .i64 cap, .int .i64 (cnt), .int .i64 cr, .int .i64 fa, .bool true] (0, 0) _ rfl (heap_setRow_sameF HY8.out) Try.underlying31 rfl infoFs) rfl ⟨_, rfl, ?_, ?_⟩
  · exact row_keep HV8.out HY8.out _
  · exact below_setRowF HB8.out HG3.out.1 _
set_option maxHeartbeats 8000000 in
set_option maxRecDepth 100000 in
theorem specStep_stop (A : Option Addr) (c : Nat) (l : List FileT) (cap cnt cr fa : Int) (dn : Bool) (kind : Int) (name data : ByteArray) (size : Int) (w : World)
    (hr : Kd.C FileK w A l.length l) (hval : ∀ w', Kd.C FileK w' A l.length l → Calls Try.prog 25 #[.agg #[.slice A l.length c, .int .i64 cap, .int .i64 cnt, .int .i64 cr, .int .i64 fa, .bool dn]] w' fun e w'' => e = .returned (.bool true) ∧ Below w'.heap.size w' w'') (hbet : ∀ w', Calls Try.prog 26 #[.int .i64 kind, .int .i64 1, .int .i64 5] w' fun e w'' => e = .returned (.bool true) ∧ Drawn0 w' w'') (hname : ∀ w', Calls Try.prog 27 #[.string name] w' fun e w'' => e = .returned (.bool true) ∧ Drawn0 w' w'') (hcopy : ∀ w', Kd.C FileK w' A l.length l → Calls Try.prog 28 #[.agg #[.slice A l.length c, .int .i64 cap, .int .i64 cnt, .int .i64 cr, .int .i64 fa, .bool dn]] w' fun e w'' => ∃ v, e = .returned (.agg #[v, .int .i64 cap, .int .i64 (cnt), .int .i64 cr, .int .i64 fa, .bool dn]) ∧ Kd.R FileK 76 w'' w'.heap.size (fun _ => True) v l ∧ Below w'.heap.size w' w'')
    (hdn : dn = false) (hcnt : cnt = 1000000000000000) :
    Calls Try.prog 8 #[.agg #[.slice A l.length c, .int .i64 cap, .int .i64 cnt, .int .i64 cr, .int .i64 fa, .bool dn], .agg #[.int .i64 kind, .string name, .string data, .int .i64 size]] w fun e w' => ∃ v0_ : Value, e = .returned (.tuple #[.agg #[v0_, .int .i64 cap, .int .i64 (cnt), .int .i64 cr, .int .i64 fa, .bool dn], .int .i64 12]) ∧ Kd.R FileK 76 w' w.heap.size (fun _ => True) v0_ l ∧ Below w.heap.size w w' := by
  subst hdn
  have k1 : (cnt == 1000000000000000) = true := beq_iff_eq.mpr hcnt
  clear hcnt
  have HR := Aside0.mk hr
  have HV := Aside0.mk hval
  have HBT := Aside0.mk hbet
  have HN := Aside0.mk hname
  have HCP := Aside0.mk hcopy
  clear hr hval hbet hname hcopy
  go_enter Try.func8, Try.ntmps8
  go_upto_region 4 with (first | ((with_reducible refine gds (N := 2) rfl ?_); refine qbx 2 #[.slice A l.length c, .int .i64 cap, .int .i64 cnt, .int .i64 cr, .int .i64 fa, .bool false] 31 ?_; intro gb hg w1 hbox hb; have HB := Aside0.mk hb; have HX := Aside0.mk hbox; have HGB := Aside0.mk (Nat.le_of_eq hg.symm); clear hb hbox hg) | ((with_reducible refine gds (N := 3) rfl ?_); refine qbx 3 #[.int .i64 kind, .string name, .string data, .int .i64 size] 35 ?_; intro go_ hg w2 hbox hb; have HX2 := Aside0.mk (bbe HX.out hb); have HO2 := Aside0.mk hbox; have HB2 := Aside0.mk (bst HB.out hb); have HGO := Aside0.mk (Nat.ne_of_gt (hg ▸ blt HX.out : gb < go_)); clear hb hbox hg) | ((with_reducible refine gds (N := 4) rfl ?_); refine qbx 4 #[.slice none 0 0, .int .i64 0, .int .i64 0, .int .i64 0, .int .i64 0, .bool false] 31 ?_; intro gr hg w3 hbox hb; have HX3 := Aside0.mk (bbe HX2.out hb); have HO3 := Aside0.mk (bbe HO2.out hb); have HY3 := Aside0.mk hbox; have HB3 := Aside0.mk (bst HB2.out hb); have HG3 := Aside0.mk (And.intro (Nat.le_trans HB2.out.size (Nat.le_of_eq hg.symm)) (Nat.ne_of_gt (hg ▸ blt HX2.out : gb < gr))); clear hb hbox hg) | ((with_reducible refine gds (N := 6) rfl ?_); refine wpList_load_row rfl 31 (.tmp 2) rfl gb ?hp 31 #[.slice A l.length c, .int .i64 cap, .int .i64 cnt, .int .i64 cr, .int .i64 fa, .bool false] (0, 0) _ ?hg Try.underlying31 ?ha ?hi ?_; (case hp => rfl); (case hg => exact HX3.out); (case ha => rfl); (case hi => exact infoFs)) | (go_at_call 25; (with_reducible refine (HV.out _ (Kd.Cbe HR.out HB3.out)).mono ?_); rintro e w4 ⟨rfl, hb⟩; have HX4 := Aside0.mk (bbe HX3.out hb); have HO4 := Aside0.mk (bbe HO3.out hb); have HY4 := Aside0.mk (bbe HY3.out hb); have HB4 := Aside0.mk (bst HB3.out hb); have hz4 := qz4 HO4.out; clear hb) | (go_at_call 26; (with_reducible refine (HBT.out _).mono ?_); rintro e w' ⟨rfl, m1, rfl⟩; have HX5 := Aside0.mk (bdN HX4.out m1); have HO5 := Aside0.mk (bdN HO4.out m1); have HY5 := Aside0.mk (bdN HY4.out m1); have HB5 := Aside0.mk (pbd HB4.out m1); clear hz4; have hz5 := qz4 HO5.out) | (go_at_call 27; (with_reducible refine (HN.out _).mono ?_); rintro e w' ⟨rfl, m2, rfl⟩; have HX6 := Aside0.mk (bdN HX4.out (m1 + m2)); have HO6 := Aside0.mk (bdN HO4.out (m1 + m2)); have HY6 := Aside0.mk (bdN HY4.out (m1 + m2)); have HB6 := Aside0.mk (pbd HB4.out (m1 + m2)); clear hz5) | ((with_reducible refine gds (N := 22) rfl ?_); refine wpList_load_row rfl 31 (.tmp 2) rfl gb ?hp 31 #[.slice A l.length c, .int .i64 cap, .int .i64 cnt, .int .i64 cr, .int .i64 fa, .bool false] (0, 0) _ ?hg Try.underlying31 ?ha ?hi ?_; (case hp => rfl); (case hg => exact HX6.out); (case ha => rfl); (case hi => exact infoFs)) | (go_at_call 28; (with_reducible refine (HCP.out _ (Kd.Cbe HR.out HB6.out)).mono ?_); rintro e w7 ⟨v, rfl, ho, hb⟩; obtain ⟨A2, c2, rfl⟩ := Kd.R_slice ho; have HX7 := Aside0.mk (bbe HX6.out hb); have HO7 := Aside0.mk (bbe HO6.out hb); have HY7 := Aside0.mk (bbe HY6.out hb); have HV7 := Aside0.mk (Kd.Rlo ho HB6.out.size); have HB7 := Aside0.mk (bst HB6.out hb); clear ho hb) | ((with_reducible refine gst (t := 31) (p := 2) rfl ?_); refine wpList_store_row rfl 31 (.tmp 2) (.tmp 23) rfl gb #[.slice A2 l.length c2, .int .i64 cap, .int .i64 (cnt), .int .i64 cr, .int .i64 fa, .bool false] ?hx ?hy 31 #[.slice A l.length c, .int .i64 cap, .int .i64 cnt, .int .i64 cr, .int .i64 fa, .bool false] ?hg ?hi ?ho ?h1 ?_; (case hx => rfl); (case hy => rfl); (case hg => exact HX7.out); (case hi => exact infoFs); (case ho => rfl); (case h1 => simp [Value.oneCell'])))
  have HX8 := Aside0.mk (heap_setRow_sameF (cs' := #[.slice A2 l.length c2, .int .i64 cap, .int .i64 (cnt), .int .i64 cr, .int .i64 fa, .bool false]) HX7.out)
  have HO8 := Aside0.mk (blk_setRow HO7.out HGO.out #[.slice A2 l.length c2, .int .i64 cap, .int .i64 (cnt), .int .i64 cr, .int .i64 fa, .bool false])
  have HY8 := Aside0.mk (blk_setRow HY7.out HG3.out.2 #[.slice A2 l.length c2, .int .i64 cap, .int .i64 (cnt), .int .i64 cr, .int .i64 fa, .bool false])
  have HV8 := Aside0.mk (row_keep HV7.out HX7.out #[.slice A2 l.length c2, .int .i64 cap, .int .i64 (cnt), .int .i64 cr, .int .i64 fa, .bool false])
  have HB8 := Aside0.mk (below_setRowF HB7.out HGB.out #[.slice A2 l.length c2, .int .i64 cap, .int .i64 (cnt), .int .i64 cr, .int .i64 fa, .bool false])
  generalize w7.setRow gb #[.slice A2 l.length c2, .int .i64 cap, .int .i64 (cnt), .int .i64 cr, .int .i64 fa, .bool false] = w8 at HX8 HO8 HY8 HV8 HB8 ⊢
  clear HX7 HO7 HY7 HV7 HB7
  have hx8 := qz6 HX8.out
  go_wp2_with (first | ((with_reducible refine gds (N := 30) rfl ?_); refine wpList_load_row rfl 31 (.tmp 2) rfl gb ?hp 31 #[.slice A2 l.length c2, .int .i64 cap, .int .i64 (cnt), .int .i64 cr, .int .i64 fa, .bool false] (0, 0) _ ?hg Try.underlying31 ?ha ?hi ?_; (case hp => rfl); (case hg => exact HX8.out); (case ha => rfl); (case hi => exact infoFs)) | ((with_reducible refine gst (t := 31) (p := 4) rfl ?_); refine wpList_store_row rfl 31 (.tmp 4) (.tmp 30) rfl gr #[.slice A2 l.length c2, .int .i64 cap, .int .i64 (cnt), .int .i64 cr, .int .i64 fa, .bool false] ?hx ?hy 31 #[.slice none 0 0, .int .i64 0, .int .i64 0, .int .i64 0, .int .i64 0, .bool false] ?hg ?hi ?ho ?h1 ?_; (case hx => rfl); (case hy => rfl); (case hg => exact HY8.out); (case hi => exact infoFs); (case ho => rfl); (case h1 => simp [Value.oneCell'])))
  refine bodyPost_ret (results_ct rfl _ _ gr 31 #[.slice A2 l.length c2, .int .i64 cap, .int .i64 (cnt), .int .i64 cr, .int .i64 fa, .bool false] (0, 0) _ rfl (heap_setRow_sameF HY8.out) Try.underlying31 rfl infoFs) rfl ⟨_, rfl, ?_, ?_⟩
  · exact row_keep HV8.out HY8.out _
  · exact below_setRowF HB8.out HG3.out.1 _
set_option maxHeartbeats 8000000 in
set_option maxRecDepth 100000 in
theorem specStep_crash (A : Option Addr) (c : Nat) (l : List FileT) (cap cnt cr fa : Int) (dn : Bool) (kind : Int) (name data : ByteArray) (size : Int) (w : World)
    (hr : Kd.C FileK w A l.length l) (hval : ∀ w', Kd.C FileK w' A l.length l → Calls Try.prog 25 #[.agg #[.slice A l.length c, .int .i64 cap, .int .i64 cnt, .int .i64 cr, .int .i64 fa, .bool dn]] w' fun e w'' => e = .returned (.bool true) ∧ Below w'.heap.size w' w'') (hbet : ∀ w', Calls Try.prog 26 #[.int .i64 kind, .int .i64 1, .int .i64 5] w' fun e w'' => e = .returned (.bool true) ∧ Drawn0 w' w'') (hname : ∀ w', Calls Try.prog 27 #[.string name] w' fun e w'' => e = .returned (.bool true) ∧ Drawn0 w' w'') (hcopy : ∀ w', Kd.C FileK w' A l.length l → Calls Try.prog 28 #[.agg #[.slice A l.length c, .int .i64 cap, .int .i64 cnt, .int .i64 cr, .int .i64 fa, .bool dn]] w' fun e w'' => ∃ v, e = .returned (.agg #[v, .int .i64 cap, .int .i64 (cnt), .int .i64 cr, .int .i64 fa, .bool dn]) ∧ Kd.R FileK 76 w'' w'.heap.size (fun _ => True) v l ∧ Below w'.heap.size w' w'')
    (hdn : dn = false) (hc : 0 ≤ cnt ∧ cnt ≤ 1000000000000000) (hne : cnt ≠ 1000000000000000) (h1 : cr ≠ 0 ∧ cnt + 1 = cr) :
    Calls Try.prog 8 #[.agg #[.slice A l.length c, .int .i64 cap, .int .i64 cnt, .int .i64 cr, .int .i64 fa, .bool dn], .agg #[.int .i64 kind, .string name, .string data, .int .i64 size]] w fun e w' => ∃ v0_ : Value, e = .returned (.tuple #[.agg #[v0_, .int .i64 cap, .int .i64 (cnt + 1), .int .i64 cr, .int .i64 fa, .bool true], .int .i64 11]) ∧ Kd.R FileK 76 w' w.heap.size (fun _ => True) v0_ l ∧ Below w.heap.size w w' := by
  subst hdn
  have k1 : (cnt == 1000000000000000) = false := beq_eq_false_iff_ne.mpr hne
  have HC := Aside0.mk hc
  clear hne hc
  have k2 : (cr != 0) = true := bne_iff_ne.mpr h1.1
  have k3 : (cnt + 1 == cr) = true := beq_iff_eq.mpr h1.2
  clear h1
  have HR := Aside0.mk hr
  have HV := Aside0.mk hval
  have HBT := Aside0.mk hbet
  have HN := Aside0.mk hname
  have HCP := Aside0.mk hcopy
  clear hr hval hbet hname hcopy
  go_enter Try.func8, Try.ntmps8
  go_upto_region 4 with (first | ((with_reducible refine gds (N := 2) rfl ?_); refine qbx 2 #[.slice A l.length c, .int .i64 cap, .int .i64 cnt, .int .i64 cr, .int .i64 fa, .bool false] 31 ?_; intro gb hg w1 hbox hb; have HB := Aside0.mk hb; have HX := Aside0.mk hbox; have HGB := Aside0.mk (Nat.le_of_eq hg.symm); clear hb hbox hg) | ((with_reducible refine gds (N := 3) rfl ?_); refine qbx 3 #[.int .i64 kind, .string name, .string data, .int .i64 size] 35 ?_; intro go_ hg w2 hbox hb; have HX2 := Aside0.mk (bbe HX.out hb); have HO2 := Aside0.mk hbox; have HB2 := Aside0.mk (bst HB.out hb); have HGO := Aside0.mk (Nat.ne_of_gt (hg ▸ blt HX.out : gb < go_)); clear hb hbox hg) | ((with_reducible refine gds (N := 4) rfl ?_); refine qbx 4 #[.slice none 0 0, .int .i64 0, .int .i64 0, .int .i64 0, .int .i64 0, .bool false] 31 ?_; intro gr hg w3 hbox hb; have HX3 := Aside0.mk (bbe HX2.out hb); have HO3 := Aside0.mk (bbe HO2.out hb); have HY3 := Aside0.mk hbox; have HB3 := Aside0.mk (bst HB2.out hb); have HG3 := Aside0.mk (And.intro (Nat.le_trans HB2.out.size (Nat.le_of_eq hg.symm)) (Nat.ne_of_gt (hg ▸ blt HX2.out : gb < gr))); clear hb hbox hg) | ((with_reducible refine gds (N := 6) rfl ?_); refine wpList_load_row rfl 31 (.tmp 2) rfl gb ?hp 31 #[.slice A l.length c, .int .i64 cap, .int .i64 cnt, .int .i64 cr, .int .i64 fa, .bool false] (0, 0) _ ?hg Try.underlying31 ?ha ?hi ?_; (case hp => rfl); (case hg => exact HX3.out); (case ha => rfl); (case hi => exact infoFs)) | (go_at_call 25; (with_reducible refine (HV.out _ (Kd.Cbe HR.out HB3.out)).mono ?_); rintro e w4 ⟨rfl, hb⟩; have HX4 := Aside0.mk (bbe HX3.out hb); have HO4 := Aside0.mk (bbe HO3.out hb); have HY4 := Aside0.mk (bbe HY3.out hb); have HB4 := Aside0.mk (bst HB3.out hb); have hz4 := qz4 HO4.out; clear hb) | (go_at_call 26; (with_reducible refine (HBT.out _).mono ?_); rintro e w' ⟨rfl, m1, rfl⟩; have HX5 := Aside0.mk (bdN HX4.out m1); have HO5 := Aside0.mk (bdN HO4.out m1); have HY5 := Aside0.mk (bdN HY4.out m1); have HB5 := Aside0.mk (pbd HB4.out m1); clear hz4; have hz5 := qz4 HO5.out) | (go_at_call 27; (with_reducible refine (HN.out _).mono ?_); rintro e w' ⟨rfl, m2, rfl⟩; have HX6 := Aside0.mk (bdN HX4.out (m1 + m2)); have HO6 := Aside0.mk (bdN HO4.out (m1 + m2)); have HY6 := Aside0.mk (bdN HY4.out (m1 + m2)); have HB6 := Aside0.mk (pbd HB4.out (m1 + m2)); clear hz5) | ((with_reducible refine gds (N := 22) rfl ?_); refine wpList_load_row rfl 31 (.tmp 2) rfl gb ?hp 31 #[.slice A l.length c, .int .i64 cap, .int .i64 cnt, .int .i64 cr, .int .i64 fa, .bool false] (0, 0) _ ?hg Try.underlying31 ?ha ?hi ?_; (case hp => rfl); (case hg => exact HX6.out); (case ha => rfl); (case hi => exact infoFs)) | (go_at_call 28; (with_reducible refine (HCP.out _ (Kd.Cbe HR.out HB6.out)).mono ?_); rintro e w7 ⟨v, rfl, ho, hb⟩; obtain ⟨A2, c2, rfl⟩ := Kd.R_slice ho; have HX7 := Aside0.mk (bbe HX6.out hb); have HO7 := Aside0.mk (bbe HO6.out hb); have HY7 := Aside0.mk (bbe HY6.out hb); have HV7 := Aside0.mk (Kd.Rlo ho HB6.out.size); have HB7 := Aside0.mk (bst HB6.out hb); clear ho hb) | ((with_reducible refine gst (t := 31) (p := 2) rfl ?_); refine wpList_store_row rfl 31 (.tmp 2) (.tmp 23) rfl gb #[.slice A2 l.length c2, .int .i64 cap, .int .i64 (cnt), .int .i64 cr, .int .i64 fa, .bool false] ?hx ?hy 31 #[.slice A l.length c, .int .i64 cap, .int .i64 cnt, .int .i64 cr, .int .i64 fa, .bool false] ?hg ?hi ?ho ?h1 ?_; (case hx => rfl); (case hy => rfl); (case hg => exact HX7.out); (case hi => exact infoFs); (case ho => rfl); (case h1 => simp [Value.oneCell'])))
  have HX8 := Aside0.mk (heap_setRow_sameF (cs' := #[.slice A2 l.length c2, .int .i64 cap, .int .i64 (cnt), .int .i64 cr, .int .i64 fa, .bool false]) HX7.out)
  have HO8 := Aside0.mk (blk_setRow HO7.out HGO.out #[.slice A2 l.length c2, .int .i64 cap, .int .i64 (cnt), .int .i64 cr, .int .i64 fa, .bool false])
  have HY8 := Aside0.mk (blk_setRow HY7.out HG3.out.2 #[.slice A2 l.length c2, .int .i64 cap, .int .i64 (cnt), .int .i64 cr, .int .i64 fa, .bool false])
  have HV8 := Aside0.mk (row_keep HV7.out HX7.out #[.slice A2 l.length c2, .int .i64 cap, .int .i64 (cnt), .int .i64 cr, .int .i64 fa, .bool false])
  have HB8 := Aside0.mk (below_setRowF HB7.out HGB.out #[.slice A2 l.length c2, .int .i64 cap, .int .i64 (cnt), .int .i64 cr, .int .i64 fa, .bool false])
  generalize w7.setRow gb #[.slice A2 l.length c2, .int .i64 cap, .int .i64 (cnt), .int .i64 cr, .int .i64 fa, .bool false] = w8 at HX8 HO8 HY8 HV8 HB8 ⊢
  clear HX7 HO7 HY7 HV7 HB7
  have hx8 := qz6 HX8.out
  have hc := HC.out
  have hw : wrap64 (cnt + 1) = cnt + 1 := by unfold wrap64; omega
  go_upto_region 9 with fail
  clear hw hc
  have HX9 := Aside0.mk (bpu (cs' := #[.slice A2 l.length c2, .int .i64 cap, .int .i64 (cnt + 1), .int .i64 cr, .int .i64 fa, .bool false]) HX8.out 2 (.int .i64 (cnt + 1)) rfl)
  have HO9 := Aside0.mk (bfa HO8.out HGO.out (p := ⟨gb, 2, none⟩) (.int .i64 (cnt + 1)))
  have HY9 := Aside0.mk (bfa HY8.out HG3.out.2 (p := ⟨gb, 2, none⟩) (.int .i64 (cnt + 1)))
  have HV9 := Aside0.mk (cell_keep HV8.out HX8.out 2 (.int .i64 (cnt + 1)))
  have HB9 := Aside0.mk (bse HB8.out HGB.out (j := 2) (v := .int .i64 (cnt + 1)))
  generalize w8.setCell ⟨gb, 2, none⟩ (.int .i64 (cnt + 1)) = w9 at HX9 HO9 HY9 HV9 HB9 ⊢
  clear HX8 HO8 HY8 HV8 HB8 hx8
  have hx9 := qz6 HX9.out
  go_upto_region 11 with fail
  have HX10 := Aside0.mk (bpu (cs' := #[.slice A2 l.length c2, .int .i64 cap, .int .i64 (cnt + 1), .int .i64 cr, .int .i64 fa, .bool true]) HX9.out 5 (.bool true) rfl)
  have HY10 := Aside0.mk (bfa HY9.out HG3.out.2 (p := ⟨gb, 5, none⟩) (.bool true))
  have HV10 := Aside0.mk (cell_keep HV9.out HX9.out 5 (.bool true))
  have HB10 := Aside0.mk (bse HB9.out HGB.out (j := 5) (v := .bool true))
  generalize w9.setCell ⟨gb, 5, none⟩ (.bool true) = w10 at HX10 HY10 HV10 HB10 ⊢
  clear hx9
  go_wp2_with (first | ((with_reducible refine gds (N := 46) rfl ?_); refine wpList_load_row rfl 31 (.tmp 2) rfl gb ?hp 31 #[.slice A2 l.length c2, .int .i64 cap, .int .i64 (cnt + 1), .int .i64 cr, .int .i64 fa, .bool true] (0, 0) _ ?hg Try.underlying31 ?ha ?hi ?_; (case hp => rfl); (case hg => exact HX10.out); (case ha => rfl); (case hi => exact infoFs)) | ((with_reducible refine gst (t := 31) (p := 4) rfl ?_); refine wpList_store_row rfl 31 (.tmp 4) (.tmp 46) rfl gr #[.slice A2 l.length c2, .int .i64 cap, .int .i64 (cnt + 1), .int .i64 cr, .int .i64 fa, .bool true] ?hx ?hy 31 #[.slice none 0 0, .int .i64 0, .int .i64 0, .int .i64 0, .int .i64 0, .bool false] ?hg ?hi ?ho ?h1 ?_; (case hx => rfl); (case hy => rfl); (case hg => exact HY10.out); (case hi => exact infoFs); (case ho => rfl); (case h1 => simp [Value.oneCell'])))
  refine bodyPost_ret (results_ct rfl _ _ gr 31 #[.slice A2 l.length c2, .int .i64 cap, .int .i64 (cnt + 1), .int .i64 cr, .int .i64 fa, .bool true] (0, 0) _ rfl (heap_setRow_sameF HY10.out) Try.underlying31 rfl infoFs) rfl ⟨_, rfl, ?_, ?_⟩
  · exact row_keep HV10.out HY10.out _
  · exact below_setRowF HB10.out HG3.out.1 _
set_option maxHeartbeats 8000000 in
set_option maxRecDepth 100000 in
theorem specStep_fail (A : Option Addr) (c : Nat) (l : List FileT) (cap cnt cr fa : Int) (dn : Bool) (kind : Int) (name data : ByteArray) (size : Int) (w : World)
    (hr : Kd.C FileK w A l.length l) (hval : ∀ w', Kd.C FileK w' A l.length l → Calls Try.prog 25 #[.agg #[.slice A l.length c, .int .i64 cap, .int .i64 cnt, .int .i64 cr, .int .i64 fa, .bool dn]] w' fun e w'' => e = .returned (.bool true) ∧ Below w'.heap.size w' w'') (hbet : ∀ w', Calls Try.prog 26 #[.int .i64 kind, .int .i64 1, .int .i64 5] w' fun e w'' => e = .returned (.bool true) ∧ Drawn0 w' w'') (hname : ∀ w', Calls Try.prog 27 #[.string name] w' fun e w'' => e = .returned (.bool true) ∧ Drawn0 w' w'') (hcopy : ∀ w', Kd.C FileK w' A l.length l → Calls Try.prog 28 #[.agg #[.slice A l.length c, .int .i64 cap, .int .i64 cnt, .int .i64 cr, .int .i64 fa, .bool dn]] w' fun e w'' => ∃ v, e = .returned (.agg #[v, .int .i64 cap, .int .i64 (cnt), .int .i64 cr, .int .i64 fa, .bool dn]) ∧ Kd.R FileK 76 w'' w'.heap.size (fun _ => True) v l ∧ Below w'.heap.size w' w'')
    (hdn : dn = false) (hc : 0 ≤ cnt ∧ cnt ≤ 1000000000000000) (hne : cnt ≠ 1000000000000000) (h1 : ¬ (cr ≠ 0 ∧ cnt + 1 = cr)) (h2 : fa ≠ 0 ∧ cnt + 1 = fa) :
    Calls Try.prog 8 #[.agg #[.slice A l.length c, .int .i64 cap, .int .i64 cnt, .int .i64 cr, .int .i64 fa, .bool dn], .agg #[.int .i64 kind, .string name, .string data, .int .i64 size]] w fun e w' => ∃ v0_ : Value, e = .returned (.tuple #[.agg #[v0_, .int .i64 cap, .int .i64 (cnt + 1), .int .i64 cr, .int .i64 fa, .bool false], .int .i64 12]) ∧ Kd.R FileK 76 w' w.heap.size (fun _ => True) v0_ l ∧ Below w.heap.size w w' := by
  subst hdn
  have k1 : (cnt == 1000000000000000) = false := beq_eq_false_iff_ne.mpr hne
  have HC := Aside0.mk hc
  clear hne hc
  have key : (cr != 0) = false ∨ ((cr != 0) = true ∧ (cnt + 1 == cr) = false) := by
    by_cases e : cr = 0
    · exact .inl (bne_eq_false_iff_eq.mpr e)
    · exact .inr ⟨bne_iff_ne.mpr e, beq_eq_false_iff_ne.mpr fun h => h1 ⟨e, h⟩⟩
  clear h1
  have k4 : (fa != 0) = true := bne_iff_ne.mpr h2.1
  have k5 : (cnt + 1 == fa) = true := beq_iff_eq.mpr h2.2
  clear h2
  have HR := Aside0.mk hr
  have HV := Aside0.mk hval
  have HBT := Aside0.mk hbet
  have HN := Aside0.mk hname
  have HCP := Aside0.mk hcopy
  clear hr hval hbet hname hcopy
  go_enter Try.func8, Try.ntmps8
  go_upto_region 4 with (first | ((with_reducible refine gds (N := 2) rfl ?_); refine qbx 2 #[.slice A l.length c, .int .i64 cap, .int .i64 cnt, .int .i64 cr, .int .i64 fa, .bool false] 31 ?_; intro gb hg w1 hbox hb; have HB := Aside0.mk hb; have HX := Aside0.mk hbox; have HGB := Aside0.mk (Nat.le_of_eq hg.symm); clear hb hbox hg) | ((with_reducible refine gds (N := 3) rfl ?_); refine qbx 3 #[.int .i64 kind, .string name, .string data, .int .i64 size] 35 ?_; intro go_ hg w2 hbox hb; have HX2 := Aside0.mk (bbe HX.out hb); have HO2 := Aside0.mk hbox; have HB2 := Aside0.mk (bst HB.out hb); have HGO := Aside0.mk (Nat.ne_of_gt (hg ▸ blt HX.out : gb < go_)); clear hb hbox hg) | ((with_reducible refine gds (N := 4) rfl ?_); refine qbx 4 #[.slice none 0 0, .int .i64 0, .int .i64 0, .int .i64 0, .int .i64 0, .bool false] 31 ?_; intro gr hg w3 hbox hb; have HX3 := Aside0.mk (bbe HX2.out hb); have HO3 := Aside0.mk (bbe HO2.out hb); have HY3 := Aside0.mk hbox; have HB3 := Aside0.mk (bst HB2.out hb); have HG3 := Aside0.mk (And.intro (Nat.le_trans HB2.out.size (Nat.le_of_eq hg.symm)) (Nat.ne_of_gt (hg ▸ blt HX2.out : gb < gr))); clear hb hbox hg) | ((with_reducible refine gds (N := 6) rfl ?_); refine wpList_load_row rfl 31 (.tmp 2) rfl gb ?hp 31 #[.slice A l.length c, .int .i64 cap, .int .i64 cnt, .int .i64 cr, .int .i64 fa, .bool false] (0, 0) _ ?hg Try.underlying31 ?ha ?hi ?_; (case hp => rfl); (case hg => exact HX3.out); (case ha => rfl); (case hi => exact infoFs)) | (go_at_call 25; (with_reducible refine (HV.out _ (Kd.Cbe HR.out HB3.out)).mono ?_); rintro e w4 ⟨rfl, hb⟩; have HX4 := Aside0.mk (bbe HX3.out hb); have HO4 := Aside0.mk (bbe HO3.out hb); have HY4 := Aside0.mk (bbe HY3.out hb); have HB4 := Aside0.mk (bst HB3.out hb); have hz4 := qz4 HO4.out; clear hb) | (go_at_call 26; (with_reducible refine (HBT.out _).mono ?_); rintro e w' ⟨rfl, m1, rfl⟩; have HX5 := Aside0.mk (bdN HX4.out m1); have HO5 := Aside0.mk (bdN HO4.out m1); have HY5 := Aside0.mk (bdN HY4.out m1); have HB5 := Aside0.mk (pbd HB4.out m1); clear hz4; have hz5 := qz4 HO5.out) | (go_at_call 27; (with_reducible refine (HN.out _).mono ?_); rintro e w' ⟨rfl, m2, rfl⟩; have HX6 := Aside0.mk (bdN HX4.out (m1 + m2)); have HO6 := Aside0.mk (bdN HO4.out (m1 + m2)); have HY6 := Aside0.mk (bdN HY4.out (m1 + m2)); have HB6 := Aside0.mk (pbd HB4.out (m1 + m2)); clear hz5) | ((with_reducible refine gds (N := 22) rfl ?_); refine wpList_load_row rfl 31 (.tmp 2) rfl gb ?hp 31 #[.slice A l.length c, .int .i64 cap, .int .i64 cnt, .int .i64 cr, .int .i64 fa, .bool false] (0, 0) _ ?hg Try.underlying31 ?ha ?hi ?_; (case hp => rfl); (case hg => exact HX6.out); (case ha => rfl); (case hi => exact infoFs)) | (go_at_call 28; (with_reducible refine (HCP.out _ (Kd.Cbe HR.out HB6.out)).mono ?_); rintro e w7 ⟨v, rfl, ho, hb⟩; obtain ⟨A2, c2, rfl⟩ := Kd.R_slice ho; have HX7 := Aside0.mk (bbe HX6.out hb); have HO7 := Aside0.mk (bbe HO6.out hb); have HY7 := Aside0.mk (bbe HY6.out hb); have HV7 := Aside0.mk (Kd.Rlo ho HB6.out.size); have HB7 := Aside0.mk (bst HB6.out hb); clear ho hb) | ((with_reducible refine gst (t := 31) (p := 2) rfl ?_); refine wpList_store_row rfl 31 (.tmp 2) (.tmp 23) rfl gb #[.slice A2 l.length c2, .int .i64 cap, .int .i64 (cnt), .int .i64 cr, .int .i64 fa, .bool false] ?hx ?hy 31 #[.slice A l.length c, .int .i64 cap, .int .i64 cnt, .int .i64 cr, .int .i64 fa, .bool false] ?hg ?hi ?ho ?h1 ?_; (case hx => rfl); (case hy => rfl); (case hg => exact HX7.out); (case hi => exact infoFs); (case ho => rfl); (case h1 => simp [Value.oneCell'])))
  have HX8 := Aside0.mk (heap_setRow_sameF (cs' := #[.slice A2 l.length c2, .int .i64 cap, .int .i64 (cnt), .int .i64 cr, .int .i64 fa, .bool false]) HX7.out)
  have HO8 := Aside0.mk (blk_setRow HO7.out HGO.out #[.slice A2 l.length c2, .int .i64 cap, .int .i64 (cnt), .int .i64 cr, .int .i64 fa, .bool false])
  have HY8 := Aside0.mk (blk_setRow HY7.out HG3.out.2 #[.slice A2 l.length c2, .int .i64 cap, .int .i64 (cnt), .int .i64 cr, .int .i64 fa, .bool false])
  have HV8 := Aside0.mk (row_keep HV7.out HX7.out #[.slice A2 l.length c2, .int .i64 cap, .int .i64 (cnt), .int .i64 cr, .int .i64 fa, .bool false])
  have HB8 := Aside0.mk (below_setRowF HB7.out HGB.out #[.slice A2 l.length c2, .int .i64 cap, .int .i64 (cnt), .int .i64 cr, .int .i64 fa, .bool false])
  generalize w7.setRow gb #[.slice A2 l.length c2, .int .i64 cap, .int .i64 (cnt), .int .i64 cr, .int .i64 fa, .bool false] = w8 at HX8 HO8 HY8 HV8 HB8 ⊢
  clear HX7 HO7 HY7 HV7 HB7
  have hx8 := qz6 HX8.out
  have hc := HC.out
  have hw : wrap64 (cnt + 1) = cnt + 1 := by unfold wrap64; omega
  go_upto_region 9 with fail
  clear hw hc
  have HX9 := Aside0.mk (bpu (cs' := #[.slice A2 l.length c2, .int .i64 cap, .int .i64 (cnt + 1), .int .i64 cr, .int .i64 fa, .bool false]) HX8.out 2 (.int .i64 (cnt + 1)) rfl)
  have HO9 := Aside0.mk (bfa HO8.out HGO.out (p := ⟨gb, 2, none⟩) (.int .i64 (cnt + 1)))
  have HY9 := Aside0.mk (bfa HY8.out HG3.out.2 (p := ⟨gb, 2, none⟩) (.int .i64 (cnt + 1)))
  have HV9 := Aside0.mk (cell_keep HV8.out HX8.out 2 (.int .i64 (cnt + 1)))
  have HB9 := Aside0.mk (bse HB8.out HGB.out (j := 2) (v := .int .i64 (cnt + 1)))
  generalize w8.setCell ⟨gb, 2, none⟩ (.int .i64 (cnt + 1)) = w9 at HX9 HO9 HY9 HV9 HB9 ⊢
  clear HX8 HO8 HY8 HV8 HB8 hx8
  have hx9 := qz6 HX9.out
  rcases key with k2 | ⟨k2, k3⟩
  all_goals
    go_wp2_with (first | ((with_reducible refine gds (N := 57) rfl ?_); refine wpList_load_row rfl 31 (.tmp 2) rfl gb ?hp 31 #[.slice A2 l.length c2, .int .i64 cap, .int .i64 (cnt + 1), .int .i64 cr, .int .i64 fa, .bool false] (0, 0) _ ?hg Try.underlying31 ?ha ?hi ?_; (case hp => rfl); (case hg => exact HX9.out); (case ha => rfl); (case hi => exact infoFs)) | ((with_reducible refine gst (t := 31) (p := 4) rfl ?_); refine wpList_store_row rfl 31 (.tmp 4) (.tmp 57) rfl gr #[.slice A2 l.length c2, .int .i64 cap, .int .i64 (cnt + 1), .int .i64 cr, .int .i64 fa, .bool false] ?hx ?hy 31 #[.slice none 0 0, .int .i64 0, .int .i64 0, .int .i64 0, .int .i64 0, .bool false] ?hg ?hi ?ho ?h1 ?_; (case hx => rfl); (case hy => rfl); (case hg => exact HY9.out); (case hi => exact infoFs); (case ho => rfl); (case h1 => simp [Value.oneCell'])))
    refine bodyPost_ret (results_ct rfl _ _ gr 31 #[.slice A2 l.length c2, .int .i64 cap, .int .i64 (cnt + 1), .int .i64 cr, .int .i64 fa, .bool false] (0, 0) _ rfl (heap_setRow_sameF HY9.out) Try.underlying31 rfl infoFs) rfl ⟨_, rfl, ?_, ?_⟩
    · exact row_keep HV9.out HY9.out _
    · exact below_setRowF HB9.out HG3.out.1 _
set_option maxHeartbeats 8000000 in
set_option maxRecDepth 100000 in
theorem specStep_do (A : Option Addr) (c : Nat) (l : List FileT) (cap cnt cr fa : Int) (dn : Bool) (kind : Int) (name data : ByteArray) (size : Int) (w : World)
    (hr : Kd.C FileK w A l.length l) (hval : ∀ w', Kd.C FileK w' A l.length l → Calls Try.prog 25 #[.agg #[.slice A l.length c, .int .i64 cap, .int .i64 cnt, .int .i64 cr, .int .i64 fa, .bool dn]] w' fun e w'' => e = .returned (.bool true) ∧ Below w'.heap.size w' w'') (hbet : ∀ w', Calls Try.prog 26 #[.int .i64 kind, .int .i64 1, .int .i64 5] w' fun e w'' => e = .returned (.bool true) ∧ Drawn0 w' w'') (hname : ∀ w', Calls Try.prog 27 #[.string name] w' fun e w'' => e = .returned (.bool true) ∧ Drawn0 w' w'') (hcopy : ∀ w', Kd.C FileK w' A l.length l → Calls Try.prog 28 #[.agg #[.slice A l.length c, .int .i64 cap, .int .i64 cnt, .int .i64 cr, .int .i64 fa, .bool dn]] w' fun e w'' => ∃ v, e = .returned (.agg #[v, .int .i64 cap, .int .i64 (cnt), .int .i64 cr, .int .i64 fa, .bool dn]) ∧ Kd.R FileK 76 w'' w'.heap.size (fun _ => True) v l ∧ Below w'.heap.size w' w'')
    (hdn : dn = false) (hc : 0 ≤ cnt ∧ cnt ≤ 1000000000000000) (hne : cnt ≠ 1000000000000000) (h1 : ¬ (cr ≠ 0 ∧ cnt + 1 = cr)) (h2 : ¬ (fa ≠ 0 ∧ cnt + 1 = fa)) (l' : List FileT) (code : Int) (hdo : ∀ w' u, Kd.R FileK 76 w' w.heap.size (fun _ => True) u l → w.heap.size ≤ w'.heap.size → Calls Try.prog 29 #[.agg #[u, .int .i64 cap, .int .i64 (cnt + 1), .int .i64 cr, .int .i64 fa, .bool dn], .agg #[.int .i64 kind, .string name, .string data, .int .i64 size]] w' fun e w'' => ∃ v', e = .returned (.tuple #[.agg #[v', .int .i64 cap, .int .i64 (cnt + 1), .int .i64 cr, .int .i64 fa, .bool dn], .int .i64 code]) ∧ Kd.R FileK 76 w'' w.heap.size (fun _ => True) v' l' ∧ Below w'.heap.size w' w'') :
    Calls Try.prog 8 #[.agg #[.slice A l.length c, .int .i64 cap, .int .i64 cnt, .int .i64 cr, .int .i64 fa, .bool dn], .agg #[.int .i64 kind, .string name, .string data, .int .i64 size]] w fun e w' => ∃ v0_ : Value, e = .returned (.tuple #[.agg #[v0_, .int .i64 cap, .int .i64 (cnt + 1), .int .i64 cr, .int .i64 fa, .bool dn], .int .i64 code]) ∧ Kd.R FileK 76 w' w.heap.size (fun _ => True) v0_ l' ∧ Below w.heap.size w w' := by
  have HD := Aside0.mk hdo
  clear hdo
  subst hdn
  have k1 : (cnt == 1000000000000000) = false := beq_eq_false_iff_ne.mpr hne
  have HC := Aside0.mk hc
  clear hne hc
  have key : (cr != 0) = false ∨ ((cr != 0) = true ∧ (cnt + 1 == cr) = false) := by
    by_cases e : cr = 0
    · exact .inl (bne_eq_false_iff_eq.mpr e)
    · exact .inr ⟨bne_iff_ne.mpr e, beq_eq_false_iff_ne.mpr fun h => h1 ⟨e, h⟩⟩
  clear h1
  have key2 : (fa != 0) = false ∨ ((fa != 0) = true ∧ (cnt + 1 == fa) = false) := by
    by_cases e : fa = 0
    · exact .inl (bne_eq_false_iff_eq.mpr e)
    · exact .inr ⟨bne_iff_ne.mpr e, beq_eq_false_iff_ne.mpr fun h => h2 ⟨e, h⟩⟩
  clear h2
  have HR := Aside0.mk hr
  have HV := Aside0.mk hval
  have HBT := Aside0.mk hbet
  have HN := Aside0.mk hname
  have HCP := Aside0.mk hcopy
  clear hr hval hbet hname hcopy
  go_enter Try.func8, Try.ntmps8
  go_upto_region 4 with (first | ((with_reducible refine gds (N := 2) rfl ?_); refine qbx 2 #[.slice A l.length c, .int .i64 cap, .int .i64 cnt, .int .i64 cr, .int .i64 fa, .bool false] 31 ?_; intro gb hg w1 hbox hb; have HB := Aside0.mk hb; have HX := Aside0.mk hbox; have HGB := Aside0.mk (Nat.le_of_eq hg.symm); clear hb hbox hg) | ((with_reducible refine gds (N := 3) rfl ?_); refine qbx 3 #[.int .i64 kind, .string name, .string data, .int .i64 size] 35 ?_; intro go_ hg w2 hbox hb; have HX2 := Aside0.mk (bbe HX.out hb); have HO2 := Aside0.mk hbox; have HB2 := Aside0.mk (bst HB.out hb); have HGO := Aside0.mk (Nat.ne_of_gt (hg ▸ blt HX.out : gb < go_)); clear hb hbox hg) | ((with_reducible refine gds (N := 4) rfl ?_); refine qbx 4 #[.slice none 0 0, .int .i64 0, .int .i64 0, .int .i64 0, .int .i64 0, .bool false] 31 ?_; intro gr hg w3 hbox hb; have HX3 := Aside0.mk (bbe HX2.out hb); have HO3 := Aside0.mk (bbe HO2.out hb); have HY3 := Aside0.mk hbox; have HB3 := Aside0.mk (bst HB2.out hb); have HG3 := Aside0.mk (And.intro (Nat.le_trans HB2.out.size (Nat.le_of_eq hg.symm)) (Nat.ne_of_gt (hg ▸ blt HX2.out : gb < gr))); clear hb hbox hg) | ((with_reducible refine gds (N := 6) rfl ?_); refine wpList_load_row rfl 31 (.tmp 2) rfl gb ?hp 31 #[.slice A l.length c, .int .i64 cap, .int .i64 cnt, .int .i64 cr, .int .i64 fa, .bool false] (0, 0) _ ?hg Try.underlying31 ?ha ?hi ?_; (case hp => rfl); (case hg => exact HX3.out); (case ha => rfl); (case hi => exact infoFs)) | (go_at_call 25; (with_reducible refine (HV.out _ (Kd.Cbe HR.out HB3.out)).mono ?_); rintro e w4 ⟨rfl, hb⟩; have HX4 := Aside0.mk (bbe HX3.out hb); have HO4 := Aside0.mk (bbe HO3.out hb); have HY4 := Aside0.mk (bbe HY3.out hb); have HB4 := Aside0.mk (bst HB3.out hb); have hz4 := qz4 HO4.out; clear hb) | (go_at_call 26; (with_reducible refine (HBT.out _).mono ?_); rintro e w' ⟨rfl, m1, rfl⟩; have HX5 := Aside0.mk (bdN HX4.out m1); have HO5 := Aside0.mk (bdN HO4.out m1); have HY5 := Aside0.mk (bdN HY4.out m1); have HB5 := Aside0.mk (pbd HB4.out m1); clear hz4; have hz5 := qz4 HO5.out) | (go_at_call 27; (with_reducible refine (HN.out _).mono ?_); rintro e w' ⟨rfl, m2, rfl⟩; have HX6 := Aside0.mk (bdN HX4.out (m1 + m2)); have HO6 := Aside0.mk (bdN HO4.out (m1 + m2)); have HY6 := Aside0.mk (bdN HY4.out (m1 + m2)); have HB6 := Aside0.mk (pbd HB4.out (m1 + m2)); clear hz5) | ((with_reducible refine gds (N := 22) rfl ?_); refine wpList_load_row rfl 31 (.tmp 2) rfl gb ?hp 31 #[.slice A l.length c, .int .i64 cap, .int .i64 cnt, .int .i64 cr, .int .i64 fa, .bool false] (0, 0) _ ?hg Try.underlying31 ?ha ?hi ?_; (case hp => rfl); (case hg => exact HX6.out); (case ha => rfl); (case hi => exact infoFs)) | (go_at_call 28; (with_reducible refine (HCP.out _ (Kd.Cbe HR.out HB6.out)).mono ?_); rintro e w7 ⟨v, rfl, ho, hb⟩; obtain ⟨A2, c2, rfl⟩ := Kd.R_slice ho; have HX7 := Aside0.mk (bbe HX6.out hb); have HO7 := Aside0.mk (bbe HO6.out hb); have HY7 := Aside0.mk (bbe HY6.out hb); have HV7 := Aside0.mk (Kd.Rlo ho HB6.out.size); have HB7 := Aside0.mk (bst HB6.out hb); clear ho hb) | ((with_reducible refine gst (t := 31) (p := 2) rfl ?_); refine wpList_store_row rfl 31 (.tmp 2) (.tmp 23) rfl gb #[.slice A2 l.length c2, .int .i64 cap, .int .i64 (cnt), .int .i64 cr, .int .i64 fa, .bool false] ?hx ?hy 31 #[.slice A l.length c, .int .i64 cap, .int .i64 cnt, .int .i64 cr, .int .i64 fa, .bool false] ?hg ?hi ?ho ?h1 ?_; (case hx => rfl); (case hy => rfl); (case hg => exact HX7.out); (case hi => exact infoFs); (case ho => rfl); (case h1 => simp [Value.oneCell'])))
  have HX8 := Aside0.mk (heap_setRow_sameF (cs' := #[.slice A2 l.length c2, .int .i64 cap, .int .i64 (cnt), .int .i64 cr, .int .i64 fa, .bool false]) HX7.out)
  have HO8 := Aside0.mk (blk_setRow HO7.out HGO.out #[.slice A2 l.length c2, .int .i64 cap, .int .i64 (cnt), .int .i64 cr, .int .i64 fa, .bool false])
  have HY8 := Aside0.mk (blk_setRow HY7.out HG3.out.2 #[.slice A2 l.length c2, .int .i64 cap, .int .i64 (cnt), .int .i64 cr, .int .i64 fa, .bool false])
  have HV8 := Aside0.mk (row_keep HV7.out HX7.out #[.slice A2 l.length c2, .int .i64 cap, .int .i64 (cnt), .int .i64 cr, .int .i64 fa, .bool false])
  have HB8 := Aside0.mk (below_setRowF HB7.out HGB.out #[.slice A2 l.length c2, .int .i64 cap, .int .i64 (cnt), .int .i64 cr, .int .i64 fa, .bool false])
  generalize w7.setRow gb #[.slice A2 l.length c2, .int .i64 cap, .int .i64 (cnt), .int .i64 cr, .int .i64 fa, .bool false] = w8 at HX8 HO8 HY8 HV8 HB8 ⊢
  clear HX7 HO7 HY7 HV7 HB7
  have hx8 := qz6 HX8.out
  have hc := HC.out
  have hw : wrap64 (cnt + 1) = cnt + 1 := by unfold wrap64; omega
  go_upto_region 9 with fail
  clear hw hc
  have HX9 := Aside0.mk (bpu (cs' := #[.slice A2 l.length c2, .int .i64 cap, .int .i64 (cnt + 1), .int .i64 cr, .int .i64 fa, .bool false]) HX8.out 2 (.int .i64 (cnt + 1)) rfl)
  have HO9 := Aside0.mk (bfa HO8.out HGO.out (p := ⟨gb, 2, none⟩) (.int .i64 (cnt + 1)))
  have HY9 := Aside0.mk (bfa HY8.out HG3.out.2 (p := ⟨gb, 2, none⟩) (.int .i64 (cnt + 1)))
  have HV9 := Aside0.mk (cell_keep HV8.out HX8.out 2 (.int .i64 (cnt + 1)))
  have HB9 := Aside0.mk (bse HB8.out HGB.out (j := 2) (v := .int .i64 (cnt + 1)))
  generalize w8.setCell ⟨gb, 2, none⟩ (.int .i64 (cnt + 1)) = w9 at HX9 HO9 HY9 HV9 HB9 ⊢
  clear HX8 HO8 HY8 HV8 HB8 hx8
  have hx9 := qz6 HX9.out
  rcases key with k2 | ⟨k2, k3⟩ <;> rcases key2 with k4 | ⟨k4, k5⟩
  all_goals
    go_wp2_with (first | ((with_reducible refine gds (N := 58) rfl ?_); refine wpList_load_row rfl 31 (.tmp 2) rfl gb ?hp 31 #[.slice A2 l.length c2, .int .i64 cap, .int .i64 (cnt + 1), .int .i64 cr, .int .i64 fa, .bool false] (0, 0) _ ?hg Try.underlying31 ?ha ?hi ?_; (case hp => rfl); (case hg => exact HX9.out); (case ha => rfl); (case hi => exact infoFs)) | ((with_reducible refine gds (N := 59) rfl ?_); refine wpList_load_row rfl 35 (.tmp 3) rfl go_ ?hp 35 #[.int .i64 kind, .string name, .string data, .int .i64 size] (0, 0) _ ?hg Try.underlying35 ?ha ?hi ?_; (case hp => rfl); (case hg => exact HO9.out); (case ha => rfl); (case hi => exact infoOp)) | (go_at_call 29; (with_reducible refine (HD.out _ _ HV9.out HB9.out.size).mono ?_); rintro e w10 ⟨v', rfl, ho, hb⟩; obtain ⟨A3, c3, rfl⟩ := Kd.R_slice ho; have HY10 := Aside0.mk (bbe HY9.out hb); have HV10 := Aside0.mk ho; have HB10 := Aside0.mk (bst HB9.out hb); clear ho hb) | ((with_reducible refine gst (t := 31) (p := 4) rfl ?_); refine wpList_store_row rfl 31 (.tmp 4) (.tmp 61) rfl gr #[.slice A3 l'.length c3, .int .i64 cap, .int .i64 (cnt + 1), .int .i64 cr, .int .i64 fa, .bool false] ?hx ?hy 31 #[.slice none 0 0, .int .i64 0, .int .i64 0, .int .i64 0, .int .i64 0, .bool false] ?hg ?hi ?ho ?h1 ?_; (case hx => rfl); (case hy => rfl); (case hg => exact HY10.out); (case hi => exact infoFs); (case ho => rfl); (case h1 => simp [Value.oneCell'])))
    refine bodyPost_ret (results_ct rfl _ _ gr 31 #[.slice A3 l'.length c3, .int .i64 cap, .int .i64 (cnt + 1), .int .i64 cr, .int .i64 fa, .bool false] (0, 0) _ rfl (heap_setRow_sameF HY10.out) Try.underlying31 rfl infoFs) rfl ⟨_, rfl, ?_, ?_⟩
    · exact row_keep HV10.out HY10.out _
    · exact below_setRowF HB10.out HG3.out.1 _
set_option maxHeartbeats 8000000 in
set_option maxRecDepth 100000 in
theorem specStep_bad1 (A : Option Addr) (c : Nat) (l : List FileT) (cap cnt cr fa : Int) (dn : Bool) (kind : Int) (name data : ByteArray) (size : Int) (w : World)
    (hr : Kd.C FileK w A l.length l) (hval : ∀ w', Kd.C FileK w' A l.length l → Calls Try.prog 25 #[.agg #[.slice A l.length c, .int .i64 cap, .int .i64 cnt, .int .i64 cr, .int .i64 fa, .bool dn]] w' fun e w'' => e = .returned (.bool false) ∧ Below w'.heap.size w' w'') :
    Calls Try.prog 8 #[.agg #[.slice A l.length c, .int .i64 cap, .int .i64 cnt, .int .i64 cr, .int .i64 fa, .bool dn], .agg #[.int .i64 kind, .string name, .string data, .int .i64 size]] w fun e w' => e = .returned (.tuple #[.agg #[.slice none 0 0, .int .i64 0, .int .i64 0, .int .i64 0, .int .i64 0, .bool false], .int .i64 16]) ∧ Below w.heap.size w w' := by
  have HR := Aside0.mk hr
  have HV := Aside0.mk hval
  clear hr hval
  go_enter Try.func8, Try.ntmps8
  go_wp2_with (first | ((with_reducible refine gds (N := 2) rfl ?_); refine qbx 2 #[.slice A l.length c, .int .i64 cap, .int .i64 cnt, .int .i64 cr, .int .i64 fa, .bool dn] 31 ?_; intro gb hg w1 hbox hb; have HB := Aside0.mk hb; have HX := Aside0.mk hbox; have HGB := Aside0.mk (Nat.le_of_eq hg.symm); clear hb hbox hg) | ((with_reducible refine gds (N := 3) rfl ?_); refine qbx 3 #[.int .i64 kind, .string name, .string data, .int .i64 size] 35 ?_; intro go_ hg w2 hbox hb; have HX2 := Aside0.mk (bbe HX.out hb); have HO2 := Aside0.mk hbox; have HB2 := Aside0.mk (bst HB.out hb); have HGO := Aside0.mk (Nat.ne_of_gt (hg ▸ blt HX.out : gb < go_)); clear hb hbox hg) | ((with_reducible refine gds (N := 4) rfl ?_); refine qbx 4 #[.slice none 0 0, .int .i64 0, .int .i64 0, .int .i64 0, .int .i64 0, .bool false] 31 ?_; intro gr hg w3 hbox hb; have HX3 := Aside0.mk (bbe HX2.out hb); have HO3 := Aside0.mk (bbe HO2.out hb); have HY3 := Aside0.mk hbox; have HB3 := Aside0.mk (bst HB2.out hb); have HG3 := Aside0.mk (And.intro (Nat.le_trans HB2.out.size (Nat.le_of_eq hg.symm)) (Nat.ne_of_gt (hg ▸ blt HX2.out : gb < gr))); clear hb hbox hg) | ((with_reducible refine gds (N := 6) rfl ?_); refine wpList_load_row rfl 31 (.tmp 2) rfl gb ?hp 31 #[.slice A l.length c, .int .i64 cap, .int .i64 cnt, .int .i64 cr, .int .i64 fa, .bool dn] (0, 0) _ ?hg Try.underlying31 ?ha ?hi ?_; (case hp => rfl); (case hg => exact HX3.out); (case ha => rfl); (case hi => exact infoFs)) | (go_at_call 25; (with_reducible refine (HV.out _ (Kd.Cbe HR.out HB3.out)).mono ?_); rintro e w4 ⟨rfl, hb⟩; have HX4 := Aside0.mk (bbe HX3.out hb); have HO4 := Aside0.mk (bbe HO3.out hb); have HY4 := Aside0.mk (bbe HY3.out hb); have HB4 := Aside0.mk (bst HB3.out hb); have hz4 := qz4 HO4.out; clear hb) | ((with_reducible refine gst (t := 31) (p := 4) rfl ?_); refine wpList_store_row rfl 31 (.tmp 4) (.tmp 21) rfl gr #[.slice none 0 0, .int .i64 0, .int .i64 0, .int .i64 0, .int .i64 0, .bool false] ?hx ?hy 31 #[.slice none 0 0, .int .i64 0, .int .i64 0, .int .i64 0, .int .i64 0, .bool false] ?hg ?hi ?ho ?h1 ?_; (case hx => rfl); (case hy => rfl); (case hg => exact HY4.out); (case hi => exact infoFs); (case ho => rfl); (case h1 => simp [Value.oneCell'])))
  refine bodyPost_ret (results_ct rfl _ _ gr 31 #[.slice none 0 0, .int .i64 0, .int .i64 0, .int .i64 0, .int .i64 0, .bool false] (0, 0) _ rfl (heap_setRow_sameF HY4.out) Try.underlying31 rfl infoFs) rfl ⟨rfl, ?_⟩
  exact below_setRowF HB4.out HG3.out.1 _
set_option maxHeartbeats 8000000 in
set_option maxRecDepth 100000 in
theorem specStep_bad2 (A : Option Addr) (c : Nat) (l : List FileT) (cap cnt cr fa : Int) (dn : Bool) (kind : Int) (name data : ByteArray) (size : Int) (w : World)
    (hr : Kd.C FileK w A l.length l) (hval : ∀ w', Kd.C FileK w' A l.length l → Calls Try.prog 25 #[.agg #[.slice A l.length c, .int .i64 cap, .int .i64 cnt, .int .i64 cr, .int .i64 fa, .bool dn]] w' fun e w'' => e = .returned (.bool true) ∧ Below w'.heap.size w' w'') (hbet : ∀ w', Calls Try.prog 26 #[.int .i64 kind, .int .i64 1, .int .i64 5] w' fun e w'' => e = .returned (.bool false) ∧ Drawn0 w' w'') :
    Calls Try.prog 8 #[.agg #[.slice A l.length c, .int .i64 cap, .int .i64 cnt, .int .i64 cr, .int .i64 fa, .bool dn], .agg #[.int .i64 kind, .string name, .string data, .int .i64 size]] w fun e w' => e = .returned (.tuple #[.agg #[.slice none 0 0, .int .i64 0, .int .i64 0, .int .i64 0, .int .i64 0, .bool false], .int .i64 16]) ∧ Below w.heap.size w w' := by
  have HR := Aside0.mk hr
  have HV := Aside0.mk hval
  clear hr hval
  have HBT := Aside0.mk hbet
  clear hbet
  go_enter Try.func8, Try.ntmps8
  go_wp2_with (first | ((with_reducible refine gds (N := 2) rfl ?_); refine qbx 2 #[.slice A l.length c, .int .i64 cap, .int .i64 cnt, .int .i64 cr, .int .i64 fa, .bool dn] 31 ?_; intro gb hg w1 hbox hb; have HB := Aside0.mk hb; have HX := Aside0.mk hbox; have HGB := Aside0.mk (Nat.le_of_eq hg.symm); clear hb hbox hg) | ((with_reducible refine gds (N := 3) rfl ?_); refine qbx 3 #[.int .i64 kind, .string name, .string data, .int .i64 size] 35 ?_; intro go_ hg w2 hbox hb; have HX2 := Aside0.mk (bbe HX.out hb); have HO2 := Aside0.mk hbox; have HB2 := Aside0.mk (bst HB.out hb); have HGO := Aside0.mk (Nat.ne_of_gt (hg ▸ blt HX.out : gb < go_)); clear hb hbox hg) | ((with_reducible refine gds (N := 4) rfl ?_); refine qbx 4 #[.slice none 0 0, .int .i64 0, .int .i64 0, .int .i64 0, .int .i64 0, .bool false] 31 ?_; intro gr hg w3 hbox hb; have HX3 := Aside0.mk (bbe HX2.out hb); have HO3 := Aside0.mk (bbe HO2.out hb); have HY3 := Aside0.mk hbox; have HB3 := Aside0.mk (bst HB2.out hb); have HG3 := Aside0.mk (And.intro (Nat.le_trans HB2.out.size (Nat.le_of_eq hg.symm)) (Nat.ne_of_gt (hg ▸ blt HX2.out : gb < gr))); clear hb hbox hg) | ((with_reducible refine gds (N := 6) rfl ?_); refine wpList_load_row rfl 31 (.tmp 2) rfl gb ?hp 31 #[.slice A l.length c, .int .i64 cap, .int .i64 cnt, .int .i64 cr, .int .i64 fa, .bool dn] (0, 0) _ ?hg Try.underlying31 ?ha ?hi ?_; (case hp => rfl); (case hg => exact HX3.out); (case ha => rfl); (case hi => exact infoFs)) | (go_at_call 25; (with_reducible refine (HV.out _ (Kd.Cbe HR.out HB3.out)).mono ?_); rintro e w4 ⟨rfl, hb⟩; have HX4 := Aside0.mk (bbe HX3.out hb); have HO4 := Aside0.mk (bbe HO3.out hb); have HY4 := Aside0.mk (bbe HY3.out hb); have HB4 := Aside0.mk (bst HB3.out hb); have hz4 := qz4 HO4.out; clear hb) | (go_at_call 26; (with_reducible refine (HBT.out _).mono ?_); rintro e w' ⟨rfl, m1, rfl⟩; have HX5 := Aside0.mk (bdN HX4.out m1); have HO5 := Aside0.mk (bdN HO4.out m1); have HY5 := Aside0.mk (bdN HY4.out m1); have HB5 := Aside0.mk (pbd HB4.out m1); clear hz4; have hz5 := qz4 HO5.out) | ((with_reducible refine gst (t := 31) (p := 4) rfl ?_); refine wpList_store_row rfl 31 (.tmp 4) (.tmp 21) rfl gr #[.slice none 0 0, .int .i64 0, .int .i64 0, .int .i64 0, .int .i64 0, .bool false] ?hx ?hy 31 #[.slice none 0 0, .int .i64 0, .int .i64 0, .int .i64 0, .int .i64 0, .bool false] ?hg ?hi ?ho ?h1 ?_; (case hx => rfl); (case hy => rfl); (case hg => exact HY5.out); (case hi => exact infoFs); (case ho => rfl); (case h1 => simp [Value.oneCell'])))
  refine bodyPost_ret (results_ct rfl _ _ gr 31 #[.slice none 0 0, .int .i64 0, .int .i64 0, .int .i64 0, .int .i64 0, .bool false] (0, 0) _ rfl (heap_setRow_sameF HY5.out) Try.underlying31 rfl infoFs) rfl ⟨rfl, ?_⟩
  exact below_setRowF HB5.out HG3.out.1 _
set_option maxHeartbeats 8000000 in
set_option maxRecDepth 100000 in
theorem specStep_bad3 (A : Option Addr) (c : Nat) (l : List FileT) (cap cnt cr fa : Int) (dn : Bool) (kind : Int) (name data : ByteArray) (size : Int) (w : World)
    (hr : Kd.C FileK w A l.length l) (hval : ∀ w', Kd.C FileK w' A l.length l → Calls Try.prog 25 #[.agg #[.slice A l.length c, .int .i64 cap, .int .i64 cnt, .int .i64 cr, .int .i64 fa, .bool dn]] w' fun e w'' => e = .returned (.bool true) ∧ Below w'.heap.size w' w'') (hbet : ∀ w', Calls Try.prog 26 #[.int .i64 kind, .int .i64 1, .int .i64 5] w' fun e w'' => e = .returned (.bool true) ∧ Drawn0 w' w'') (hname : ∀ w', Calls Try.prog 27 #[.string name] w' fun e w'' => e = .returned (.bool false) ∧ Drawn0 w' w'') :
    Calls Try.prog 8 #[.agg #[.slice A l.length c, .int .i64 cap, .int .i64 cnt, .int .i64 cr, .int .i64 fa, .bool dn], .agg #[.int .i64 kind, .string name, .string data, .int .i64 size]] w fun e w' => e = .returned (.tuple #[.agg #[.slice none 0 0, .int .i64 0, .int .i64 0, .int .i64 0, .int .i64 0, .bool false], .int .i64 16]) ∧ Below w.heap.size w w' := by
  have HR := Aside0.mk hr
  have HV := Aside0.mk hval
  clear hr hval
  have HBT := Aside0.mk hbet
  have HN := Aside0.mk hname
  clear hbet hname
  go_enter Try.func8, Try.ntmps8
  go_wp2_with (first | ((with_reducible refine gds (N := 2) rfl ?_); refine qbx 2 #[.slice A l.length c, .int .i64 cap, .int .i64 cnt, .int .i64 cr, .int .i64 fa, .bool dn] 31 ?_; intro gb hg w1 hbox hb; have HB := Aside0.mk hb; have HX := Aside0.mk hbox; have HGB := Aside0.mk (Nat.le_of_eq hg.symm); clear hb hbox hg) | ((with_reducible refine gds (N := 3) rfl ?_); refine qbx 3 #[.int .i64 kind, .string name, .string data, .int .i64 size] 35 ?_; intro go_ hg w2 hbox hb; have HX2 := Aside0.mk (bbe HX.out hb); have HO2 := Aside0.mk hbox; have HB2 := Aside0.mk (bst HB.out hb); have HGO := Aside0.mk (Nat.ne_of_gt (hg ▸ blt HX.out : gb < go_)); clear hb hbox hg) | ((with_reducible refine gds (N := 4) rfl ?_); refine qbx 4 #[.slice none 0 0, .int .i64 0, .int .i64 0, .int .i64 0, .int .i64 0, .bool false] 31 ?_; intro gr hg w3 hbox hb; have HX3 := Aside0.mk (bbe HX2.out hb); have HO3 := Aside0.mk (bbe HO2.out hb); have HY3 := Aside0.mk hbox; have HB3 := Aside0.mk (bst HB2.out hb); have HG3 := Aside0.mk (And.intro (Nat.le_trans HB2.out.size (Nat.le_of_eq hg.symm)) (Nat.ne_of_gt (hg ▸ blt HX2.out : gb < gr))); clear hb hbox hg) | ((with_reducible refine gds (N := 6) rfl ?_); refine wpList_load_row rfl 31 (.tmp 2) rfl gb ?hp 31 #[.slice A l.length c, .int .i64 cap, .int .i64 cnt, .int .i64 cr, .int .i64 fa, .bool dn] (0, 0) _ ?hg Try.underlying31 ?ha ?hi ?_; (case hp => rfl); (case hg => exact HX3.out); (case ha => rfl); (case hi => exact infoFs)) | (go_at_call 25; (with_reducible refine (HV.out _ (Kd.Cbe HR.out HB3.out)).mono ?_); rintro e w4 ⟨rfl, hb⟩; have HX4 := Aside0.mk (bbe HX3.out hb); have HO4 := Aside0.mk (bbe HO3.out hb); have HY4 := Aside0.mk (bbe HY3.out hb); have HB4 := Aside0.mk (bst HB3.out hb); have hz4 := qz4 HO4.out; clear hb) | (go_at_call 26; (with_reducible refine (HBT.out _).mono ?_); rintro e w' ⟨rfl, m1, rfl⟩; have HX5 := Aside0.mk (bdN HX4.out m1); have HO5 := Aside0.mk (bdN HO4.out m1); have HY5 := Aside0.mk (bdN HY4.out m1); have HB5 := Aside0.mk (pbd HB4.out m1); clear hz4; have hz5 := qz4 HO5.out) | (go_at_call 27; (with_reducible refine (HN.out _).mono ?_); rintro e w' ⟨rfl, m2, rfl⟩; have HX6 := Aside0.mk (bdN HX4.out (m1 + m2)); have HO6 := Aside0.mk (bdN HO4.out (m1 + m2)); have HY6 := Aside0.mk (bdN HY4.out (m1 + m2)); have HB6 := Aside0.mk (pbd HB4.out (m1 + m2)); clear hz5) | ((with_reducible refine gst (t := 31) (p := 4) rfl ?_); refine wpList_store_row rfl 31 (.tmp 4) (.tmp 21) rfl gr #[.slice none 0 0, .int .i64 0, .int .i64 0, .int .i64 0, .int .i64 0, .bool false] ?hx ?hy 31 #[.slice none 0 0, .int .i64 0, .int .i64 0, .int .i64 0, .int .i64 0, .bool false] ?hg ?hi ?ho ?h1 ?_; (case hx => rfl); (case hy => rfl); (case hg => exact HY6.out); (case hi => exact infoFs); (case ho => rfl); (case h1 => simp [Value.oneCell'])))
  refine bodyPost_ret (results_ct rfl _ _ gr 31 #[.slice none 0 0, .int .i64 0, .int .i64 0, .int .i64 0, .int .i64 0, .bool false] (0, 0) _ rfl (heap_setRow_sameF HY6.out) Try.underlying31 rfl infoFs) rfl ⟨rfl, ?_⟩
  exact below_setRowF HB6.out HG3.out.1 _
end Go.Proofs.Ytoebfjfhdodakaa.L
end
section
namespace Go.Proofs.Ytoebfjfhdodakaa.L
open Go.RowKit Go.Proofs.YtoebfjfhdodakaaW.PrintWords Go.Proofs.YtoebfjfhdodakaaW.PrintLast Go.Proofs.YtoebfjfhdodakaaW.PrintMore
attribute [local go_sem] max2_int min2_int max_two min_two max_three min_three max_four min_four
set_option linter.unusedVariables false
set_option linter.unusedSimpArgs false
def spec_l6Copy.f (l0_0 : List (S76)) (a0_1 : Int) (a0_2 : Int) (a0_3 : Int) (a0_4 : Int) (a0_5 : Bool) : Option ((List (S76)) × Int × Int × Int × Int × Bool) := (some (([] : List (S76)) : List (S76))).bind fun y126 => (if y126.length + l0_0.length < 3518437208883 then (some ((y126 ++ l0_0), a0_1, a0_2, a0_3, a0_4, a0_5)) else (none))
set_option maxHeartbeats 8000000 in
set_option maxRecDepth 100000 in
theorem spec_l6Copy.calls (A0_0 : Option Addr) (c0_0 : Nat) (l0_0 : List (S76)) (a0_1 : Int) (a0_2 : Int) (a0_3 : Int) (a0_4 : Int) (a0_5 : Bool) (r1 : List (S76)) (r2 : Int) (r3 : Int) (r4 : Int) (r5 : Int) (r6 : Bool) (w : World) (hr0_0 : Kd.C k76 w A0_0 l0_0.length l0_0) (hc0_0 : l0_0.length ≤ c0_0) (h : spec_l6Copy.f l0_0 a0_1 a0_2 a0_3 a0_4 a0_5 = some (r1, r2, r3, r4, r5, r6)) :
    Calls Try.prog 28 #[.agg #[.slice A0_0 l0_0.length c0_0, .int .i64 a0_1, .int .i64 a0_2, .int .i64 a0_3, .int .i64 a0_4, .bool a0_5]] w fun e w' => ∃ v0_ : Value, e = .returned (.agg #[v0_, .int .i64 r2, .int .i64 r3, .int .i64 r4, .int .i64 r5, .bool r6]) ∧ Kd.R k76 76 w' w.heap.size (fun _ => True) v0_ r1 ∧ Below w.heap.size w w' := by
  have hu31 := Try.underlying31; have HR0_0 := qK hr0_0; have HC0_0 := qK hc0_0; clear hr0_0 hc0_0; have HB := qK (Below.refl w.heap.size w); have H : ((some (([] : List (S76)) : List (S76))).bind fun y126 => (if y126.length + l0_0.length < 3518437208883 then (some ((y126 ++ l0_0), a0_1, a0_2, a0_3, a0_4, a0_5)) else (none))) = some (r1, r2, r3, r4, r5, r6) := h; clear h; obtain ⟨y126, hy126⟩ : ∃ y_ : List (S76), y_ = (([] : List (S76))) := ⟨_, rfl⟩; (replace H : (if y126.length + l0_0.length < 3518437208883 then (some ((y126 ++ l0_0), a0_1, a0_2, a0_3, a0_4, a0_5)) else (none)) = some (r1, r2, r3, r4, r5, r6) := by first | (rw [hy126]; with_reducible exact H) | (have H2_ := (Option.bind_some _ _).symm.trans H; rw [hy126]; with_reducible exact H2_) | (have H2_ := (Option.bind_some _ _).symm.trans H; with_reducible exact H2_) | with_reducible exact H | (rw [hy126]; exact H) | exact H); have Ny126 := qK hy126; clear hy126; by_cases c2 : y126.length + l0_0.length < 3518437208883
  · rw [if_pos c2] at H; have LMc2 := qK c2; clear c2; obtain ⟨y129, hy129⟩ : ∃ y_ : List (S76), y_ = (y126 ++ l0_0) := ⟨_, rfl⟩; (replace H : (some (y129, a0_1, a0_2, a0_3, a0_4, a0_5)) = some (r1, r2, r3, r4, r5, r6) := by first | (rw [hy129]; with_reducible exact H) | (have H2_ := (Option.bind_some _ _).symm.trans H; rw [hy129]; with_reducible exact H2_) | (have H2_ := (Option.bind_some _ _).symm.trans H; with_reducible exact H2_) | with_reducible exact H | (rw [hy129]; exact H) | exact H); have Ny129 := qK hy129; clear hy129; simp only [Option.some.injEq, Prod.mk.injEq] at H; obtain ⟨rfl, rfl, rfl, rfl, rfl, rfl⟩ := H; go_enter Try.func28, Try.ntmps28; go_wp2_with (first | ((with_reducible refine gds (N := 1) rfl ?_); refine qbx 1 #[.slice A0_0 l0_0.length c0_0, .int .i64 a0_1, .int .i64 a0_2, .int .i64 a0_3, .int .i64 a0_4, .bool a0_5] 31 ?_; intro gb124 hg w3 hbox hb; have BK124 := qK (hbox); have GW124 := qK ((qW : w.heap.size ≤ gb124)); have GE124 := GW124; replace HB := qHB HB hb; clear hb hbox hg) | ((with_reducible refine gds (N := 2) rfl ?_); refine qbx 2 #[.slice none 0 0, .int .i64 0, .int .i64 0, .int .i64 0, .int .i64 0, .bool false] 31 ?_; intro gb125 hg w4 hbox hb; have BK125 := qK (hbox); have GW125 := qK ((qW : w.heap.size ≤ gb125)); have GE125 := GW125; replace HB := qHB HB hb; have NB124_125 := qK (qlt BK124 hg); have NB125_124 := qK (qgt BK124 hg); replace BK124 := qbb BK124 hb; clear hb hbox hg) | ((with_reducible refine gds (N := 3) rfl ?_); refine Kd.R_lit k76 _ 76 ?hg (N := 3) ?hd (xs := ([] : List (S76))) (inner := []) (ok := fun _ => True) (okp := fun _ => True) ?hr ?hp (fun _ hk => hk) trivial (Below.refl _ _) (Nat.le_refl _) (by simp) ?_; (case hd => rfl); (case hg => rfl); (case hr => first | (go_simp; done) | (go_simp; rfl)); (case hp => exact (Reps.none _ _)); intro v127 w5 ho6 hb hg_ hnew_; clear hg_ hnew_; (first | rw [← Ny126.out] at ho6 | (simp only [Int.reduceToNat] at ho6; rw [← Ny126.out] at ho6)); have HO128 := qK (Kd.Rlo ho6 (bsz qB)); replace BK124 := qbb BK124 hb; replace BK125 := qbb BK125 hb; replace HB := qHB HB hb; clear hb ho6; have hnb7 := NB124_125.out; have hnc7 := NB125_124.out; have hz8 := qz6 BK124.out) | ((with_reducible refine gbu (b := .append) (xs := #[.tmp 3, .tmp 5]) rfl ?_); at_builtin; refine Kd.Rar k76 (w0 := w) w.heap.size rfl (.tmp 3) (.tmp 5) 29 76 (.agg #[(.string ⟨#[]⟩), (.string ⟨#[]⟩), (.int .i64 0)]) 40 rfl Try.underlying29 info76 rfl (by decide) (by omega) v127 y126 l0_0 _ _ _ (fun _ => True) (fun _ => False) rfl rfl ?aO ?aR (fun _ _ h => h) (fun _ h => h.elim) ?aF ?aB ?aS ?aL ?_; (case aR => exact qC HR0_0); (case aB => exact qB); (case aF => exact (fun _ _ => trivial)); (case aO => exact (qRb HO128)); (case aS => exact (bsz qB)); (case aL => have := LMc2.out; omega); intro v130 w9 ho hb hg hat; rw [← Ny129.out] at ho; replace BK124 := qK (bgr (qpk BK124) hg (Kd.R_ne HO128.out BK124.out (by decide))); replace BK125 := qK (bgr (qpk BK125) hg (Kd.R_ne HO128.out BK125.out (by decide))); replace HB := qK (hb); have HO131 := qK (ho); clear HO128; clear ho hb hg hat; obtain ⟨Ao10, co10, eo10⟩ := Kd.R_slice HO131.out; subst eo10; have hz11 := qz6 BK124.out; have hz12 := qz6 BK125.out)); refine bodyPost_ret (results_cell_row rfl _ _ gb125 31 #[.slice Ao10 y129.length co10, .int .i64 a0_1, .int .i64 a0_2, .int .i64 a0_3, .int .i64 a0_4, .bool a0_5] (0, 0) _ rfl (by (with_reducible repeat (first | refine bdN ?_ _ | refine bkD ?_ | refine bkA ?_ _)); refine bpu (cs := #[.slice Ao10 y129.length co10, .int .i64 a0_1, .int .i64 a0_2, .int .i64 a0_3, .int .i64 a0_4, .bool false]) ?_ 5 _ rfl; (with_reducible repeat (first | refine bdN ?_ _ | refine bkD ?_ | refine bkA ?_ _)); refine bpu (cs := #[.slice Ao10 y129.length co10, .int .i64 a0_1, .int .i64 a0_2, .int .i64 a0_3, .int .i64 0, .bool false]) ?_ 4 _ rfl; (with_reducible repeat (first | refine bdN ?_ _ | refine bkD ?_ | refine bkA ?_ _)); refine bpu (cs := #[.slice Ao10 y129.length co10, .int .i64 a0_1, .int .i64 a0_2, .int .i64 0, .int .i64 0, .bool false]) ?_ 3 _ rfl; (with_reducible repeat (first | refine bdN ?_ _ | refine bkD ?_ | refine bkA ?_ _)); refine bpu (cs := #[.slice Ao10 y129.length co10, .int .i64 a0_1, .int .i64 0, .int .i64 0, .int .i64 0, .bool false]) ?_ 2 _ rfl; (with_reducible repeat (first | refine bdN ?_ _ | refine bkD ?_ | refine bkA ?_ _)); refine bpu (cs := #[.slice Ao10 y129.length co10, .int .i64 0, .int .i64 0, .int .i64 0, .int .i64 0, .bool false]) ?_ 1 _ rfl; (with_reducible repeat (first | refine bdN ?_ _ | refine bkD ?_ | refine bkA ?_ _)); refine bpu (cs := #[.slice none 0 0, .int .i64 0, .int .i64 0, .int .i64 0, .int .i64 0, .bool false]) ?_ 0 _ rfl; (with_reducible repeat (first | refine bdN ?_ _ | refine bkD ?_ | refine bkA ?_ _)); refine bfa ?_ NB125_124.out _; (with_reducible repeat (first | refine bdN ?_ _ | refine bkD ?_ | refine bkA ?_ _)); exact BK125.out) Try.underlying31 rfl (by kernel_rfl)) rfl ?_; exact ⟨_, qR, by (with_reducible repeat (first | apply Kd.Ral | apply Kd.RdN | apply Kd.Rdr)); exact Kd.Rmo (Kd.Rfa (p := ⟨gb125, 5, none⟩) (Kd.Rfa (p := ⟨gb125, 4, none⟩) (Kd.Rfa (p := ⟨gb125, 3, none⟩) (Kd.Rfa (p := ⟨gb125, 2, none⟩) (Kd.Rfa (p := ⟨gb125, 1, none⟩) (Kd.Rfa (p := ⟨gb125, 0, none⟩) (Kd.Rfa (p := ⟨gb124, 0, none⟩) (Kd.Rty (Kd.Rty HO131.out BK124.out (by decide)) BK125.out (by decide)) (fun _ hk => hk.1.2) (.slice Ao10 y129.length co10)) (fun _ hk => hk.2) (.slice Ao10 y129.length co10)) (fun _ hk => hk.2) (.int .i64 a0_1)) (fun _ hk => hk.2) (.int .i64 a0_2)) (fun _ hk => hk.2) (.int .i64 a0_3)) (fun _ hk => hk.2) (.int .i64 a0_4)) (fun _ hk => hk.2) (.bool a0_5)) (fun _ hk => trivial), qB⟩
  · rw [if_neg c2] at H; exact absurd H (by simp)
def spec_l6Find.l0 : Nat → ByteArray → List (S76) → Int → Int → Option (Int)
  | 0, _, _, _, _ => none
  | k + 1, x1, x8, x9, x10 => if x10 < x9 then (if 0 ≤ x10 then (if x10 < (x8.length : Int) then (if ((rd_T76 x8 x10).f0).toList = x1.toList then (some x10) else (spec_l6Find.l0 k x1 x8 x9 (wrap64 (x10 + 1)))) else (none)) else (none)) else (some (-1))
def spec_l6Find.f (k : Nat) (l0_0 : List (S76)) (a0_1 : Int) (a0_2 : Int) (a0_3 : Int) (a0_4 : Int) (a0_5 : Bool) (a1 : ByteArray) : Option (Int) := spec_l6Find.l0 k a1 l0_0 (l0_0.length : Int) 0
theorem spec_l6Find.mono_l : ∀ k, (∀ y0 y1 y2 y3, LeO (spec_l6Find.l0 k y0 y1 y2 y3) (spec_l6Find.l0 (k + 1) y0 y1 y2 y3))
  | 0 => fun _ _ _ _ r h => by simp [spec_l6Find.l0] at h
  | k + 1 => by
    have ih0 := spec_l6Find.mono_l k
    · intro y0 y1 y2 y3
      unfold spec_l6Find.l0
      repeat' first
      | (with_reducible exact ih0 _ _ _ _)
      | (with_reducible exact LeO.refl _)
      | (with_reducible exact LeO.none _)
      | (with_reducible refine LeO.ite ?_ ?_)
      | (with_reducible refine LeO.bind ?_ (fun _ => ?_))
      | exact ih0 _ _ _ _
      | exact LeO.none _
      | refine LeO.ite ?_ ?_
      | refine LeO.bind ?_ (fun _ => ?_)
theorem spec_l6Find.mono : ∀ a0 a1 a2 a3 a4 a5 a6 k, LeO (spec_l6Find.f k a0 a1 a2 a3 a4 a5 a6) (spec_l6Find.f (k + 1) a0 a1 a2 a3 a4 a5 a6) := by
  intro a0 a1 a2 a3 a4 a5 a6 k
  have ih0 := spec_l6Find.mono_l k
  unfold spec_l6Find.f
  repeat' first
      | (with_reducible exact ih0 _ _ _ _)
      | (with_reducible exact LeO.refl _)
      | (with_reducible exact LeO.none _)
      | (with_reducible refine LeO.ite ?_ ?_)
      | (with_reducible refine LeO.bind ?_ (fun _ => ?_))
      | exact ih0 _ _ _ _
      | exact LeO.none _
      | refine LeO.ite ?_ ?_
      | refine LeO.bind ?_ (fun _ => ?_)
set_option maxHeartbeats 8000000 in
set_option maxRecDepth 100000 in
theorem spec_l6Find.calls (k : Nat) (A0_0 : Option Addr) (c0_0 : Nat) (l0_0 : List (S76)) (a0_1 : Int) (a0_2 : Int) (a0_3 : Int) (a0_4 : Int) (a0_5 : Bool) (a1 : ByteArray) (r : Int) (w : World) (hr0_0 : Kd.C k76 w A0_0 l0_0.length l0_0) (hc0_0 : l0_0.length ≤ c0_0) (h : spec_l6Find.f k l0_0 a0_1 a0_2 a0_3 a0_4 a0_5 a1 = some r) :
    Calls Try.prog 49 #[.agg #[.slice A0_0 l0_0.length c0_0, .int .i64 a0_1, .int .i64 a0_2, .int .i64 a0_3, .int .i64 a0_4, .bool a0_5], .string a1] w fun e w' => e = .returned (.int .i64 r) ∧ Below w.heap.size w w' := by
  have hu31 := Try.underlying31; have hu76 := Try.underlying76; have HR0_0 := qK hr0_0; have HC0_0 := qK hc0_0; clear hr0_0 hc0_0; have HB := qK (Below.refl w.heap.size w); have H : (spec_l6Find.l0 k a1 l0_0 (l0_0.length : Int) 0) = some r := h; clear h; have H' := qK H; clear H; go_enter Try.func49, Try.ntmps49; go_wp2_with (first | ((with_reducible refine gds (N := 2) rfl ?_); refine qbx 2 #[.slice A0_0 l0_0.length c0_0, .int .i64 a0_1, .int .i64 a0_2, .int .i64 a0_3, .int .i64 a0_4, .bool a0_5] 31 ?_; intro gb132 hg w3 hbox hb; have BK132 := qK (hbox); have GW132 := qK ((qW : w.heap.size ≤ gb132)); have GE132 := GW132; replace HB := qHB HB hb; clear hb hbox hg; have hz4 := qz6 BK132.out)); go_loopg [10] k (fun kq v10 w' => ∃ (x10_1 : Int), v10 = .int .i64 x10_1 ∧ Aside0 (spec_l6Find.l0 kq a1 l0_0 (l0_0.length : Int) x10_1 = some r) ∧ Aside0 (kq ≤ k) ∧ Aside0 (w'.heap[gb132]? = some (.cells #[(.slice A0_0 l0_0.length c0_0), .int .i64 a0_1, .int .i64 a0_2, .int .i64 a0_3, .int .i64 a0_4, .bool a0_5] 31 (0, 0))) ∧ Aside0 (Below w.heap.size w w'))
  case atStart => exact ⟨(0), qS, H', ⟨Nat.le_refl _⟩, ⟨by (with_reducible repeat (first | refine bdN ?_ _ | refine bkD ?_ | refine bkA ?_ _)); exact BK132.out⟩, ⟨qB⟩⟩
  case round =>
    clear H'; (try clear p2); (try clear c4); (try clear hz4); obtain ⟨x10_1, rfl, HA, HK1, BK132, HB⟩ := hrel
    cases gk with
    | zero => exact absurd HA.out (by simp [spec_l6Find.l0])
    | succ k1 =>
      have H := HA.out; clear HA; simp only [spec_l6Find.l0] at H; by_cases c5 : x10_1 < (l0_0.length : Int)
      · rw [if_pos c5] at H; have c5b0 : decide (x10_1 < (l0_0.length : Int)) = true := decide_eq_true c5; clear c5; by_cases c6 : 0 ≤ x10_1
        · rw [if_pos c6] at H; have c6b0 : decide (0 ≤ x10_1) = true := decide_eq_true c6; clear c6; by_cases c7 : x10_1 < (l0_0.length : Int)
          · rw [if_pos c7] at H; have c7b0 : decide (x10_1 < (l0_0.length : Int)) = true := decide_eq_true c7; clear c7; by_cases c8 : ((rd_T76 l0_0 x10_1).f0).toList = a1.toList
            · rw [if_pos c8] at H; have c8b0 : (((rd_T76 l0_0 x10_1).f0).toList == a1.toList) = true := beq_iff_eq.mpr c8; have c8b1 : (((rd_T76 l0_0 x10_1).f0).toList != a1.toList) = false := bne_eq_false_iff_eq.mpr c8; clear c8; obtain rfl := Option.some.inj H; have p133 : 0 ≤ (x10_1 : Int) := of_decide_eq_true qa; have q133 : x10_1 < (l0_0.length : Int) := of_decide_eq_true qa; obtain ⟨ad133, e133, hx133_0, hx133_1, hx133_2⟩ := at_T76 HR0_0.out x10_1 p133 q133; cases e133; replace hx133_0 := (HB.out.cell (World.block_lt_of_cell? w _ hx133_0)).trans hx133_0; replace hx133_1 := (HB.out.cell (World.block_lt_of_cell? w _ hx133_1)).trans hx133_1; replace hx133_2 := (HB.out.cell (World.block_lt_of_cell? w _ hx133_2)).trans hx133_2; replace p133 := eq_true p133; replace q133 := eq_true q133; go_wp2_with (first | ((with_reducible refine gds (N := 6) rfl ?_); refine qbx 6 #[.string (⟨#[]⟩ : ByteArray), .string (⟨#[]⟩ : ByteArray), .int .i64 0] 76 ?_; intro gb134 hg w9 hbox hb; have BK134 := qK (hbox); have GW134 := qK ((qW : w.heap.size ≤ gb134)); have GE134 := GW134; replace HB := qHB HB hb; have NB132_134 := qK (qlt BK132 hg); have NB134_132 := qK (qgt BK132 hg); replace BK132 := qbb BK132 hb; clear hb hbox hg; have hnb10 := NB134_132.out; have hnc10 := NB132_134.out; have hz11 := qz3 BK134.out)); go_ret; exact ⟨qR, qB⟩
            · rw [if_neg c8] at H; have c8b0 : (((rd_T76 l0_0 x10_1).f0).toList == a1.toList) = false := beq_eq_false_iff_ne.mpr c8; have c8b1 : (((rd_T76 l0_0 x10_1).f0).toList != a1.toList) = true := bne_iff_ne.mpr c8; have H' := qK H; clear H; have p133 : 0 ≤ (x10_1 : Int) := of_decide_eq_true qa; have q133 : x10_1 < (l0_0.length : Int) := of_decide_eq_true qa; obtain ⟨ad133, e133, hx133_0, hx133_1, hx133_2⟩ := at_T76 HR0_0.out x10_1 p133 q133; cases e133; replace hx133_0 := (HB.out.cell (World.block_lt_of_cell? w _ hx133_0)).trans hx133_0; replace hx133_1 := (HB.out.cell (World.block_lt_of_cell? w _ hx133_1)).trans hx133_1; replace hx133_2 := (HB.out.cell (World.block_lt_of_cell? w _ hx133_2)).trans hx133_2; replace p133 := eq_true p133; replace q133 := eq_true q133; go_wp2_with (first | ((with_reducible refine gds (N := 6) rfl ?_); refine qbx 6 #[.string (⟨#[]⟩ : ByteArray), .string (⟨#[]⟩ : ByteArray), .int .i64 0] 76 ?_; intro gb134 hg w12 hbox hb; have BK134 := qK (hbox); have GW134 := qK ((qW : w.heap.size ≤ gb134)); have GE134 := GW134; replace HB := qHB HB hb; have NB132_134 := qK (qlt BK132 hg); have NB134_132 := qK (qgt BK132 hg); replace BK132 := qbb BK132 hb; clear hb hbox hg; have hnb13 := NB134_132.out; have hnc13 := NB132_134.out; have hz14 := qz3 BK134.out)); go_roundg k1
              case measure => have := HK1.out; omega
              case rel => exact ⟨(wrap64 (x10_1 + 1)), qS, H', ⟨by have := HK1.out; omega⟩, ⟨by (with_reducible repeat (first | refine bdN ?_ _ | refine bkD ?_ | refine bkA ?_ _)); refine bfa ?_ NB132_134.out _; (with_reducible repeat (first | refine bdN ?_ _ | refine bkD ?_ | refine bkA ?_ _)); refine bfa ?_ NB132_134.out _; (with_reducible repeat (first | refine bdN ?_ _ | refine bkD ?_ | refine bkA ?_ _)); refine bfa ?_ NB132_134.out _; (with_reducible repeat (first | refine bdN ?_ _ | refine bkD ?_ | refine bkA ?_ _)); exact BK132.out⟩, ⟨qB⟩⟩
          · rw [if_neg c7] at H; exact absurd H (by simp)
        · rw [if_neg c6] at H; exact absurd H (by simp)
      · rw [if_neg c5] at H; have c5b0 : decide (x10_1 < (l0_0.length : Int)) = false := decide_eq_false c5; clear c5; obtain rfl := Option.some.inj H; go_wp2; go_ret; exact ⟨qR, qB⟩
mutual
def spec_l6With.l0 : Nat → ByteArray → List (S76) → Bool → List (S76) → Int → Int → ByteArray → ByteArray → Int → Option ((List (S76)))
  | 0, _, _, _, _, _, _, _, _, _ => none
  | k + 1, x1, x7, x8, x15, x16, x17, x136000, x136001, x136002 => if x17 < x16 then (if 0 ≤ x17 then (if x17 < (x15.length : Int) then (if x8 = true then (spec_l6With.j1 k x1 x7 x8 x15 x16 x17 false x136000 x136001 x136002 ((rd_T76 x15 x17).f0) ((rd_T76 x15 x17).f1) ((rd_T76 x15 x17).f2)) else (spec_l6With.j1 k x1 x7 x8 x15 x16 x17 (Op.bytesLess x136000.toList (((rd_T76 x15 x17).f0).toList)) x136000 x136001 x136002 ((rd_T76 x15 x17).f0) ((rd_T76 x15 x17).f1) ((rd_T76 x15 x17).f2))) else (none)) else (none)) else (if x8 = true then (some x7) else (if x7.length < 3518437208883 then (some (x7 ++ [(⟨x136000, x136001, x136002⟩ : S76)])) else (none)))
def spec_l6With.j1 : Nat → ByteArray → List (S76) → Bool → List (S76) → Int → Int → Bool → ByteArray → ByteArray → Int → ByteArray → ByteArray → Int → Option ((List (S76)))
  | 0, _, _, _, _, _, _, _, _, _, _, _, _, _ => none
  | k + 1, x1, x7, x8, x15, x16, x17, x29, x136000, x136001, x136002, x144000, x144001, x144002 => if x29 = true then (if x7.length < 3518437208883 then ((some (x7 ++ [(⟨x136000, x136001, x136002⟩ : S76)] : List (S76))).bind fun y144 => (if x144000.toList = x1.toList then (spec_l6With.l0 k x1 y144 true x15 x16 (wrap64 (x17 + 1)) x136000 x136001 x136002) else (if y144.length < 3518437208883 then (spec_l6With.l0 k x1 (y144 ++ [(⟨x144000, x144001, x144002⟩ : S76)]) true x15 x16 (wrap64 (x17 + 1)) x136000 x136001 x136002) else (none)))) else (none)) else (if x144000.toList = x1.toList then (spec_l6With.l0 k x1 x7 x8 x15 x16 (wrap64 (x17 + 1)) x136000 x136001 x136002) else (if x7.length < 3518437208883 then (spec_l6With.l0 k x1 (x7 ++ [(⟨x144000, x144001, x144002⟩ : S76)]) x8 x15 x16 (wrap64 (x17 + 1)) x136000 x136001 x136002) else (none)))
end
def spec_l6With.f (k : Nat) (l0 : List (S76)) (a1 : ByteArray) (a2_0 : ByteArray) (a2_1 : ByteArray) (a2_2 : Int) : Option ((List (S76))) := spec_l6With.l0 k a1 (([] : List (S76))) (a2_0.toList == ([] : List UInt8)) l0 (l0.length : Int) 0 a2_0 a2_1 a2_2
theorem spec_l6With.mono_l : ∀ k, (∀ y0 y1 y2 y3 y4 y5 y6 y7 y8, LeO (spec_l6With.l0 k y0 y1 y2 y3 y4 y5 y6 y7 y8) (spec_l6With.l0 (k + 1) y0 y1 y2 y3 y4 y5 y6 y7 y8)) ∧ (∀ y0 y1 y2 y3 y4 y5 y6 y7 y8 y9 y10 y11 y12, LeO (spec_l6With.j1 k y0 y1 y2 y3 y4 y5 y6 y7 y8 y9 y10 y11 y12) (spec_l6With.j1 (k + 1) y0 y1 y2 y3 y4 y5 y6 y7 y8 y9 y10 y11 y12))
  | 0 => ⟨fun _ _ _ _ _ _ _ _ _ r h => by simp [spec_l6With.l0] at h, fun _ _ _ _ _ _ _ _ _ _ _ _ _ r h => by simp [spec_l6With.j1] at h⟩
  | k + 1 => by
    obtain ⟨ih0, ih1⟩ := spec_l6With.mono_l k
    refine ⟨?_, ?_⟩
    · intro y0 y1 y2 y3 y4 y5 y6 y7 y8
      unfold spec_l6With.l0
      repeat' first
      | (with_reducible exact ih0 _ _ _ _ _ _ _ _ _)
      | (with_reducible exact ih1 _ _ _ _ _ _ _ _ _ _ _ _ _)
      | (with_reducible exact LeO.refl _)
      | (with_reducible exact LeO.none _)
      | (with_reducible refine LeO.ite ?_ ?_)
      | (with_reducible refine LeO.bind ?_ (fun _ => ?_))
      | exact ih0 _ _ _ _ _ _ _ _ _
      | exact ih1 _ _ _ _ _ _ _ _ _ _ _ _ _
      | exact LeO.none _
      | refine LeO.ite ?_ ?_
      | refine LeO.bind ?_ (fun _ => ?_)
    · intro y0 y1 y2 y3 y4 y5 y6 y7 y8 y9 y10 y11 y12
      unfold spec_l6With.j1
      repeat' first
      | (with_reducible exact ih0 _ _ _ _ _ _ _ _ _)
      | (with_reducible exact ih1 _ _ _ _ _ _ _ _ _ _ _ _ _)
      | (with_reducible exact LeO.refl _)
      | (with_reducible exact LeO.none _)
      | (with_reducible refine LeO.ite ?_ ?_)
      | (with_reducible refine LeO.bind ?_ (fun _ => ?_))
      | exact ih0 _ _ _ _ _ _ _ _ _
      | exact ih1 _ _ _ _ _ _ _ _ _ _ _ _ _
      | exact LeO.none _
      | refine LeO.ite ?_ ?_
      | refine LeO.bind ?_ (fun _ => ?_)
theorem spec_l6With.mono : ∀ a0 a1 a2 a3 a4 k, LeO (spec_l6With.f k a0 a1 a2 a3 a4) (spec_l6With.f (k + 1) a0 a1 a2 a3 a4) := by
  intro a0 a1 a2 a3 a4 k
  obtain ⟨ih0, ih1⟩ := spec_l6With.mono_l k
  unfold spec_l6With.f
  repeat' first
      | (with_reducible exact ih0 _ _ _ _ _ _ _ _ _)
      | (with_reducible exact ih1 _ _ _ _ _ _ _ _ _ _ _ _ _)
      | (with_reducible exact LeO.refl _)
      | (with_reducible exact LeO.none _)
      | (with_reducible refine LeO.ite ?_ ?_)
      | (with_reducible refine LeO.bind ?_ (fun _ => ?_))
      | exact ih0 _ _ _ _ _ _ _ _ _
      | exact ih1 _ _ _ _ _ _ _ _ _ _ _ _ _
      | exact LeO.none _
      | refine LeO.ite ?_ ?_
      | refine LeO.bind ?_ (fun _ => ?_)
set_option maxHeartbeats 8000000 in
set_option maxRecDepth 100000 in
theorem spec_l6With.calls (k : Nat) (A0 : Option Addr) (c0 : Nat) (l0 : List (S76)) (a1 : ByteArray) (a2_0 : ByteArray) (a2_1 : ByteArray) (a2_2 : Int) (r : List (S76)) (w : World) (hr0 : Kd.C k76 w A0 l0.length l0) (hc0 : l0.length ≤ c0) (h : spec_l6With.f k l0 a1 a2_0 a2_1 a2_2 = some r) :
    Calls Try.prog 50 #[.slice A0 l0.length c0, .string a1, .agg #[.string a2_0, .string a2_1, .int .i64 a2_2]] w fun e w' => ∃ v0_ : Value, e = .returned (v0_) ∧ Kd.R k76 76 w' w.heap.size (fun _ => True) v0_ r ∧ Below w.heap.size w w' := by
  have hu76 := Try.underlying76; have HR0 := qK hr0; have HC0 := qK hc0; clear hr0 hc0; have HB := qK (Below.refl w.heap.size w); have H : (spec_l6With.l0 k a1 (([] : List (S76))) (a2_0.toList == ([] : List UInt8)) l0 (l0.length : Int) 0 a2_0 a2_1 a2_2) = some r := h; clear h; obtain ⟨y136, hy136⟩ : ∃ y_ : List (S76), y_ = (([] : List (S76))) := ⟨_, rfl⟩; (replace H : (spec_l6With.l0 k a1 y136 (a2_0.toList == ([] : List UInt8)) l0 (l0.length : Int) 0 a2_0 a2_1 a2_2) = some r := by first | (rw [hy136]; with_reducible exact H) | (have H2_ := (Option.bind_some _ _).symm.trans H; rw [hy136]; with_reducible exact H2_) | (have H2_ := (Option.bind_some _ _).symm.trans H; with_reducible exact H2_) | with_reducible exact H | (rw [hy136]; exact H) | exact H); have Ny136 := qK hy136; clear hy136; have H' := qK H; clear H; go_enter Try.func50, Try.ntmps50; go_wp2_with (first | ((with_reducible refine gds (N := 5) rfl ?_); refine qbx 5 #[.string a2_0, .string a2_1, .int .i64 a2_2] 76 ?_; intro gb135 hg w4 hbox hb; have BK135 := qK (hbox); have GW135 := qK ((qW : w.heap.size ≤ gb135)); have GE135 := GW135; replace HB := qHB HB hb; clear hb hbox hg) | ((with_reducible refine gds (N := 11) rfl ?_); refine Kd.R_lit k76 _ 76 ?hg (N := 11) ?hd (xs := ([] : List (S76))) (inner := []) (ok := fun _ => True) (okp := fun _ => True) ?hr ?hp (fun _ hk => hk) trivial (Below.refl _ _) (Nat.le_refl _) (by simp) ?_; (case hd => rfl); (case hg => rfl); (case hr => first | (go_simp; done) | (go_simp; rfl)); (case hp => exact (Reps.none _ _)); intro v137 w5 ho6 hb hg_ hnew_; clear hg_ hnew_; (first | rw [← Ny136.out] at ho6 | (simp only [Int.reduceToNat] at ho6; rw [← Ny136.out] at ho6)); have HO138 := qK (Kd.Rlo (Kd.R_newB ho6 (qpk BK135)) (bsz qB)); replace BK135 := qbb BK135 hb; replace HB := qHB HB hb; clear hb ho6; have hz7 := qz3 BK135.out)); go_loopg [7, 8, 17] k (fun kq v7 v8 v17 w' => ∃ (x7_1 : List (S76)) (x8_1 : Bool) (x17_1 : Int), v8 = .bool x8_1 ∧ v17 = .int .i64 x17_1 ∧ Aside0 (spec_l6With.l0 kq a1 x7_1 x8_1 l0 (l0.length : Int) x17_1 a2_0 a2_1 a2_2 = some r) ∧ Aside0 (kq ≤ k) ∧ Aside0 (Kd.R k76 76 w' w.heap.size (fun k_ => k_ ≠ gb135) v7 x7_1) ∧ Aside0 (w'.heap[gb135]? = some (.cells #[.string a2_0, .string a2_1, .int .i64 a2_2] 76 (0, 0))) ∧ Aside0 (Below w.heap.size w w'))
  case atStart => exact ⟨(y136), ((a2_0.toList == ([] : List UInt8))), (0), qS, qS, H', ⟨Nat.le_refl _⟩, ⟨by (with_reducible repeat (first | apply Kd.Ral | apply Kd.RdN | apply Kd.Rdr)); exact Kd.Rmo HO138.out (fun _ hk => hk.2)⟩, ⟨by (with_reducible repeat (first | refine bdN ?_ _ | refine bkD ?_ | refine bkA ?_ _)); exact BK135.out⟩, ⟨qB⟩⟩
  case round =>
    clear H'; (try clear p2); (try clear c5); (try clear hz7); obtain ⟨x7_1, x8_1, x17_1, rfl, rfl, HA, HK1, HO_7, BK135, HB⟩ := hrel
    cases gk with
    | zero => exact absurd HA.out (by simp [spec_l6With.l0])
    | succ k1 =>
      have H := HA.out; clear HA; simp only [spec_l6With.l0] at H; by_cases c8 : x17_1 < (l0.length : Int)
      · rw [if_pos c8] at H; have c8b0 : decide (x17_1 < (l0.length : Int)) = true := decide_eq_true c8; clear c8; by_cases c9 : 0 ≤ x17_1
        · rw [if_pos c9] at H; have c9b0 : decide (0 ≤ x17_1) = true := decide_eq_true c9; clear c9; by_cases c10 : x17_1 < (l0.length : Int)
          · rw [if_pos c10] at H; have c10b0 : decide (x17_1 < (l0.length : Int)) = true := decide_eq_true c10; clear c10; have HC11 := qK H; clear H; have p142 : 0 ≤ (x17_1 : Int) := of_decide_eq_true qa; have q142 : x17_1 < (l0.length : Int) := of_decide_eq_true qa; obtain ⟨ad142, e142, hx142_0, hx142_1, hx142_2⟩ := at_T76 HR0.out x17_1 p142 q142; cases e142; replace hx142_0 := (HB.out.cell (World.block_lt_of_cell? w _ hx142_0)).trans hx142_0; replace hx142_1 := (HB.out.cell (World.block_lt_of_cell? w _ hx142_1)).trans hx142_1; replace hx142_2 := (HB.out.cell (World.block_lt_of_cell? w _ hx142_2)).trans hx142_2; replace p142 := eq_true p142; replace q142 := eq_true q142; go_upto_region 6 with (first | ((with_reducible refine gds (N := 10) rfl ?_); refine qbx 10 #[.string (⟨#[]⟩ : ByteArray), .string (⟨#[]⟩ : ByteArray), .int .i64 0] 76 ?_; intro gb143 hg w12 hbox hb; replace HO_7 := qK (Kd.Rbe (Kd.R_elderB (qRb HO_7) gb143 (Nat.le_of_eq hg.symm)) hb); have BK143 := qK (hbox); have GW143 := qK ((qW : w.heap.size ≤ gb143)); have GE143 := GW143; replace HB := qHB HB hb; have NB135_143 := qK (qlt BK135 hg); have NB143_135 := qK (qgt BK135 hg); replace BK135 := qbb BK135 hb; clear hb hbox hg; have hnb13 := NB143_135.out; have hnc13 := NB135_143.out; have hz14 := qz3 BK143.out)); (try simp only [Act.put, List.setIfInBounds_toArray, List.set_cons_zero, List.set_cons_succ]); go_cut [29] (fun v29 wc => ∃ (kq : Nat) (x29_10 : Bool), v29 = .bool x29_10 ∧ Aside0 (spec_l6With.j1 kq a1 x7_1 x8_1 l0 (l0.length : Int) x17_1 x29_10 a2_0 a2_1 a2_2 ((rd_T76 l0 x17_1).f0) ((rd_T76 l0 x17_1).f1) ((rd_T76 l0 x17_1).f2) = some r) ∧ Aside0 (kq ≤ k1) ∧ Aside0 (Kd.R k76 76 wc w.heap.size (fun k_ => k_ ≠ gb135 ∧ k_ ≠ gb143) u7 x7_1) ∧ Aside0 (wc.heap[gb135]? = some (.cells #[.string a2_0, .string a2_1, .int .i64 a2_2] 76 (0, 0))) ∧ Aside0 (wc.heap[gb143]? = some (.cells #[.string ((rd_T76 l0 x17_1).f0), .string ((rd_T76 l0 x17_1).f1), .int .i64 ((rd_T76 l0 x17_1).f2)] 76 (0, 0))) ∧ Aside0 (Below w.heap.size w wc))
            case first =>
              have H := HC11.out; clear HC11; by_cases c15 : x8_1 = true
              · subst c15; rw [if_pos rfl] at H; have H' := qK H; clear H; go_wp2; go_meet
                case rel => exact ⟨_, (false), qS, H', ⟨by have := HK1.out; first | omega | exact Nat.le_refl _⟩, ⟨by (with_reducible repeat (first | apply Kd.Ral | apply Kd.RdN | apply Kd.Rdr)); exact Kd.Rmo (Kd.Rfa (p := ⟨gb143, 2, none⟩) (Kd.Rfa (p := ⟨gb143, 1, none⟩) (Kd.Rfa (p := ⟨gb143, 0, none⟩) (Kd.Rmo HO_7.out (fun k_ hk => (⟨hk, hk.2⟩ : _ ∧ k_ ≠ gb143))) (fun _ hk => hk.2) (.string ((rd_T76 l0 x17_1).f0))) (fun _ hk => hk.2) (.string ((rd_T76 l0 x17_1).f1))) (fun _ hk => hk.2) (.int .i64 ((rd_T76 l0 x17_1).f2))) (fun _ hk => by first | exact ⟨hk.1.1, hk.1.2⟩ | exact ⟨hk.1.2, hk.2⟩ | exact ⟨hk.1.1, hk.2⟩ | exact ⟨hk.1.1, hk.1.2⟩ | exact ⟨hk.2, hk.1.1⟩ | exact ⟨hk.1.2, hk.1.1⟩ | exact ⟨hk.2, hk.1.2⟩)⟩, ⟨by (with_reducible repeat (first | refine bdN ?_ _ | refine bkD ?_ | refine bkA ?_ _)); refine bfa ?_ NB135_143.out _; (with_reducible repeat (first | refine bdN ?_ _ | refine bkD ?_ | refine bkA ?_ _)); refine bfa ?_ NB135_143.out _; (with_reducible repeat (first | refine bdN ?_ _ | refine bkD ?_ | refine bkA ?_ _)); refine bfa ?_ NB135_143.out _; (with_reducible repeat (first | refine bdN ?_ _ | refine bkD ?_ | refine bkA ?_ _)); exact BK135.out⟩, ⟨by (with_reducible repeat (first | refine bdN ?_ _ | refine bkD ?_ | refine bkA ?_ _)); refine bpu (cs := #[.string ((rd_T76 l0 x17_1).f0), .string ((rd_T76 l0 x17_1).f1), .int .i64 0]) ?_ 2 _ rfl; (with_reducible repeat (first | refine bdN ?_ _ | refine bkD ?_ | refine bkA ?_ _)); refine bpu (cs := #[.string ((rd_T76 l0 x17_1).f0), .string (⟨#[]⟩ : ByteArray), .int .i64 0]) ?_ 1 _ rfl; (with_reducible repeat (first | refine bdN ?_ _ | refine bkD ?_ | refine bkA ?_ _)); refine bpu (cs := #[.string (⟨#[]⟩ : ByteArray), .string (⟨#[]⟩ : ByteArray), .int .i64 0]) ?_ 0 _ rfl; (with_reducible repeat (first | refine bdN ?_ _ | refine bkD ?_ | refine bkA ?_ _)); exact BK143.out⟩, ⟨qB⟩⟩
              · replace c15 := Bool.eq_false_iff.mpr c15; subst c15; rw [if_neg qff] at H; have H' := qK H; clear H; have hnb16 := NB135_143.out; have hnc16 := NB143_135.out; have hz17 := qz3 BK135.out; obtain ⟨hcz18_0, hcz18_1, hcz18_2⟩ := zC3 BK143.out; obtain ⟨hfz18_0, hfz18_1, hfz18_2⟩ := zF3 BK143.out; go_wp2; go_meet
                case rel => exact ⟨_, ((Op.bytesLess a2_0.toList (((rd_T76 l0 x17_1).f0).toList))), qS, H', ⟨by have := HK1.out; first | omega | exact Nat.le_refl _⟩, ⟨by (with_reducible repeat (first | apply Kd.Ral | apply Kd.RdN | apply Kd.Rdr)); exact Kd.Rmo (Kd.Rfa (p := ⟨gb143, 2, none⟩) (Kd.Rfa (p := ⟨gb143, 1, none⟩) (Kd.Rfa (p := ⟨gb143, 0, none⟩) (Kd.Rmo HO_7.out (fun k_ hk => (⟨hk, hk.2⟩ : _ ∧ k_ ≠ gb143))) (fun _ hk => hk.2) (.string ((rd_T76 l0 x17_1).f0))) (fun _ hk => hk.2) (.string ((rd_T76 l0 x17_1).f1))) (fun _ hk => hk.2) (.int .i64 ((rd_T76 l0 x17_1).f2))) (fun _ hk => by first | exact ⟨hk.1.1, hk.1.2⟩ | exact ⟨hk.1.2, hk.2⟩ | exact ⟨hk.1.1, hk.2⟩ | exact ⟨hk.1.1, hk.1.2⟩ | exact ⟨hk.2, hk.1.1⟩ | exact ⟨hk.1.2, hk.1.1⟩ | exact ⟨hk.2, hk.1.2⟩)⟩, ⟨by (with_reducible repeat (first | refine bdN ?_ _ | refine bkD ?_ | refine bkA ?_ _)); refine bfa ?_ NB135_143.out _; (with_reducible repeat (first | refine bdN ?_ _ | refine bkD ?_ | refine bkA ?_ _)); refine bfa ?_ NB135_143.out _; (with_reducible repeat (first | refine bdN ?_ _ | refine bkD ?_ | refine bkA ?_ _)); refine bfa ?_ NB135_143.out _; (with_reducible repeat (first | refine bdN ?_ _ | refine bkD ?_ | refine bkA ?_ _)); exact BK135.out⟩, ⟨by (with_reducible repeat (first | refine bdN ?_ _ | refine bkD ?_ | refine bkA ?_ _)); refine bpu (cs := #[.string ((rd_T76 l0 x17_1).f0), .string ((rd_T76 l0 x17_1).f1), .int .i64 0]) ?_ 2 _ rfl; (with_reducible repeat (first | refine bdN ?_ _ | refine bkD ?_ | refine bkA ?_ _)); refine bpu (cs := #[.string ((rd_T76 l0 x17_1).f0), .string (⟨#[]⟩ : ByteArray), .int .i64 0]) ?_ 1 _ rfl; (with_reducible repeat (first | refine bdN ?_ _ | refine bkD ?_ | refine bkA ?_ _)); refine bpu (cs := #[.string (⟨#[]⟩ : ByteArray), .string (⟨#[]⟩ : ByteArray), .int .i64 0]) ?_ 0 _ rfl; (with_reducible repeat (first | refine bdN ?_ _ | refine bkD ?_ | refine bkA ?_ _)); exact BK143.out⟩, ⟨qB⟩⟩
            case rest =>
              clear HC11; (try clear c1); (try clear p1); (try clear q1); (try clear hx1); (try clear p2); (try clear c5); (try clear c8); (try clear c8b0); (try clear c9); (try clear c9b0); (try clear c10); (try clear c10b0); (try clear c13); (try clear p14); (try clear q14); (try clear hx14); (try clear c15); (try clear c16); (try clear hz14); (try clear hz17); (try clear hcz18_0); (try clear hcz18_1); (try clear hcz18_2); (try clear hz7); (try clear hfz18_0); (try clear hfz18_1); (try clear hfz18_2); (try clear hx142_0); (try clear hx142_1); (try clear hx142_2); (try clear p142); (try clear q142); obtain ⟨kq, x29_10, rfl, HA, HJ10, HO_7, BK135, BK143, HB⟩ := hcut
              cases kq with
              | zero => exact absurd HA.out (by simp [spec_l6With.j1])
              | succ kj10 =>
                have H := HA.out; clear HA; simp only [spec_l6With.j1] at H; by_cases c19 : x29_10 = true
                · subst c19; rw [if_pos rfl] at H; by_cases c20 : x7_1.length < 3518437208883
                  · rw [if_pos c20] at H; have LMc20 := qK c20; clear c20; obtain ⟨y144, hy144⟩ : ∃ y_ : List (S76), y_ = (x7_1 ++ [(⟨a2_0, a2_1, a2_2⟩ : S76)]) := ⟨_, rfl⟩; (replace H : (if ((rd_T76 l0 x17_1).f0).toList = a1.toList then (spec_l6With.l0 kj10 a1 y144 true l0 (l0.length : Int) (wrap64 (x17_1 + 1)) a2_0 a2_1 a2_2) else (if y144.length < 3518437208883 then (spec_l6With.l0 kj10 a1 (y144 ++ [(⟨((rd_T76 l0 x17_1).f0), ((rd_T76 l0 x17_1).f1), ((rd_T76 l0 x17_1).f2)⟩ : S76)]) true l0 (l0.length : Int) (wrap64 (x17_1 + 1)) a2_0 a2_1 a2_2) else (none))) = some r := by first | (rw [hy144]; with_reducible exact H) | (have H2_ := (Option.bind_some _ _).symm.trans H; rw [hy144]; with_reducible exact H2_) | (have H2_ := (Option.bind_some _ _).symm.trans H; with_reducible exact H2_) | with_reducible exact H | (rw [hy144]; exact H) | exact H); have Ny144 := qK hy144; clear hy144; by_cases c21 : ((rd_T76 l0 x17_1).f0).toList = a1.toList
                    · rw [if_pos c21] at H; have c21b0 : (((rd_T76 l0 x17_1).f0).toList == a1.toList) = true := beq_iff_eq.mpr c21; have c21b1 : (((rd_T76 l0 x17_1).f0).toList != a1.toList) = false := bne_eq_false_iff_eq.mpr c21; clear c21; have H' := qK H; clear H; have hnb22 := NB135_143.out; have hnc22 := NB143_135.out; obtain ⟨hcz23_0, hcz23_1, hcz23_2⟩ := zC3 BK135.out; obtain ⟨hfz23_0, hfz23_1, hfz23_2⟩ := zF3 BK135.out; go_wp2_with (first | ((with_reducible refine gbu (b := .append) (xs := #[.tmp 30, .tmp 32]) rfl ?_); at_builtin; refine Kd.R_append k76 (w0 := w) w.heap.size rfl (.tmp 30) (.tmp 32) 29 76 (.agg #[(.string ⟨#[]⟩), (.string ⟨#[]⟩), (.int .i64 0)]) 40 rfl Try.underlying29 info76 rfl (by decide) (by omega) u7 x7_1 (⟨a2_0, a2_1, a2_2⟩ : S76) [.string a2_0, .string a2_1, .int .i64 a2_2] (fun k_ => k_ ≠ gb135 ∧ k_ ≠ gb143) (fun _ => False) rfl rfl ?aP (fun _ hk => hk.elim) ?aF ?aO ?aB ?aS ?aL ?_; (case aP => exact k76_mkM _ _ _ (⟨a2_0, a2_1, a2_2⟩ : S76)); (case aB => exact qB); (case aF => exact (fun k_ hk => ⟨Kd.freshB (qpk BK135) k_ hk, Kd.freshB (qpk BK143) k_ hk⟩)); (case aO => exact (qRb HO_7)); (case aS => exact (bsz qB)); (case aL => have := LMc20.out; omega); intro v145 w24 ho hb hg hat; rw [← Ny144.out] at ho; replace BK135 := qK (bgr (qpk BK135) hg (Kd.R_away HO_7.out (fun _ hk => hk.1))); replace BK143 := qK (bgr (qpk BK143) hg (Kd.R_away HO_7.out (fun _ hk => hk.2))); replace HB := qK (hb); have HO146 := qK (ho); clear HO_7; clear ho hb hg hat; have hz25 := qz3 BK143.out)); go_roundg kj10
                      case measure => have := HK1.out; have := HJ10.out; omega
                      case rel => exact ⟨(y144), (true), (wrap64 (x17_1 + 1)), qS, qS, H', ⟨by have := HK1.out; have := HJ10.out; omega⟩, ⟨by (with_reducible repeat (first | apply Kd.Ral | apply Kd.RdN | apply Kd.Rdr)); exact Kd.Rmo HO146.out (fun _ hk => hk.1)⟩, ⟨by (with_reducible repeat (first | refine bdN ?_ _ | refine bkD ?_ | refine bkA ?_ _)); exact BK135.out⟩, ⟨qB⟩⟩
                    · rw [if_neg c21] at H; have c21b0 : (((rd_T76 l0 x17_1).f0).toList == a1.toList) = false := beq_eq_false_iff_ne.mpr c21; have c21b1 : (((rd_T76 l0 x17_1).f0).toList != a1.toList) = true := bne_iff_ne.mpr c21; by_cases c26 : y144.length < 3518437208883
                      · rw [if_pos c26] at H; have LMc26 := qK c26; clear c26; obtain ⟨y147, hy147⟩ : ∃ y_ : List (S76), y_ = (y144 ++ [(⟨((rd_T76 l0 x17_1).f0), ((rd_T76 l0 x17_1).f1), ((rd_T76 l0 x17_1).f2)⟩ : S76)]) := ⟨_, rfl⟩; (replace H : (spec_l6With.l0 kj10 a1 y147 true l0 (l0.length : Int) (wrap64 (x17_1 + 1)) a2_0 a2_1 a2_2) = some r := by first | (rw [hy147]; with_reducible exact H) | (have H2_ := (Option.bind_some _ _).symm.trans H; rw [hy147]; with_reducible exact H2_) | (have H2_ := (Option.bind_some _ _).symm.trans H; with_reducible exact H2_) | with_reducible exact H | (rw [hy147]; exact H) | exact H); have Ny147 := qK hy147; clear hy147; have H' := qK H; clear H; have hnb27 := NB135_143.out; have hnc27 := NB143_135.out; obtain ⟨hcz28_0, hcz28_1, hcz28_2⟩ := zC3 BK135.out; obtain ⟨hfz28_0, hfz28_1, hfz28_2⟩ := zF3 BK135.out; go_wp2_with (first | ((with_reducible refine gbu (b := .append) (xs := #[.tmp 30, .tmp 32]) rfl ?_); at_builtin; refine Kd.R_append k76 (w0 := w) w.heap.size rfl (.tmp 30) (.tmp 32) 29 76 (.agg #[(.string ⟨#[]⟩), (.string ⟨#[]⟩), (.int .i64 0)]) 40 rfl Try.underlying29 info76 rfl (by decide) (by omega) u7 x7_1 (⟨a2_0, a2_1, a2_2⟩ : S76) [.string a2_0, .string a2_1, .int .i64 a2_2] (fun k_ => k_ ≠ gb135 ∧ k_ ≠ gb143) (fun _ => False) rfl rfl ?aP (fun _ hk => hk.elim) ?aF ?aO ?aB ?aS ?aL ?_; (case aP => exact k76_mkM _ _ _ (⟨a2_0, a2_1, a2_2⟩ : S76)); (case aB => exact qB); (case aF => exact (fun k_ hk => ⟨Kd.freshB (qpk BK135) k_ hk, Kd.freshB (qpk BK143) k_ hk⟩)); (case aO => exact (qRb HO_7)); (case aS => exact (bsz qB)); (case aL => have := LMc20.out; omega); intro v145 w29 ho hb hg hat; rw [← Ny144.out] at ho; replace BK135 := qK (bgr (qpk BK135) hg (Kd.R_away HO_7.out (fun _ hk => hk.1))); replace BK143 := qK (bgr (qpk BK143) hg (Kd.R_away HO_7.out (fun _ hk => hk.2))); replace HB := qK (hb); have HO146 := qK (ho); clear HO_7; clear ho hb hg hat; have hz30 := qz3 BK143.out) | ((with_reducible refine gbu (b := .append) (xs := #[.tmp 38, .tmp 40]) rfl ?_); at_builtin; refine Kd.R_append k76 (w0 := w) w.heap.size rfl (.tmp 38) (.tmp 40) 29 76 (.agg #[(.string ⟨#[]⟩), (.string ⟨#[]⟩), (.int .i64 0)]) 40 rfl Try.underlying29 info76 rfl (by decide) (by omega) v145 y144 (⟨((rd_T76 l0 x17_1).f0), ((rd_T76 l0 x17_1).f1), ((rd_T76 l0 x17_1).f2)⟩ : S76) [.string ((rd_T76 l0 x17_1).f0), .string ((rd_T76 l0 x17_1).f1), .int .i64 ((rd_T76 l0 x17_1).f2)] (fun k_ => k_ ≠ gb135 ∧ k_ ≠ gb143) (fun _ => False) rfl rfl ?aP (fun _ hk => hk.elim) ?aF ?aO ?aB ?aS ?aL ?_; (case aP => exact k76_mkM _ _ _ (⟨((rd_T76 l0 x17_1).f0), ((rd_T76 l0 x17_1).f1), ((rd_T76 l0 x17_1).f2)⟩ : S76)); (case aB => exact qB); (case aF => exact (fun k_ hk => ⟨Kd.freshB (qpk BK135) k_ hk, Kd.freshB (qpk BK143) k_ hk⟩)); (case aO => exact (qRb HO146)); (case aS => exact (bsz qB)); (case aL => have := LMc26.out; omega); intro v148 w31 ho hb hg hat; rw [← Ny147.out] at ho; replace BK135 := qK (bgr (qpk BK135) hg (Kd.R_away HO146.out (fun _ hk => hk.1))); replace BK143 := qK (bgr (qpk BK143) hg (Kd.R_away HO146.out (fun _ hk => hk.2))); replace HB := qK (hb); have HO149 := qK (ho); clear HO146; clear ho hb hg hat)); go_roundg kj10
                        case measure => have := HK1.out; have := HJ10.out; omega
                        case rel => exact ⟨(y147), (true), (wrap64 (x17_1 + 1)), qS, qS, H', ⟨by have := HK1.out; have := HJ10.out; omega⟩, ⟨by (with_reducible repeat (first | apply Kd.Ral | apply Kd.RdN | apply Kd.Rdr)); exact Kd.Rmo HO149.out (fun _ hk => hk.1)⟩, ⟨by (with_reducible repeat (first | refine bdN ?_ _ | refine bkD ?_ | refine bkA ?_ _)); exact BK135.out⟩, ⟨qB⟩⟩
                      · rw [if_neg c26] at H; exact absurd H (by simp)
                  · rw [if_neg c20] at H; exact absurd H (by simp)
                · replace c19 := Bool.eq_false_iff.mpr c19; subst c19; rw [if_neg qff] at H; by_cases c32 : ((rd_T76 l0 x17_1).f0).toList = a1.toList
                  · rw [if_pos c32] at H; have c32b0 : (((rd_T76 l0 x17_1).f0).toList == a1.toList) = true := beq_iff_eq.mpr c32; have c32b1 : (((rd_T76 l0 x17_1).f0).toList != a1.toList) = false := bne_eq_false_iff_eq.mpr c32; clear c32; have H' := qK H; clear H; have hnb33 := NB143_135.out; have hnc33 := NB135_143.out; obtain ⟨hcz34_0, hcz34_1, hcz34_2⟩ := zC3 BK143.out; obtain ⟨hfz34_0, hfz34_1, hfz34_2⟩ := zF3 BK143.out; go_wp2; go_roundg kj10
                    case measure => have := HK1.out; have := HJ10.out; omega
                    case rel => exact ⟨(x7_1), (x8_1), (wrap64 (x17_1 + 1)), qS, qS, H', ⟨by have := HK1.out; have := HJ10.out; omega⟩, ⟨by (with_reducible repeat (first | apply Kd.Ral | apply Kd.RdN | apply Kd.Rdr)); exact Kd.Rmo HO_7.out (fun _ hk => hk.1)⟩, ⟨by (with_reducible repeat (first | refine bdN ?_ _ | refine bkD ?_ | refine bkA ?_ _)); exact BK135.out⟩, ⟨qB⟩⟩
                  · rw [if_neg c32] at H; have c32b0 : (((rd_T76 l0 x17_1).f0).toList == a1.toList) = false := beq_eq_false_iff_ne.mpr c32; have c32b1 : (((rd_T76 l0 x17_1).f0).toList != a1.toList) = true := bne_iff_ne.mpr c32; by_cases c35 : x7_1.length < 3518437208883
                    · rw [if_pos c35] at H; have LMc35 := qK c35; clear c35; obtain ⟨y150, hy150⟩ : ∃ y_ : List (S76), y_ = (x7_1 ++ [(⟨((rd_T76 l0 x17_1).f0), ((rd_T76 l0 x17_1).f1), ((rd_T76 l0 x17_1).f2)⟩ : S76)]) := ⟨_, rfl⟩; (replace H : (spec_l6With.l0 kj10 a1 y150 x8_1 l0 (l0.length : Int) (wrap64 (x17_1 + 1)) a2_0 a2_1 a2_2) = some r := by first | (rw [hy150]; with_reducible exact H) | (have H2_ := (Option.bind_some _ _).symm.trans H; rw [hy150]; with_reducible exact H2_) | (have H2_ := (Option.bind_some _ _).symm.trans H; with_reducible exact H2_) | with_reducible exact H | (rw [hy150]; exact H) | exact H); have Ny150 := qK hy150; clear hy150; have H' := qK H; clear H; have hnb36 := NB143_135.out; have hnc36 := NB135_143.out; obtain ⟨hcz37_0, hcz37_1, hcz37_2⟩ := zC3 BK143.out; obtain ⟨hfz37_0, hfz37_1, hfz37_2⟩ := zF3 BK143.out; go_wp2_with (first | ((with_reducible refine gbu (b := .append) (xs := #[.tmp 38, .tmp 40]) rfl ?_); at_builtin; refine Kd.R_append k76 (w0 := w) w.heap.size rfl (.tmp 38) (.tmp 40) 29 76 (.agg #[(.string ⟨#[]⟩), (.string ⟨#[]⟩), (.int .i64 0)]) 40 rfl Try.underlying29 info76 rfl (by decide) (by omega) u7 x7_1 (⟨((rd_T76 l0 x17_1).f0), ((rd_T76 l0 x17_1).f1), ((rd_T76 l0 x17_1).f2)⟩ : S76) [.string ((rd_T76 l0 x17_1).f0), .string ((rd_T76 l0 x17_1).f1), .int .i64 ((rd_T76 l0 x17_1).f2)] (fun k_ => k_ ≠ gb135 ∧ k_ ≠ gb143) (fun _ => False) rfl rfl ?aP (fun _ hk => hk.elim) ?aF ?aO ?aB ?aS ?aL ?_; (case aP => exact k76_mkM _ _ _ (⟨((rd_T76 l0 x17_1).f0), ((rd_T76 l0 x17_1).f1), ((rd_T76 l0 x17_1).f2)⟩ : S76)); (case aB => exact qB); (case aF => exact (fun k_ hk => ⟨Kd.freshB (qpk BK135) k_ hk, Kd.freshB (qpk BK143) k_ hk⟩)); (case aO => exact (qRb HO_7)); (case aS => exact (bsz qB)); (case aL => have := LMc35.out; omega); intro v151 w38 ho hb hg hat; rw [← Ny150.out] at ho; replace BK135 := qK (bgr (qpk BK135) hg (Kd.R_away HO_7.out (fun _ hk => hk.1))); replace BK143 := qK (bgr (qpk BK143) hg (Kd.R_away HO_7.out (fun _ hk => hk.2))); replace HB := qK (hb); have HO152 := qK (ho); clear HO_7; clear ho hb hg hat)); go_roundg kj10
                      case measure => have := HK1.out; have := HJ10.out; omega
                      case rel => exact ⟨(y150), (x8_1), (wrap64 (x17_1 + 1)), qS, qS, H', ⟨by have := HK1.out; have := HJ10.out; omega⟩, ⟨by (with_reducible repeat (first | apply Kd.Ral | apply Kd.RdN | apply Kd.Rdr)); exact Kd.Rmo HO152.out (fun _ hk => hk.1)⟩, ⟨by (with_reducible repeat (first | refine bdN ?_ _ | refine bkD ?_ | refine bkA ?_ _)); exact BK135.out⟩, ⟨qB⟩⟩
                    · rw [if_neg c35] at H; exact absurd H (by simp)
          · rw [if_neg c10] at H; exact absurd H (by simp)
        · rw [if_neg c9] at H; exact absurd H (by simp)
      · rw [if_neg c8] at H; have c8b0 : decide (x17_1 < (l0.length : Int)) = false := decide_eq_false c8; clear c8; by_cases c39 : x8_1 = true
        · subst c39; rw [if_pos rfl] at H; obtain rfl := Option.some.inj H; go_wp2; go_ret; exact ⟨_, qR, by (with_reducible repeat (first | apply Kd.Ral | apply Kd.RdN | apply Kd.Rdr)); exact Kd.Rmo HO_7.out (fun _ hk => trivial), qB⟩
        · replace c39 := Bool.eq_false_iff.mpr c39; subst c39; rw [if_neg qff] at H; by_cases c40 : x7_1.length < 3518437208883
          · rw [if_pos c40] at H; have LMc40 := qK c40; clear c40; obtain ⟨y139, hy139⟩ : ∃ y_ : List (S76), y_ = (x7_1 ++ [(⟨a2_0, a2_1, a2_2⟩ : S76)]) := ⟨_, rfl⟩; (replace H : (some y139) = some r := by first | (rw [hy139]; with_reducible exact H) | (have H2_ := (Option.bind_some _ _).symm.trans H; rw [hy139]; with_reducible exact H2_) | (have H2_ := (Option.bind_some _ _).symm.trans H; with_reducible exact H2_) | with_reducible exact H | (rw [hy139]; exact H) | exact H); have Ny139 := qK hy139; clear hy139; obtain rfl := Option.some.inj H; obtain ⟨hcz41_0, hcz41_1, hcz41_2⟩ := zC3 BK135.out; obtain ⟨hfz41_0, hfz41_1, hfz41_2⟩ := zF3 BK135.out; go_wp2_with (first | ((with_reducible refine gbu (b := .append) (xs := #[.tmp 45, .tmp 47]) rfl ?_); at_builtin; refine Kd.R_append k76 (w0 := w) w.heap.size rfl (.tmp 45) (.tmp 47) 29 76 (.agg #[(.string ⟨#[]⟩), (.string ⟨#[]⟩), (.int .i64 0)]) 40 rfl Try.underlying29 info76 rfl (by decide) (by omega) u7 x7_1 (⟨a2_0, a2_1, a2_2⟩ : S76) [.string a2_0, .string a2_1, .int .i64 a2_2] (fun k_ => k_ ≠ gb135) (fun _ => False) rfl rfl ?aP (fun _ hk => hk.elim) ?aF ?aO ?aB ?aS ?aL ?_; (case aP => exact k76_mkM _ _ _ (⟨a2_0, a2_1, a2_2⟩ : S76)); (case aB => exact qB); (case aF => exact (fun k_ hk => Kd.freshB (qpk BK135) k_ hk)); (case aO => exact (qRb HO_7)); (case aS => exact (bsz qB)); (case aL => have := LMc40.out; omega); intro v140 w42 ho hb hg hat; rw [← Ny139.out] at ho; replace BK135 := qK (bgr (qpk BK135) hg (Kd.R_away HO_7.out (fun _ hk => hk))); replace HB := qK (hb); have HO141 := qK (ho); clear HO_7; clear ho hb hg hat)); go_ret; exact ⟨_, qR, by (with_reducible repeat (first | apply Kd.Ral | apply Kd.RdN | apply Kd.Rdr)); exact Kd.Rmo HO141.out (fun _ hk => trivial), qB⟩
          · rw [if_neg c40] at H; exact absurd H (by simp)
def spec_l6Do.f (k : Nat) (l0_0 : List (S76)) (a0_1 : Int) (a0_2 : Int) (a0_3 : Int) (a0_4 : Int) (a0_5 : Bool) (a1_0 : Int) (a1_1 : ByteArray) (a1_2 : ByteArray) (a1_3 : Int) : Option (List (S76) × Int) :=
  (spec_l6Find.f k l0_0 a0_1 a0_2 a0_3 a0_4 a0_5 a1_1).bind fun t =>
    if a1_0 = 1 then (if 0 ≤ t then some (l0_0, 15) else if l0_0.length = 300 then some (l0_0, 13) else (spec_l6With.f k l0_0 (⟨#[]⟩ : ByteArray) a1_1 (⟨#[]⟩ : ByteArray) 0).bind fun r => some (r, 0))
    else if t < 0 then some (l0_0, 14)
    else (l0_0[t.toNat]?).bind fun X =>
      if a1_0 = 2 then (spec_l6Bytes.f k l0_0 a0_1 a0_2 a0_3 a0_4 a0_5).bind fun n =>
        if 0 ≤ a0_1 - n ∧ a0_1 - n ≤ 1000000000 ∧ a1_2.size ≤ 1000000000 ∧ X.f1.size ≤ 1000000000 then
          (if (a0_1 - n).toNat < a1_2.size then (spec_l6With.f k l0_0 a1_1 X.f0 (X.f1 ++ a1_2.extract 0 (a0_1 - n).toNat) X.f2).bind fun r => some (r, 13)
           else (spec_l6With.f k l0_0 a1_1 X.f0 (X.f1 ++ a1_2) X.f2).bind fun r => some (r, 0))
        else none
      else if a1_0 = 3 then (spec_l6With.f k l0_0 a1_1 X.f0 X.f1 (X.f1.size : Int)).bind fun r => some (r, 0)
      else if a1_0 = 4 then (spec_l1Between.f a1_3 0 (X.f1.size : Int)).bind fun b =>
        if b = true then (if 0 ≤ a1_3 ∧ a1_3 ≤ (X.f1.size : Int) then (spec_l6With.f k l0_0 a1_1 X.f0 (X.f1.extract 0 a1_3.toNat) a1_3).bind fun r => some (r, 0) else none) else some (l0_0, 16)
      else if a1_0 = 5 then (spec_l6With.f k l0_0 a1_1 (⟨#[]⟩ : ByteArray) (⟨#[]⟩ : ByteArray) 0).bind fun r => some (r, 0)
      else none
theorem spec_l6Do.mono : ∀ a0 a1 a2 a3 a4 a5 a6 a7 a8 a9 k, LeO (spec_l6Do.f k a0 a1 a2 a3 a4 a5 a6 a7 a8 a9) (spec_l6Do.f (k + 1) a0 a1 a2 a3 a4 a5 a6 a7 a8 a9) := by
  intro a0 a1 a2 a3 a4 a5 a6 a7 a8 a9 k
  unfold spec_l6Do.f
  repeat' first
      | (with_reducible exact spec_l6Bytes.mono _ _ _ _ _ _ _)
      | (with_reducible exact spec_l6Find.mono _ _ _ _ _ _ _ _)
      | (with_reducible exact spec_l6With.mono _ _ _ _ _ _)
      | (with_reducible exact LeO.refl _)
      | (with_reducible exact LeO.none _)
      | (with_reducible refine LeO.ite ?_ ?_)
      | (with_reducible refine LeO.bind ?_ (fun _ => ?_))
theorem spec_l6Do.calls (k : Nat) (B : Nat) (u : Value) (l0_0 : List (S76)) (a0_1 : Int) (a0_2 : Int) (a0_3 : Int) (a0_4 : Int) (a0_5 : Bool) (a1_0 : Int) (a1_1 : ByteArray) (a1_2 : ByteArray) (a1_3 : Int) (l' : List (S76)) (code : Int) (w : World) (ho : Kd.R k76 76 w B (fun _ => True) u l0_0) (hB : B ≤ w.heap.size) (h : spec_l6Do.f k l0_0 a0_1 a0_2 a0_3 a0_4 a0_5 a1_0 a1_1 a1_2 a1_3 = some (l', code)) :
    Calls Try.prog 29 #[.agg #[u, .int .i64 a0_1, .int .i64 a0_2, .int .i64 a0_3, .int .i64 a0_4, .bool a0_5], .agg #[.int .i64 a1_0, .string a1_1, .string a1_2, .int .i64 a1_3]] w fun e w' => ∃ v' : Value, e = .returned (.tuple #[.agg #[v', .int .i64 a0_1, .int .i64 a0_2, .int .i64 a0_3, .int .i64 a0_4, .bool a0_5], .int .i64 code]) ∧ Kd.R k76 76 w' B (fun _ => True) v' l' ∧ Below w.heap.size w w' := by
  obtain ⟨A, c, rfl⟩ := Kd.R_slice ho
  obtain ⟨_, hc, hr⟩ := Kd.R_reads' ho
  unfold spec_l6Do.f at h
  replace h := Option.bind_eq_some_iff.mp h
  obtain ⟨t, ht, h⟩ := h
  have hfind := fun w' hr => spec_l6Find.calls k A c l0_0 a0_1 a0_2 a0_3 a0_4 a0_5 a1_1 t w' hr hc ht
  have hwith := fun nm f0 f1 f2 r hw w' hr => spec_l6With.calls k A c l0_0 nm f0 f1 f2 r w' hr hc hw
  by_cases k1 : a1_0 = 1
  · rw [if_pos k1] at h
    by_cases h0 : 0 ≤ t
    · rw [if_pos h0] at h
      simp only [Option.some.injEq, Prod.mk.injEq] at h
      obtain ⟨rfl, rfl⟩ := h
      exact (l6Do_exists A c l0_0 a0_1 a0_2 a0_3 a0_4 a0_5 a1_0 a1_1 a1_2 a1_3 w hr t hfind k1 h0).mono fun e w' hp => ⟨_, hp.1, Kd.Rbe ho hp.2, hp.2⟩
    · rw [if_neg h0] at h
      by_cases hl : l0_0.length = 300
      · rw [if_pos hl] at h
        simp only [Option.some.injEq, Prod.mk.injEq] at h
        obtain ⟨rfl, rfl⟩ := h
        exact (l6Do_full A c l0_0 a0_1 a0_2 a0_3 a0_4 a0_5 a1_0 a1_1 a1_2 a1_3 w hr t hfind k1 h0 hl).mono fun e w' hp => ⟨_, hp.1, Kd.Rbe ho hp.2, hp.2⟩
      · rw [if_neg hl] at h
        replace h := Option.bind_eq_some_iff.mp h
        obtain ⟨r, hw, h⟩ := h
        simp only [Option.some.injEq, Prod.mk.injEq] at h
        obtain ⟨rfl, rfl⟩ := h
        exact (l6Do_create A c l0_0 a0_1 a0_2 a0_3 a0_4 a0_5 a1_0 a1_1 a1_2 a1_3 w hr t hfind k1 h0 hl r (hwith _ _ _ _ _ hw)).mono fun e w' ⟨v', he, hR, hb⟩ => ⟨v', he, Kd.Rlo hR hB, hb⟩
  · rw [if_neg k1] at h
    by_cases h0 : t < 0
    · rw [if_pos h0] at h
      simp only [Option.some.injEq, Prod.mk.injEq] at h
      obtain ⟨rfl, rfl⟩ := h
      exact (l6Do_missing A c l0_0 a0_1 a0_2 a0_3 a0_4 a0_5 a1_0 a1_1 a1_2 a1_3 w hr t hfind k1 h0).mono fun e w' hp => ⟨_, hp.1, Kd.Rbe ho hp.2, hp.2⟩
    · rw [if_neg h0] at h
      obtain ⟨i, rfl⟩ : ∃ i : Nat, t = (i : Int) := ⟨t.toNat, by omega⟩
      rw [Int.toNat_natCast] at h
      replace h := Option.bind_eq_some_iff.mp h
      obtain ⟨X, hX, h⟩ := h
      have hi : i < l0_0.length := (List.getElem?_eq_some_iff.1 hX).1
      obtain ⟨g, c', hv, _⟩ := Kd.R_form ho (by omega)
      injection hv with hv1 hv2 hv3
      subst hv1
      have made : ∀ (l' : List (S76)) (code : Int), (Calls Try.prog 29 #[.agg #[.slice (some ⟨g, 0, none⟩) l0_0.length c, .int .i64 a0_1, .int .i64 a0_2, .int .i64 a0_3, .int .i64 a0_4, .bool a0_5], .agg #[.int .i64 a1_0, .string a1_1, .string a1_2, .int .i64 a1_3]] w fun e w' => ∃ v', e = .returned (.tuple #[.agg #[v', .int .i64 a0_1, .int .i64 a0_2, .int .i64 a0_3, .int .i64 a0_4, .bool a0_5], .int .i64 code]) ∧ Kd.R k76 76 w' w.heap.size (fun _ => True) v' l' ∧ Below w.heap.size w w') → Calls Try.prog 29 #[.agg #[.slice (some ⟨g, 0, none⟩) l0_0.length c, .int .i64 a0_1, .int .i64 a0_2, .int .i64 a0_3, .int .i64 a0_4, .bool a0_5], .agg #[.int .i64 a1_0, .string a1_1, .string a1_2, .int .i64 a1_3]] w fun e w' => ∃ v' : Value, e = .returned (.tuple #[.agg #[v', .int .i64 a0_1, .int .i64 a0_2, .int .i64 a0_3, .int .i64 a0_4, .bool a0_5], .int .i64 code]) ∧ Kd.R k76 76 w' B (fun _ => True) v' l' ∧ Below w.heap.size w w' := by
        intro l' code hs
        refine hs.mono ?_
        rintro e w' ⟨v', he, hR, hb⟩
        exact ⟨v', he, Kd.Rlo hR hB, hb⟩
      by_cases k2 : a1_0 = 2
      · rw [if_pos k2] at h
        replace h := Option.bind_eq_some_iff.mp h
        obtain ⟨n, hn, h⟩ := h
        by_cases hg : 0 ≤ a0_1 - n ∧ a0_1 - n ≤ 1000000000 ∧ a1_2.size ≤ 1000000000 ∧ X.f1.size ≤ 1000000000
        · rw [if_pos hg] at h
          have hbytes := fun w' hr => spec_l6Bytes.calls k (some ⟨g, 0, none⟩) c l0_0 a0_1 a0_2 a0_3 a0_4 a0_5 n w' hr hc hn
          by_cases hf : (a0_1 - n).toNat < a1_2.size
          · rw [if_pos hf] at h
            replace h := Option.bind_eq_some_iff.mp h
            obtain ⟨r, hw, h⟩ := h
            simp only [Option.some.injEq, Prod.mk.injEq] at h
            obtain ⟨rfl, rfl⟩ := h
            exact made _ _ (l6Do_append_full g c l0_0 a0_1 a0_2 a0_3 a0_4 a0_5 a1_0 a1_1 a1_2 a1_3 w hr i hfind hi X hX k1 k2 n hbytes (a0_1 - n).toNat (by omega) (by omega) hg.2.2.1 hg.2.2.2 hf r (hwith _ _ _ _ _ hw))
          · rw [if_neg hf] at h
            replace h := Option.bind_eq_some_iff.mp h
            obtain ⟨r, hw, h⟩ := h
            simp only [Option.some.injEq, Prod.mk.injEq] at h
            obtain ⟨rfl, rfl⟩ := h
            exact made _ _ (l6Do_append_fits g c l0_0 a0_1 a0_2 a0_3 a0_4 a0_5 a1_0 a1_1 a1_2 a1_3 w hr i hfind hi X hX k1 k2 n hbytes (a0_1 - n).toNat (by omega) (by omega) hg.2.2.1 hg.2.2.2 hf r (hwith _ _ _ _ _ hw))
        · rw [if_neg hg] at h
          cases h
      · rw [if_neg k2] at h
        by_cases k3 : a1_0 = 3
        · rw [if_pos k3] at h
          replace h := Option.bind_eq_some_iff.mp h
          obtain ⟨r, hw, h⟩ := h
          simp only [Option.some.injEq, Prod.mk.injEq] at h
          obtain ⟨rfl, rfl⟩ := h
          exact made _ _ (l6Do_sync g c l0_0 a0_1 a0_2 a0_3 a0_4 a0_5 a1_0 a1_1 a1_2 a1_3 w hr i hfind hi X hX k1 k3 r (hwith _ _ _ _ _ hw))
        · rw [if_neg k3] at h
          by_cases k4 : a1_0 = 4
          · rw [if_pos k4] at h
            replace h := Option.bind_eq_some_iff.mp h
            obtain ⟨b, hb, h⟩ := h
            have hbet := fun w' => spec_l1Between.calls a1_3 0 (X.f1.size : Int) b w' hb
            cases b with
            | true =>
              rw [if_pos rfl] at h
              by_cases hs : 0 ≤ a1_3 ∧ a1_3 ≤ (X.f1.size : Int)
              · rw [if_pos hs] at h
                replace h := Option.bind_eq_some_iff.mp h
                obtain ⟨r, hw, h⟩ := h
                simp only [Option.some.injEq, Prod.mk.injEq] at h
                obtain ⟨rfl, rfl⟩ := h
                exact made _ _ (l6Do_trunc g c l0_0 a0_1 a0_2 a0_3 a0_4 a0_5 a1_0 a1_1 a1_2 a1_3 w hr i hfind hi X hX k1 k4 hbet hs.1 hs.2 r (hwith _ _ _ _ _ hw))
              · rw [if_neg hs] at h
                cases h
            | false =>
              rw [if_neg (by decide)] at h
              simp only [Option.some.injEq, Prod.mk.injEq] at h
              obtain ⟨rfl, rfl⟩ := h
              exact (l6Do_trunc_bad g c l0_0 a0_1 a0_2 a0_3 a0_4 a0_5 a1_0 a1_1 a1_2 a1_3 w hr i hfind hi X hX k1 k4 hbet).mono fun e w' hp => ⟨_, hp.1, Kd.Rbe ho hp.2, hp.2⟩
          · rw [if_neg k4] at h
            by_cases k5 : a1_0 = 5
            · rw [if_pos k5] at h
              replace h := Option.bind_eq_some_iff.mp h
              obtain ⟨r, hw, h⟩ := h
              simp only [Option.some.injEq, Prod.mk.injEq] at h
              obtain ⟨rfl, rfl⟩ := h
              exact made _ _ (l6Do_delete g c l0_0 a0_1 a0_2 a0_3 a0_4 a0_5 a1_0 a1_1 a1_2 a1_3 w hr i hfind hi X hX k1 k5 r (hwith _ _ _ _ _ hw))
            · rw [if_neg k5] at h
              cases h
def spec_FsStep.f (k : Nat) (l0_0 : List (S76)) (a0_1 : Int) (a0_2 : Int) (a0_3 : Int) (a0_4 : Int) (a0_5 : Bool) (a1_0 : Int) (a1_1 : ByteArray) (a1_2 : ByteArray) (a1_3 : Int) : Option ((List (S76)) × Int × Int × Int × Int × Bool × Int) :=
  (spec_FsValid.f k l0_0 a0_1 a0_2 a0_3 a0_4 a0_5).bind fun t1 => if t1 = true then
    (spec_l1Between.f a1_0 1 5).bind fun t2 => if t2 = true then
      (spec_l6FileName.f k a1_1).bind fun t3 => if t3 = true then
        (if (0 ≤ a0_2 ∧ a0_2 ≤ 1000000000000000) ∧ l0_0.length ≤ 1000000 then
          (if a0_5 = true then some (l0_0, a0_1, a0_2, a0_3, a0_4, true, 11)
           else if a0_2 = 1000000000000000 then some (l0_0, a0_1, a0_2, a0_3, a0_4, false, 12)
           else if a0_3 ≠ 0 ∧ a0_2 + 1 = a0_3 then some (l0_0, a0_1, a0_2 + 1, a0_3, a0_4, true, 11)
           else if a0_4 ≠ 0 ∧ a0_2 + 1 = a0_4 then some (l0_0, a0_1, a0_2 + 1, a0_3, a0_4, false, 12)
           else (spec_l6Do.f k l0_0 a0_1 (a0_2 + 1) a0_3 a0_4 false a1_0 a1_1 a1_2 a1_3).bind fun p => some (p.1, a0_1, a0_2 + 1, a0_3, a0_4, false, p.2))
         else none)
      else some (([] : List (S76)), 0, 0, 0, 0, false, 16)
    else some (([] : List (S76)), 0, 0, 0, 0, false, 16)
  else some (([] : List (S76)), 0, 0, 0, 0, false, 16)
theorem spec_FsStep.mono : ∀ a0 a1 a2 a3 a4 a5 a6 a7 a8 a9 k, LeO (spec_FsStep.f k a0 a1 a2 a3 a4 a5 a6 a7 a8 a9) (spec_FsStep.f (k + 1) a0 a1 a2 a3 a4 a5 a6 a7 a8 a9) := by
  intro a0 a1 a2 a3 a4 a5 a6 a7 a8 a9 k
  unfold spec_FsStep.f
  repeat' first
      | (with_reducible exact spec_FsValid.mono _ _ _ _ _ _ _)
      | (with_reducible exact spec_l6FileName.mono _ _)
      | (with_reducible exact spec_l6Do.mono _ _ _ _ _ _ _ _ _ _ _)
      | (with_reducible exact LeO.refl _)
      | (with_reducible exact LeO.none _)
      | (with_reducible refine LeO.ite ?_ ?_)
      | (with_reducible refine LeO.bind ?_ (fun _ => ?_))
theorem spec_FsStep.calls (k : Nat) (A0_0 : Option Addr) (c0_0 : Nat) (l0_0 : List (S76)) (a0_1 : Int) (a0_2 : Int) (a0_3 : Int) (a0_4 : Int) (a0_5 : Bool) (a1_0 : Int) (a1_1 : ByteArray) (a1_2 : ByteArray) (a1_3 : Int) (r1 : List (S76)) (r2 : Int) (r3 : Int) (r4 : Int) (r5 : Int) (r6 : Bool) (r7 : Int) (w : World) (hr0_0 : Kd.C k76 w A0_0 l0_0.length l0_0) (hc0_0 : l0_0.length ≤ c0_0) (h : spec_FsStep.f k l0_0 a0_1 a0_2 a0_3 a0_4 a0_5 a1_0 a1_1 a1_2 a1_3 = some (r1, r2, r3, r4, r5, r6, r7)) :
    Calls Try.prog 8 #[.agg #[.slice A0_0 l0_0.length c0_0, .int .i64 a0_1, .int .i64 a0_2, .int .i64 a0_3, .int .i64 a0_4, .bool a0_5], .agg #[.int .i64 a1_0, .string a1_1, .string a1_2, .int .i64 a1_3]] w fun e w' => ∃ v0_ : Value, e = .returned (.tuple #[.agg #[v0_, .int .i64 r2, .int .i64 r3, .int .i64 r4, .int .i64 r5, .bool r6], .int .i64 r7]) ∧ Kd.R k76 76 w' w.heap.size (fun _ => True) v0_ r1 ∧ Below w.heap.size w w' := by
  unfold spec_FsStep.f at h
  replace h := Option.bind_eq_some_iff.mp h
  obtain ⟨t1, ht1, h⟩ := h
  have hval := fun w' hr => spec_FsValid.calls k A0_0 c0_0 l0_0 a0_1 a0_2 a0_3 a0_4 a0_5 t1 w' hr hc0_0 ht1
  cases t1 with
  | false =>
    simp only [Bool.false_eq_true, if_false, Option.some.injEq, Prod.mk.injEq] at h
    obtain ⟨rfl, rfl, rfl, rfl, rfl, rfl, rfl⟩ := h
    exact (specStep_bad1 A0_0 c0_0 l0_0 a0_1 a0_2 a0_3 a0_4 a0_5 a1_0 a1_1 a1_2 a1_3 w hr0_0 hval).mono fun e w' hp => ⟨_, hp.1, Kd.R_nil _ _ _ _ _, hp.2⟩
  | true =>
    simp only [if_true] at h
    replace h := Option.bind_eq_some_iff.mp h
    obtain ⟨t2, ht2, h⟩ := h
    have hbet := fun w' => spec_l1Between.calls a1_0 1 5 t2 w' ht2
    cases t2 with
    | false =>
      simp only [Bool.false_eq_true, if_false, Option.some.injEq, Prod.mk.injEq] at h
      obtain ⟨rfl, rfl, rfl, rfl, rfl, rfl, rfl⟩ := h
      exact (specStep_bad2 A0_0 c0_0 l0_0 a0_1 a0_2 a0_3 a0_4 a0_5 a1_0 a1_1 a1_2 a1_3 w hr0_0 hval hbet).mono fun e w' hp => ⟨_, hp.1, Kd.R_nil _ _ _ _ _, hp.2⟩
    | true =>
      simp only [if_true] at h
      replace h := Option.bind_eq_some_iff.mp h
      obtain ⟨t3, ht3, h⟩ := h
      have hname := fun w' => spec_l6FileName.calls k a1_1 t3 w' ht3
      cases t3 with
      | false =>
        simp only [Bool.false_eq_true, if_false, Option.some.injEq, Prod.mk.injEq] at h
        obtain ⟨rfl, rfl, rfl, rfl, rfl, rfl, rfl⟩ := h
        exact (specStep_bad3 A0_0 c0_0 l0_0 a0_1 a0_2 a0_3 a0_4 a0_5 a1_0 a1_1 a1_2 a1_3 w hr0_0 hval hbet hname).mono fun e w' hp => ⟨_, hp.1, Kd.R_nil _ _ _ _ _, hp.2⟩
      | true =>
        simp only [if_true] at h
        by_cases hc2 : (0 ≤ a0_2 ∧ a0_2 ≤ 1000000000000000) ∧ l0_0.length ≤ 1000000
        · rw [if_pos hc2] at h
          obtain ⟨hc, hlen⟩ := hc2
          have hcf : spec_l6Copy.f l0_0 a0_1 a0_2 a0_3 a0_4 a0_5 = some (l0_0, a0_1, a0_2, a0_3, a0_4, a0_5) := by
            unfold spec_l6Copy.f
            rw [Option.bind_some, if_pos (by simp only [List.length_nil]; omega), List.nil_append]
          have hcopy := fun w' hr => spec_l6Copy.calls A0_0 c0_0 l0_0 a0_1 a0_2 a0_3 a0_4 a0_5 l0_0 a0_1 a0_2 a0_3 a0_4 a0_5 w' hr hc0_0 hcf
          by_cases hd : a0_5 = true
          · rw [if_pos hd] at h
            simp only [Option.some.injEq, Prod.mk.injEq] at h
            obtain ⟨rfl, rfl, rfl, rfl, rfl, rfl, rfl⟩ := h
            subst hd
            exact specStep_down A0_0 c0_0 l0_0 a0_1 a0_2 a0_3 a0_4 true a1_0 a1_1 a1_2 a1_3 w hr0_0 hval hbet hname hcopy rfl
          · rw [if_neg hd] at h
            obtain rfl : a0_5 = false := Bool.eq_false_iff.2 hd
            by_cases hn : a0_2 = 1000000000000000
            · rw [if_pos hn] at h
              simp only [Option.some.injEq, Prod.mk.injEq] at h
              obtain ⟨rfl, rfl, rfl, rfl, rfl, rfl, rfl⟩ := h
              exact specStep_stop A0_0 c0_0 l0_0 a0_1 a0_2 a0_3 a0_4 false a1_0 a1_1 a1_2 a1_3 w hr0_0 hval hbet hname hcopy rfl hn
            · rw [if_neg hn] at h
              by_cases h1 : a0_3 ≠ 0 ∧ a0_2 + 1 = a0_3
              · rw [if_pos h1] at h
                simp only [Option.some.injEq, Prod.mk.injEq] at h
                obtain ⟨rfl, rfl, rfl, rfl, rfl, rfl, rfl⟩ := h
                exact specStep_crash A0_0 c0_0 l0_0 a0_1 a0_2 a0_3 a0_4 false a1_0 a1_1 a1_2 a1_3 w hr0_0 hval hbet hname hcopy rfl hc hn h1
              · rw [if_neg h1] at h
                by_cases h2 : a0_4 ≠ 0 ∧ a0_2 + 1 = a0_4
                · rw [if_pos h2] at h
                  simp only [Option.some.injEq, Prod.mk.injEq] at h
                  obtain ⟨rfl, rfl, rfl, rfl, rfl, rfl, rfl⟩ := h
                  exact specStep_fail A0_0 c0_0 l0_0 a0_1 a0_2 a0_3 a0_4 false a1_0 a1_1 a1_2 a1_3 w hr0_0 hval hbet hname hcopy rfl hc hn h1 h2
                · rw [if_neg h2] at h
                  replace h := Option.bind_eq_some_iff.mp h
                  obtain ⟨p, hp, h⟩ := h
                  obtain ⟨l', code⟩ := p
                  simp only [Option.some.injEq, Prod.mk.injEq] at h
                  obtain ⟨rfl, rfl, rfl, rfl, rfl, rfl, rfl⟩ := h
                  exact specStep_do A0_0 c0_0 l0_0 a0_1 a0_2 a0_3 a0_4 false a1_0 a1_1 a1_2 a1_3 w hr0_0 hval hbet hname hcopy rfl hc hn h1 h2 _ _ (fun w' u ho hB => spec_l6Do.calls k _ u l0_0 a0_1 (a0_2 + 1) a0_3 a0_4 false a1_0 a1_1 a1_2 a1_3 _ _ w' ho hB hp)
        · rw [if_neg hc2] at h
          cases h
def laws_toFile.f (a0_0 : ByteArray) (a0_1 : ByteArray) (a0_2 : Int) : Option (ByteArray × ByteArray × Int) := some (a0_0, a0_1, a0_2)
set_option maxHeartbeats 8000000 in
set_option maxRecDepth 100000 in
theorem laws_toFile.calls (a0_0 : ByteArray) (a0_1 : ByteArray) (a0_2 : Int) (r1 : ByteArray) (r2 : ByteArray) (r3 : Int) (w : World) (h : laws_toFile.f a0_0 a0_1 a0_2 = some (r1, r2, r3)) :
    Calls Try.prog 51 #[.agg #[.string a0_0, .string a0_1, .int .i64 a0_2]] w fun e w' => e = .returned (.agg #[.string r1, .string r2, .int .i64 r3]) ∧ Below w.heap.size w w' := by
  have hu74 := Try.underlying74; have hu76 := Try.underlying76; have HB := qK (Below.refl w.heap.size w); have H : (some (a0_0, a0_1, a0_2)) = some (r1, r2, r3) := h; clear h; simp only [Option.some.injEq, Prod.mk.injEq] at H; obtain ⟨rfl, rfl, rfl⟩ := H; go_enter Try.func51, Try.ntmps51; go_wp2_with (first | ((with_reducible refine gds (N := 1) rfl ?_); refine qbx 1 #[.string a0_0, .string a0_1, .int .i64 a0_2] 74 ?_; intro gb153 hg w2 hbox hb; have BK153 := qK (hbox); have GW153 := qK ((qW : w.heap.size ≤ gb153)); have GE153 := GW153; replace HB := qHB HB hb; clear hb hbox hg) | ((with_reducible refine gds (N := 2) rfl ?_); refine qbx 2 #[.string (⟨#[]⟩ : ByteArray), .string (⟨#[]⟩ : ByteArray), .int .i64 0] 76 ?_; intro gb154 hg w3 hbox hb; have BK154 := qK (hbox); have GW154 := qK ((qW : w.heap.size ≤ gb154)); have GE154 := GW154; replace HB := qHB HB hb; have NB153_154 := qK (qlt BK153 hg); have NB154_153 := qK (qgt BK153 hg); replace BK153 := qbb BK153 hb; clear hb hbox hg) | ((with_reducible refine gds (N := 3) rfl ?_); refine qbx 3 #[.string (⟨#[]⟩ : ByteArray), .string (⟨#[]⟩ : ByteArray), .int .i64 0] 76 ?_; intro gb155 hg w4 hbox hb; have BK155 := qK (hbox); have GW155 := qK ((qW : w.heap.size ≤ gb155)); have GE155 := GW155; replace HB := qHB HB hb; have NB153_155 := qK (qlt BK153 hg); have NB155_153 := qK (qgt BK153 hg); replace BK153 := qbb BK153 hb; have NB154_155 := qK (qlt BK154 hg); have NB155_154 := qK (qgt BK154 hg); replace BK154 := qbb BK154 hb; clear hb hbox hg; have hnb5 := NB153_154.out; have hnc5 := NB154_153.out; have hnb6 := NB153_155.out; have hnc6 := NB155_153.out; have hz7 := qz3 BK153.out; have hnb8 := NB155_154.out; have hnc8 := NB154_155.out; have hz9 := qz3 BK155.out; have hz10 := qz3 BK154.out)); refine bodyPost_ret (results_cell_row rfl _ _ gb154 76 #[.string a0_0, .string a0_1, .int .i64 a0_2] (0, 0) _ rfl (by (with_reducible repeat (first | refine bdN ?_ _ | refine bkD ?_ | refine bkA ?_ _)); refine bpu (cs := #[.string a0_0, .string a0_1, .int .i64 0]) ?_ 2 _ rfl; (with_reducible repeat (first | refine bdN ?_ _ | refine bkD ?_ | refine bkA ?_ _)); refine bpu (cs := #[.string a0_0, .string (⟨#[]⟩ : ByteArray), .int .i64 0]) ?_ 1 _ rfl; (with_reducible repeat (first | refine bdN ?_ _ | refine bkD ?_ | refine bkA ?_ _)); refine bpu (cs := #[.string (⟨#[]⟩ : ByteArray), .string (⟨#[]⟩ : ByteArray), .int .i64 0]) ?_ 0 _ rfl; (with_reducible repeat (first | refine bdN ?_ _ | refine bkD ?_ | refine bkA ?_ _)); refine bfa ?_ NB154_155.out _; (with_reducible repeat (first | refine bdN ?_ _ | refine bkD ?_ | refine bkA ?_ _)); refine bfa ?_ NB154_155.out _; (with_reducible repeat (first | refine bdN ?_ _ | refine bkD ?_ | refine bkA ?_ _)); refine bfa ?_ NB154_155.out _; (with_reducible repeat (first | refine bdN ?_ _ | refine bkD ?_ | refine bkA ?_ _)); exact BK154.out) Try.underlying76 rfl (by kernel_rfl)) rfl ?_; exact ⟨qR, qB⟩
def laws_toFileS.l0 : Nat → List (S74) → List (S76) → Int → Option ((List (S76)))
  | 0, _, _, _ => none
  | k + 1, x0, x3, x4 => if x4 < (x0.length : Int) then (if 0 ≤ x4 then ((laws_toFile.f ((rd_T74 x0 x4).f0) ((rd_T74 x0 x4).f1) ((rd_T74 x0 x4).f2)).bind fun bt160 => (if x4 < (x3.length : Int) then (laws_toFileS.l0 k x0 (x3.set (x4 : Int).toNat (⟨bt160.1, bt160.2.1, bt160.2.2⟩ : S76)) (wrap64 (x4 + 1))) else (none))) else (none)) else (some x3)
def laws_toFileS.f (k : Nat) (l0 : List (S74)) : Option ((List (S76))) := if 0 ≤ (l0.length : Int) then (if ((l0.length : Int) : Int).toNat ≤ 7036874417766 then (laws_toFileS.l0 k l0 (List.replicate ((l0.length : Int) : Int).toNat z76) 0) else (none)) else (none)
theorem laws_toFileS.mono_l : ∀ k, (∀ y0 y1 y2, LeO (laws_toFileS.l0 k y0 y1 y2) (laws_toFileS.l0 (k + 1) y0 y1 y2))
  | 0 => fun _ _ _ r h => by simp [laws_toFileS.l0] at h
  | k + 1 => by
    have ih0 := laws_toFileS.mono_l k
    · intro y0 y1 y2
      unfold laws_toFileS.l0
      repeat' first
      | (with_reducible exact ih0 _ _ _)
      | (with_reducible exact LeO.refl _)
      | (with_reducible exact LeO.none _)
      | (with_reducible refine LeO.ite ?_ ?_)
      | (with_reducible refine LeO.bind ?_ (fun _ => ?_))
      | exact ih0 _ _ _
      | exact LeO.none _
      | refine LeO.ite ?_ ?_
      | refine LeO.bind ?_ (fun _ => ?_)
theorem laws_toFileS.mono : ∀ a0 k, LeO (laws_toFileS.f k a0) (laws_toFileS.f (k + 1) a0) := by
  intro a0 k
  have ih0 := laws_toFileS.mono_l k
  unfold laws_toFileS.f
  repeat' first
      | (with_reducible exact ih0 _ _ _)
      | (with_reducible exact LeO.refl _)
      | (with_reducible exact LeO.none _)
      | (with_reducible refine LeO.ite ?_ ?_)
      | (with_reducible refine LeO.bind ?_ (fun _ => ?_))
      | exact ih0 _ _ _
      | exact LeO.none _
      | refine LeO.ite ?_ ?_
      | refine LeO.bind ?_ (fun _ => ?_)
set_option maxHeartbeats 8000000 in
set_option maxRecDepth 100000 in
theorem laws_toFileS.calls (k : Nat) (A0 : Option Addr) (c0 : Nat) (l0 : List (S74)) (r : List (S76)) (w : World) (hr0 : Kd.C k74 w A0 l0.length l0) (hc0 : l0.length ≤ c0) (h : laws_toFileS.f k l0 = some r) :
    Calls Try.prog 30 #[.slice A0 l0.length c0] w fun e w' => ∃ v0_ : Value, e = .returned (v0_) ∧ Kd.R k76 76 w' w.heap.size (fun _ => True) v0_ r ∧ Below w.heap.size w w' := by
  have hu74 := Try.underlying74; have hu76 := Try.underlying76; have HR0 := qK hr0; have HC0 := qK hc0; clear hr0 hc0; have HB := qK (Below.refl w.heap.size w); have H : (if 0 ≤ (l0.length : Int) then (if ((l0.length : Int) : Int).toNat ≤ 7036874417766 then (laws_toFileS.l0 k l0 (List.replicate ((l0.length : Int) : Int).toNat z76) 0) else (none)) else (none)) = some r := h; clear h; by_cases c2 : 0 ≤ (l0.length : Int)
  · rw [if_pos c2] at H; have c2b0 := eq_true c2; have c2b1 : decide (0 ≤ (l0.length : Int)) = true := decide_eq_true c2; clear c2; by_cases c3 : ((l0.length : Int) : Int).toNat ≤ 7036874417766
    · rw [if_pos c3] at H; have c3b0 := eq_true c3; have c3b1 : decide (((l0.length : Int) : Int).toNat ≤ 7036874417766) = true := decide_eq_true c3; clear c3; obtain ⟨y156, hy156⟩ : ∃ y_ : List (S76), y_ = (List.replicate ((l0.length : Int) : Int).toNat z76) := ⟨_, rfl⟩; (replace H : (laws_toFileS.l0 k l0 y156 0) = some r := by first | (rw [hy156]; with_reducible exact H) | (have H2_ := (Option.bind_some _ _).symm.trans H; rw [hy156]; with_reducible exact H2_) | (have H2_ := (Option.bind_some _ _).symm.trans H; with_reducible exact H2_) | with_reducible exact H | (rw [hy156]; exact H) | exact H); have Ny156 := qK hy156; clear hy156; have H' := qK H; clear H; go_enter Try.func30, Try.ntmps30; go_wp2_with (first | ((with_reducible refine gds (N := 7) rfl ?_); refine Kd.R_make k76 _ 76 rfl (N := 7) rfl 29 _ _ rfl (l0.length : Int) rfl rfl Try.underlying29 (.agg #[(.string ⟨#[]⟩), (.string ⟨#[]⟩), (.int .i64 0)]) 40 info76 rfl (by decide) (by omega) z76 (ok := fun _ => True) (okp := fun _ => True) (k76_mkM _ _ _ z76 ) (fun _ hk => hk) trivial (of_decide_eq_true qa) (Nat.le_trans (Nat.mul_le_mul_right _ (of_decide_eq_true qa : (l0.length : Int).toNat ≤ 7036874417766)) (by omega)) (Below.refl _ _) (Nat.le_refl _) ?_; intro v157 w4 ho5 hb hg_ hnew_; clear hg_ hnew_; (first | rw [← Ny156.out] at ho5 | (simp only [Int.reduceToNat] at ho5; rw [← Ny156.out] at ho5)); have HO158 := qK (Kd.Rlo ho5 (bsz qB)); replace HB := qHB HB hb; clear hb ho5)); go_loopg [4] k (fun kq v4 w' => ∃ (x3_1 : List (S76)) (x4_1 : Int), v4 = .int .i64 x4_1 ∧ Aside0 (laws_toFileS.l0 kq l0 x3_1 x4_1 = some r) ∧ Aside0 (kq ≤ k) ∧ Aside0 (Kd.R k76 76 w' w.heap.size (fun _ => True) v157 x3_1) ∧ Aside0 (Below w.heap.size w w'))
      case atStart => exact ⟨(y156), (0), qS, H', ⟨Nat.le_refl _⟩, ⟨by (with_reducible repeat (first | apply Kd.Ral | apply Kd.RdN | apply Kd.Rdr)); exact HO158.out⟩, ⟨qB⟩⟩
      case round =>
        clear H'; (try clear c2); (try clear c2b0); (try clear c2b1); (try clear p2); (try clear c3); (try clear c3b0); (try clear c3b1); obtain ⟨x3_1, x4_1, rfl, HA, HK1, HO_3, HB⟩ := hrel
        cases gk with
        | zero => exact absurd HA.out (by simp [laws_toFileS.l0])
        | succ k1 =>
          have H := HA.out; clear HA; simp only [laws_toFileS.l0] at H; by_cases c6 : x4_1 < (l0.length : Int)
          · rw [if_pos c6] at H; have c6b0 : decide (x4_1 < (l0.length : Int)) = true := decide_eq_true c6; clear c6; by_cases c7 : 0 ≤ x4_1
            · rw [if_pos c7] at H; have c7b0 : decide (0 ≤ x4_1) = true := decide_eq_true c7; clear c7; replace H := Option.bind_eq_some_iff.mp H; obtain ⟨⟨t160, t161, t162⟩, A80, H⟩ := H; have A8 := qK A80; clear A80; by_cases c9 : x4_1 < (x3_1.length : Int)
              · rw [if_pos c9] at H; have c9b0 : decide (x4_1 < (x3_1.length : Int)) = true := decide_eq_true c9; clear c9; obtain ⟨y163, hy163⟩ : ∃ y_ : List (S76), y_ = (x3_1.set (x4_1 : Int).toNat (⟨t160, t161, t162⟩ : S76)) := ⟨_, rfl⟩; (replace H : (laws_toFileS.l0 k1 l0 y163 (wrap64 (x4_1 + 1))) = some r := by first | (rw [hy163]; with_reducible exact H) | (have H2_ := (Option.bind_some _ _).symm.trans H; rw [hy163]; with_reducible exact H2_) | (have H2_ := (Option.bind_some _ _).symm.trans H; with_reducible exact H2_) | with_reducible exact H | (rw [hy163]; exact H) | exact H); have Ny163 := qK hy163; clear hy163; have H' := qK H; clear H; have p159 : 0 ≤ (x4_1 : Int) := of_decide_eq_true qa; have q159 : x4_1 < (l0.length : Int) := of_decide_eq_true qa; obtain ⟨ad159, e159, hx159_0, hx159_1, hx159_2⟩ := at_T74 HR0.out x4_1 p159 q159; cases e159; replace hx159_0 := (HB.out.cell (World.block_lt_of_cell? w _ hx159_0)).trans hx159_0; replace hx159_1 := (HB.out.cell (World.block_lt_of_cell? w _ hx159_1)).trans hx159_1; replace hx159_2 := (HB.out.cell (World.block_lt_of_cell? w _ hx159_2)).trans hx159_2; replace p159 := eq_true p159; replace q159 := eq_true q159; go_wp2_with (first | ((with_reducible refine gcl (f := 51) rfl ?_); refine goesL_ (some 20) rfl rfl Try.func51 (by kernel_rfl) rfl #[.agg #[.string ((rd_T74 l0 x4_1).f0), .string ((rd_T74 l0 x4_1).f1), .int .i64 ((rd_T74 l0 x4_1).f2)]] rfl qA ?_; (with_reducible refine (laws_toFile.calls ((rd_T74 l0 x4_1).f0) ((rd_T74 l0 x4_1).f1) ((rd_T74 l0 x4_1).f2) t160 t161 t162 _ A8.out).mono ?_); rintro e w11 ⟨rfl, hb⟩; refine ⟨_, rfl, ?_⟩; replace HO_3 := qK (Kd.Rbe (qRb HO_3) hb); replace HB := qHB HB hb; (try clear hb); (try clear hb2); (try clear hk); (try clear hi); have p10 : 0 ≤ (x4_1 : Int) := of_decide_eq_true qa; have q10 : (x4_1 : Int) < ((x3_1.length : Int) : Int) := of_decide_eq_true qa; obtain ⟨go10, co10, eo10, gb10, gl10, cl10, HG10⟩ := Kd.R_form HO_3.out (by omega); (first | cases eo10 | (injection eo10 with ea_ en_ ec_; (first | subst ea_ | (injection ea_ with ea_; subst ea_)); subst ec_; clear en_)); have GB10 := qK gb10; have GG10 := qK HG10; clear gb10 gl10 HG10; obtain ⟨ce10, hcl10, hM10, hcc10, hfr10⟩ := Kd.R_elem HO_3.out z76 (x4_1 : Int) p10 q10; obtain rfl := k76_openM hM10; have hx10_0 : w11.cell? ⟨go10, (x4_1 : Int).toNat * 3, none⟩ = some (.string ((rd_T76 x3_1 x4_1).f0)) := hcc10 0 _ rfl; have hx10_1 : w11.cell? ⟨go10, (x4_1 : Int).toNat * 3 + 1, none⟩ = some (.string ((rd_T76 x3_1 x4_1).f1)) := hcc10 1 _ rfl; have hx10_2 : w11.cell? ⟨go10, (x4_1 : Int).toNat * 3 + 2, none⟩ = some (.int .i64 ((rd_T76 x3_1 x4_1).f2)) := hcc10 2 _ rfl; have hf10_0 : w11.frozen? ⟨go10, (x4_1 : Int).toNat * 3, none⟩ = false := hfr10 0; have hf10_1 : w11.frozen? ⟨go10, (x4_1 : Int).toNat * 3 + 1, none⟩ = false := hfr10 1; have hf10_2 : w11.frozen? ⟨go10, (x4_1 : Int).toNat * 3 + 2, none⟩ = false := hfr10 2; clear hcl10 hcc10 hfr10; (try clear hM10); replace p10 := eq_true p10; replace q10 := eq_true q10; have HX12 := qK (show Kd.R k76 76 w11 w.heap.size (fun _ => True) (.slice (some ⟨go10, 0, none⟩) x3_1.length co10) x3_1 from (qRb HO_3)); obtain ⟨ce12, hcl12, hM12, hcc12, hfr12⟩ := Kd.R_elem HX12.out z76 (x4_1 : Int) (of_decide_eq_true qa) (by have h_ : (x4_1 : Int) < ((x3_1.length : Int) : Int) := of_decide_eq_true qa; first | exact h_ | (have e_ := (Kd.R_reads' HO_3.out).1; omega) | simpa using h_); obtain rfl := k76_openM hM12; have HP12 := Kd.R_seg HX12.out (x4_1 : Int) (of_decide_eq_true qa) (by have h_ : (x4_1 : Int) < ((x3_1.length : Int) : Int) := of_decide_eq_true qa; first | exact h_ | (have e_ := (Kd.R_reads' HO_3.out).1; omega) | simpa using h_) (seg := [.string t160, .string t161, .int .i64 t162]) (j := 0) hcl12 hcc12 (show 3 ≤ 3 from by decide) (x' := (⟨t160, t161, t162⟩ : S76)) (k76_mkM _ _ _ (⟨t160, t161, t162⟩ : S76) ) (fun _ hk => hk); have hx12_0 := hcc12 0 _ rfl; (try simp only [show (k76).sz = 3 from rfl, Nat.mul_one, Nat.add_zero] at hx12_0); have hf12_0 := hfr12 0; (try simp only [show (k76).sz = 3 from rfl, Nat.mul_one, Nat.add_zero] at hf12_0); have hx12_1 := hcc12 1 _ rfl; (try simp only [show (k76).sz = 3 from rfl, Nat.mul_one, Nat.add_zero] at hx12_1); have hf12_1 := hfr12 1; (try simp only [show (k76).sz = 3 from rfl, Nat.mul_one, Nat.add_zero] at hf12_1); have hx12_2 := hcc12 2 _ rfl; (try simp only [show (k76).sz = 3 from rfl, Nat.mul_one, Nat.add_zero] at hx12_2); have hf12_2 := hfr12 2; (try simp only [show (k76).sz = 3 from rfl, Nat.mul_one, Nat.add_zero] at hf12_2); clear hcl12 hcc12 hfr12; (try clear hM12)) | ((with_reducible refine gst (t := 76) (p := 21) rfl ?_); refine ste (t := 76) (p := 21) (v := ?vo_w13) (w1 := (((w11.setCell ⟨go10, (x4_1 : Int).toNat * 3, none⟩ (.string t160)).setCell ⟨go10, (x4_1 : Int).toNat * 3 + 1, none⟩ (.string t161)).setCell ⟨go10, (x4_1 : Int).toNat * 3 + 2, none⟩ (.int .i64 t162))) ?hg ?ho ?hn ?hr ?_; (case ho => rfl); (case hg => rfl); (case hn => rfl); (case hr => first | (go_simp; done) | (go_simp; rfl)); intro w13 hw; have hg : w11.grownBy w13 (some go10) := (by rw [hw]; exact HP12.2); have hp_ : Kd.R k76 76 w13 w.heap.size (fun _ => True) (.slice (some ⟨go10, 0, none⟩) x3_1.length co10) y163 := (by rw [hw, Ny163.out]; exact HP12.1); clear HP12; replace HO_3 := qK (hp_); replace HB := qK ((by rw [hw]; exact bse (bse (bse (HB.out) GB10.out) GB10.out) GB10.out : Below w.heap.size w w13)); clear hg hw hp_)); go_roundg k1
                case measure => have := HK1.out; omega
                case rel => exact ⟨(y163), (wrap64 (x4_1 + 1)), qS, H', ⟨by have := HK1.out; omega⟩, ⟨by (with_reducible repeat (first | apply Kd.Ral | apply Kd.RdN | apply Kd.Rdr)); exact HO_3.out⟩, ⟨qB⟩⟩
              · rw [if_neg c9] at H; exact absurd H (by simp)
            · rw [if_neg c7] at H; exact absurd H (by simp)
          · rw [if_neg c6] at H; have c6b0 : decide (x4_1 < (l0.length : Int)) = false := decide_eq_false c6; clear c6; obtain rfl := Option.some.inj H; go_wp2; go_ret; exact ⟨_, qR, by (with_reducible repeat (first | apply Kd.Ral | apply Kd.RdN | apply Kd.Rdr)); exact HO_3.out, qB⟩
    · rw [if_neg c3] at H; exact absurd H (by simp)
  · rw [if_neg c2] at H; exact absurd H (by simp)
def laws_toFs.f (k : Nat) (l0_0 : List (S74)) (a0_1 : Int) (a0_2 : Int) (a0_3 : Int) (a0_4 : Int) (a0_5 : Bool) : Option ((List (S76)) × Int × Int × Int × Int × Bool) := (laws_toFileS.f k l0_0).bind fun t167 => (some (t167, a0_1, a0_2, a0_3, a0_4, a0_5))
theorem laws_toFs.mono : ∀ a0 a1 a2 a3 a4 a5 k, LeO (laws_toFs.f k a0 a1 a2 a3 a4 a5) (laws_toFs.f (k + 1) a0 a1 a2 a3 a4 a5) := by
  intro a0 a1 a2 a3 a4 a5 k
  unfold laws_toFs.f
  repeat' first
      | (with_reducible exact laws_toFileS.mono _ _)
      | (with_reducible exact LeO.refl _)
      | (with_reducible exact LeO.none _)
      | (with_reducible refine LeO.ite ?_ ?_)
      | (with_reducible refine LeO.bind ?_ (fun _ => ?_))
      | exact laws_toFileS.mono _ _
      | exact LeO.none _
      | refine LeO.ite ?_ ?_
      | refine LeO.bind ?_ (fun _ => ?_)
set_option maxHeartbeats 8000000 in
set_option maxRecDepth 100000 in
theorem laws_toFs.calls (k : Nat) (A0_0 : Option Addr) (c0_0 : Nat) (l0_0 : List (S74)) (a0_1 : Int) (a0_2 : Int) (a0_3 : Int) (a0_4 : Int) (a0_5 : Bool) (r1 : List (S76)) (r2 : Int) (r3 : Int) (r4 : Int) (r5 : Int) (r6 : Bool) (w : World) (hr0_0 : Kd.C k74 w A0_0 l0_0.length l0_0) (hc0_0 : l0_0.length ≤ c0_0) (h : laws_toFs.f k l0_0 a0_1 a0_2 a0_3 a0_4 a0_5 = some (r1, r2, r3, r4, r5, r6)) :
    Calls Try.prog 9 #[.agg #[.slice A0_0 l0_0.length c0_0, .int .i64 a0_1, .int .i64 a0_2, .int .i64 a0_3, .int .i64 a0_4, .bool a0_5]] w fun e w' => ∃ v0_ : Value, e = .returned (.agg #[v0_, .int .i64 r2, .int .i64 r3, .int .i64 r4, .int .i64 r5, .bool r6]) ∧ Kd.R k76 76 w' w.heap.size (fun _ => True) v0_ r1 ∧ Below w.heap.size w w' := by
  have hu24 := Try.underlying24; have hu31 := Try.underlying31; have HR0_0 := qK hr0_0; have HC0_0 := qK hc0_0; clear hr0_0 hc0_0; have HB := qK (Below.refl w.heap.size w); have H : ((laws_toFileS.f k l0_0).bind fun t167 => (some (t167, a0_1, a0_2, a0_3, a0_4, a0_5))) = some (r1, r2, r3, r4, r5, r6) := h; clear h; replace H := Option.bind_eq_some_iff.mp H; obtain ⟨t167, A20, H⟩ := H; have A2 := qK A20; clear A20; simp only [Option.some.injEq, Prod.mk.injEq] at H; obtain ⟨rfl, rfl, rfl, rfl, rfl, rfl⟩ := H; go_enter Try.func9, Try.ntmps9; go_wp2_with (first | ((with_reducible refine gds (N := 1) rfl ?_); refine qbx 1 #[.slice A0_0 l0_0.length c0_0, .int .i64 a0_1, .int .i64 a0_2, .int .i64 a0_3, .int .i64 a0_4, .bool a0_5] 24 ?_; intro gb164 hg w3 hbox hb; have BK164 := qK (hbox); have GW164 := qK ((qW : w.heap.size ≤ gb164)); have GE164 := GW164; replace HB := qHB HB hb; clear hb hbox hg) | ((with_reducible refine gds (N := 2) rfl ?_); refine qbx 2 #[.slice none 0 0, .int .i64 0, .int .i64 0, .int .i64 0, .int .i64 0, .bool false] 31 ?_; intro gb165 hg w4 hbox hb; have BK165 := qK (hbox); have GW165 := qK ((qW : w.heap.size ≤ gb165)); have GE165 := GW165; replace HB := qHB HB hb; have NB164_165 := qK (qlt BK164 hg); have NB165_164 := qK (qgt BK164 hg); replace BK164 := qbb BK164 hb; clear hb hbox hg) | ((with_reducible refine gds (N := 3) rfl ?_); refine qbx 3 #[.slice none 0 0, .int .i64 0, .int .i64 0, .int .i64 0, .int .i64 0, .bool false] 31 ?_; intro gb166 hg w5 hbox hb; have BK166 := qK (hbox); have GW166 := qK ((qW : w.heap.size ≤ gb166)); have GE166 := GW166; replace HB := qHB HB hb; have NB164_166 := qK (qlt BK164 hg); have NB166_164 := qK (qgt BK164 hg); replace BK164 := qbb BK164 hb; have NB165_166 := qK (qlt BK165 hg); have NB166_165 := qK (qgt BK165 hg); replace BK165 := qbb BK165 hb; clear hb hbox hg; have hnb6 := NB164_165.out; have hnc6 := NB165_164.out; have hnb7 := NB164_166.out; have hnc7 := NB166_164.out; have hz8 := qz6 BK164.out) | ((with_reducible refine gcl (f := 30) rfl ?_); refine goesL_ (some 6) rfl rfl Try.func30 (by kernel_rfl) rfl #[.slice A0_0 l0_0.length c0_0] rfl qA ?_; (with_reducible refine (laws_toFileS.calls k _ _ l0_0 t167 _ ?side1 ?side2 A2.out).mono ?_); (case side1 => exact qC HR0_0); (case side2 => exact HC0_0.out); rintro e w9 ⟨v168, rfl, ho0, hb⟩; refine ⟨_, rfl, ?_⟩; have HO169 := qK (Kd.Rlo ho0 (bsz qB)); replace BK164 := qbb BK164 hb; replace BK165 := qbb BK165 hb; replace BK166 := qbb BK166 hb; replace HB := qHB HB hb; (try clear hb); (try clear hb2); (try clear hk); (try clear hi); (try clear ho0); obtain ⟨Ao10, co10, eo10⟩ := Kd.R_slice HO169.out; subst eo10; have hnb11 := NB166_165.out; have hnc11 := NB165_166.out; have hz12 := qz6 BK166.out; have hz13 := qz6 BK164.out; have hz14 := qz6 BK165.out)); refine bodyPost_ret (results_cell_row rfl _ _ gb165 31 #[.slice Ao10 t167.length co10, .int .i64 a0_1, .int .i64 a0_2, .int .i64 a0_3, .int .i64 a0_4, .bool a0_5] (0, 0) _ rfl (by (with_reducible repeat (first | refine bdN ?_ _ | refine bkD ?_ | refine bkA ?_ _)); refine bpu (cs := #[.slice Ao10 t167.length co10, .int .i64 a0_1, .int .i64 a0_2, .int .i64 a0_3, .int .i64 a0_4, .bool false]) ?_ 5 _ rfl; (with_reducible repeat (first | refine bdN ?_ _ | refine bkD ?_ | refine bkA ?_ _)); refine bpu (cs := #[.slice Ao10 t167.length co10, .int .i64 a0_1, .int .i64 a0_2, .int .i64 a0_3, .int .i64 0, .bool false]) ?_ 4 _ rfl; (with_reducible repeat (first | refine bdN ?_ _ | refine bkD ?_ | refine bkA ?_ _)); refine bpu (cs := #[.slice Ao10 t167.length co10, .int .i64 a0_1, .int .i64 a0_2, .int .i64 0, .int .i64 0, .bool false]) ?_ 3 _ rfl; (with_reducible repeat (first | refine bdN ?_ _ | refine bkD ?_ | refine bkA ?_ _)); refine bpu (cs := #[.slice Ao10 t167.length co10, .int .i64 a0_1, .int .i64 0, .int .i64 0, .int .i64 0, .bool false]) ?_ 2 _ rfl; (with_reducible repeat (first | refine bdN ?_ _ | refine bkD ?_ | refine bkA ?_ _)); refine bpu (cs := #[.slice Ao10 t167.length co10, .int .i64 0, .int .i64 0, .int .i64 0, .int .i64 0, .bool false]) ?_ 1 _ rfl; (with_reducible repeat (first | refine bdN ?_ _ | refine bkD ?_ | refine bkA ?_ _)); refine bpu (cs := #[.slice none 0 0, .int .i64 0, .int .i64 0, .int .i64 0, .int .i64 0, .bool false]) ?_ 0 _ rfl; (with_reducible repeat (first | refine bdN ?_ _ | refine bkD ?_ | refine bkA ?_ _)); refine bfa ?_ NB165_166.out _; (with_reducible repeat (first | refine bdN ?_ _ | refine bkD ?_ | refine bkA ?_ _)); refine bfa ?_ NB165_166.out _; (with_reducible repeat (first | refine bdN ?_ _ | refine bkD ?_ | refine bkA ?_ _)); refine bfa ?_ NB165_166.out _; (with_reducible repeat (first | refine bdN ?_ _ | refine bkD ?_ | refine bkA ?_ _)); refine bfa ?_ NB165_166.out _; (with_reducible repeat (first | refine bdN ?_ _ | refine bkD ?_ | refine bkA ?_ _)); refine bfa ?_ NB165_166.out _; (with_reducible repeat (first | refine bdN ?_ _ | refine bkD ?_ | refine bkA ?_ _)); refine bfa ?_ NB165_166.out _; (with_reducible repeat (first | refine bdN ?_ _ | refine bkD ?_ | refine bkA ?_ _)); exact BK165.out) Try.underlying31 rfl (by kernel_rfl)) rfl ?_; exact ⟨_, qR, by (with_reducible repeat (first | apply Kd.Ral | apply Kd.RdN | apply Kd.Rdr)); exact Kd.Rmo (Kd.Rfa (p := ⟨gb165, 5, none⟩) (Kd.Rfa (p := ⟨gb165, 4, none⟩) (Kd.Rfa (p := ⟨gb165, 3, none⟩) (Kd.Rfa (p := ⟨gb165, 2, none⟩) (Kd.Rfa (p := ⟨gb165, 1, none⟩) (Kd.Rfa (p := ⟨gb165, 0, none⟩) (Kd.Rfa (p := ⟨gb166, 5, none⟩) (Kd.Rfa (p := ⟨gb166, 4, none⟩) (Kd.Rfa (p := ⟨gb166, 3, none⟩) (Kd.Rfa (p := ⟨gb166, 2, none⟩) (Kd.Rfa (p := ⟨gb166, 1, none⟩) (Kd.Rfa (p := ⟨gb166, 0, none⟩) (Kd.Rty (Kd.Rty HO169.out BK166.out (by decide)) BK165.out (by decide)) (fun _ hk => hk.1.2) (.slice Ao10 t167.length co10)) (fun _ hk => hk.1.2) (.int .i64 a0_1)) (fun _ hk => hk.1.2) (.int .i64 a0_2)) (fun _ hk => hk.1.2) (.int .i64 a0_3)) (fun _ hk => hk.1.2) (.int .i64 a0_4)) (fun _ hk => hk.1.2) (.bool a0_5)) (fun _ hk => hk.2) (.slice Ao10 t167.length co10)) (fun _ hk => hk.2) (.int .i64 a0_1)) (fun _ hk => hk.2) (.int .i64 a0_2)) (fun _ hk => hk.2) (.int .i64 a0_3)) (fun _ hk => hk.2) (.int .i64 a0_4)) (fun _ hk => hk.2) (.bool a0_5)) (fun _ hk => trivial), qB⟩
def laws_toFsOp.f (a0_0 : Int) (a0_1 : ByteArray) (a0_2 : ByteArray) (a0_3 : Int) : Option (Int × ByteArray × ByteArray × Int) := some (a0_0, a0_1, a0_2, a0_3)
set_option maxHeartbeats 8000000 in
set_option maxRecDepth 100000 in
theorem laws_toFsOp.calls (a0_0 : Int) (a0_1 : ByteArray) (a0_2 : ByteArray) (a0_3 : Int) (r1 : Int) (r2 : ByteArray) (r3 : ByteArray) (r4 : Int) (w : World) (h : laws_toFsOp.f a0_0 a0_1 a0_2 a0_3 = some (r1, r2, r3, r4)) :
    Calls Try.prog 10 #[.agg #[.int .i64 a0_0, .string a0_1, .string a0_2, .int .i64 a0_3]] w fun e w' => e = .returned (.agg #[.int .i64 r1, .string r2, .string r3, .int .i64 r4]) ∧ Below w.heap.size w w' := by
  have hu26 := Try.underlying26; have hu35 := Try.underlying35; have HB := qK (Below.refl w.heap.size w); have H : (some (a0_0, a0_1, a0_2, a0_3)) = some (r1, r2, r3, r4) := h; clear h; simp only [Option.some.injEq, Prod.mk.injEq] at H; obtain ⟨rfl, rfl, rfl, rfl⟩ := H; go_enter Try.func10, Try.ntmps10; go_wp2_with (first | ((with_reducible refine gds (N := 1) rfl ?_); refine qbx 1 #[.int .i64 a0_0, .string a0_1, .string a0_2, .int .i64 a0_3] 26 ?_; intro gb170 hg w2 hbox hb; have BK170 := qK (hbox); have GW170 := qK ((qW : w.heap.size ≤ gb170)); have GE170 := GW170; replace HB := qHB HB hb; clear hb hbox hg) | ((with_reducible refine gds (N := 2) rfl ?_); refine qbx 2 #[.int .i64 0, .string (⟨#[]⟩ : ByteArray), .string (⟨#[]⟩ : ByteArray), .int .i64 0] 35 ?_; intro gb171 hg w3 hbox hb; have BK171 := qK (hbox); have GW171 := qK ((qW : w.heap.size ≤ gb171)); have GE171 := GW171; replace HB := qHB HB hb; have NB170_171 := qK (qlt BK170 hg); have NB171_170 := qK (qgt BK170 hg); replace BK170 := qbb BK170 hb; clear hb hbox hg) | ((with_reducible refine gds (N := 3) rfl ?_); refine qbx 3 #[.int .i64 0, .string (⟨#[]⟩ : ByteArray), .string (⟨#[]⟩ : ByteArray), .int .i64 0] 35 ?_; intro gb172 hg w4 hbox hb; have BK172 := qK (hbox); have GW172 := qK ((qW : w.heap.size ≤ gb172)); have GE172 := GW172; replace HB := qHB HB hb; have NB170_172 := qK (qlt BK170 hg); have NB172_170 := qK (qgt BK170 hg); replace BK170 := qbb BK170 hb; have NB171_172 := qK (qlt BK171 hg); have NB172_171 := qK (qgt BK171 hg); replace BK171 := qbb BK171 hb; clear hb hbox hg; have hnb5 := NB170_171.out; have hnc5 := NB171_170.out; have hnb6 := NB170_172.out; have hnc6 := NB172_170.out; have hz7 := qz4 BK170.out; have hnb8 := NB172_171.out; have hnc8 := NB171_172.out; have hz9 := qz4 BK172.out; have hz10 := qz4 BK171.out)); refine bodyPost_ret (results_cell_row rfl _ _ gb171 35 #[.int .i64 a0_0, .string a0_1, .string a0_2, .int .i64 a0_3] (0, 0) _ rfl (by (with_reducible repeat (first | refine bdN ?_ _ | refine bkD ?_ | refine bkA ?_ _)); refine bpu (cs := #[.int .i64 a0_0, .string a0_1, .string a0_2, .int .i64 0]) ?_ 3 _ rfl; (with_reducible repeat (first | refine bdN ?_ _ | refine bkD ?_ | refine bkA ?_ _)); refine bpu (cs := #[.int .i64 a0_0, .string a0_1, .string (⟨#[]⟩ : ByteArray), .int .i64 0]) ?_ 2 _ rfl; (with_reducible repeat (first | refine bdN ?_ _ | refine bkD ?_ | refine bkA ?_ _)); refine bpu (cs := #[.int .i64 a0_0, .string (⟨#[]⟩ : ByteArray), .string (⟨#[]⟩ : ByteArray), .int .i64 0]) ?_ 1 _ rfl; (with_reducible repeat (first | refine bdN ?_ _ | refine bkD ?_ | refine bkA ?_ _)); refine bpu (cs := #[.int .i64 0, .string (⟨#[]⟩ : ByteArray), .string (⟨#[]⟩ : ByteArray), .int .i64 0]) ?_ 0 _ rfl; (with_reducible repeat (first | refine bdN ?_ _ | refine bkD ?_ | refine bkA ?_ _)); refine bfa ?_ NB171_172.out _; (with_reducible repeat (first | refine bdN ?_ _ | refine bkD ?_ | refine bkA ?_ _)); refine bfa ?_ NB171_172.out _; (with_reducible repeat (first | refine bdN ?_ _ | refine bkD ?_ | refine bkA ?_ _)); refine bfa ?_ NB171_172.out _; (with_reducible repeat (first | refine bdN ?_ _ | refine bkD ?_ | refine bkA ?_ _)); refine bfa ?_ NB171_172.out _; (with_reducible repeat (first | refine bdN ?_ _ | refine bkD ?_ | refine bkA ?_ _)); exact BK171.out) Try.underlying35 rfl (by kernel_rfl)) rfl ?_; exact ⟨qR, qB⟩
end Go.Proofs.Ytoebfjfhdodakaa.L
end
section
namespace Go.Proofs.Ytoebfjfhdodakaa
open Go.RowKit Go.Proofs.YtoebfjfhdodakaaW.PrintWords
/-- Do the bytes of s from i on, so many, all answer yes? -/
def allFrom (p : Int → Bool) (s : ByteArray) : Nat → Nat → Bool
  | 0, _ => true
  | d + 1, i => p (bt s i) && allFrom p s d (i + 1)
/-- A byte of a file's name. -/
def fileByte (c : Int) : Bool := (decide (97 ≤ c) && decide (c ≤ 122)) || (decide (48 ≤ c) && decide (c ≤ 57)) || c == 45
end Go.Proofs.Ytoebfjfhdodakaa
end
section
namespace Go.Proofs.Ytoebfjfhdodakaa.L
open Go.RowKit Go.Proofs.YtoebfjfhdodakaaW.PrintWords Go.Proofs.YtoebfjfhdodakaaW.PrintLast Go.Proofs.YtoebfjfhdodakaaW.PrintMore
attribute [local go_sem] max2_int min2_int max_two min_two max_three min_three max_four min_four
set_option linter.unusedVariables false
set_option linter.unusedSimpArgs false
set_option maxHeartbeats 400000 in
theorem all_any (F : Nat) (p : Int → Bool) (hF : ∀ (b : Int) (w : World), 0 ≤ b → b ≤ 255 → Calls Try.prog F #[.int .u8 b] w fun e w' => e = .returned (.bool (p b)) ∧ Drawn0 w w')
    (hE : ∀ args w, (callFunc F args).run Try.prog w = .ok (.enter F args) w) (s : ByteArray) (w : World) (hs : s.size ≤ 9223372036854775807) :
    Calls Try.prog 52 #[.string s, .func (.func F) #[] #[]] w fun e w' => e = .returned (.bool (allFrom p s s.size 0)) ∧ Drawn0 w w' := by
  have HF := Aside0.mk hF
  clear hF
  go_enter Try.func52, Try.ntmps52
  go_wp2
  go_loopg [8, 5] s.size (fun g s8 _ wx => ∃ i : Nat, i + g = s.size ∧ s8 = .int .i64 i ∧ Aside0 (allFrom p s s.size 0 = allFrom p s g i) ∧ Drawn0 w wx)
  case atStart => exact ⟨0, by omega, rfl, ⟨rfl⟩, Drawn0.refl _⟩
  case round =>
    obtain ⟨i, hig, rfl, HR, ⟨m, rfl⟩⟩ := hrel
    cases gk with
    | zero =>
      obtain rfl : i = s.size := by omega
      go_wp2
      go_ret
      exact ⟨by rw [HR.out]; rfl, ⟨⟨m, rfl⟩⟩⟩
    | succ g =>
      have hi : i < s.size := by omega
      have hiz : (i : Int) < s.size := by omega
      have hb : ((s[i]'hi).toNat : Int) = bt s i := by simp [bt, hi]
      obtain ⟨b, hbe⟩ : ∃ b, bt s i = b := ⟨_, rfl⟩
      have hbr := bt_range s i
      rw [hbe] at hb hbr
      have HS : Aside0 (allFrom p s s.size 0 = (p b && allFrom p s g (i + 1))) := ⟨by rw [HR.out, ← hbe]; rfl⟩
      clear hbe HR
      cases hp : p b
      · go_wp2_with ((with_reducible refine (HF.out b _ hbr.1 hbr.2).mono ?_); rintro e w' ⟨rfl, ⟨n, rfl⟩⟩; rw [hp])
        go_ret
        exact ⟨by rw [HS.out, hp]; rfl, ⟨⟨_, rfl⟩⟩⟩
      · go_wp2_with ((with_reducible refine (HF.out b _ hbr.1 hbr.2).mono ?_); rintro e w' ⟨rfl, ⟨n, rfl⟩⟩; rw [hp])
        go_roundg g
        case measure => omega
        case rel => exact ⟨i + 1, by omega, by first | rfl | simp, ⟨by rw [HS.out, hp]; rfl⟩, ⟨⟨_, rfl⟩⟩⟩
def impl_isLetter.f (a0 : Int) : Option (Bool) := if a0 ≥ 97 then (some (decide (a0 ≤ 122))) else (some false)
set_option maxHeartbeats 8000000 in
set_option maxRecDepth 100000 in
theorem impl_isLetter.calls (a0 : Int) (r : Bool) (w : World) (h : impl_isLetter.f a0 = some r) :
    Calls Try.prog 54 #[.int .u8 a0] w fun e w' => e = .returned (.bool r) ∧ Drawn0 w w' := by
  have H : (if a0 ≥ 97 then (some (decide (a0 ≤ 122))) else (some false)) = some r := h; clear h; by_cases c2 : a0 ≥ 97
  · rw [if_pos c2] at H; have c2b0 : decide (97 ≤ a0) = true := decide_eq_true c2; clear c2; obtain rfl := Option.some.inj H; go_enter Try.func54, Try.ntmps54; go_wp2; go_ret; exact ⟨by first | rfl | (simp; done) | (simp [*]; done), by repeat (first | exact Drawn0.refl _ | apply Drawn0.step)⟩
  · rw [if_neg c2] at H; have c2b0 : decide (97 ≤ a0) = false := decide_eq_false c2; clear c2; obtain rfl := Option.some.inj H; go_enter Try.func54, Try.ntmps54; go_wp2; go_ret; exact ⟨by first | rfl | (simp; done) | (simp [*]; done), by repeat (first | exact Drawn0.refl _ | apply Drawn0.step)⟩
def impl_isDigit.f (a0 : Int) : Option (Bool) := if a0 ≥ 48 then (some (decide (a0 ≤ 57))) else (some false)
set_option maxHeartbeats 8000000 in
set_option maxRecDepth 100000 in
theorem impl_isDigit.calls (a0 : Int) (r : Bool) (w : World) (h : impl_isDigit.f a0 = some r) :
    Calls Try.prog 55 #[.int .u8 a0] w fun e w' => e = .returned (.bool r) ∧ Drawn0 w w' := by
  have H : (if a0 ≥ 48 then (some (decide (a0 ≤ 57))) else (some false)) = some r := h; clear h; by_cases c2 : a0 ≥ 48
  · rw [if_pos c2] at H; have c2b0 : decide (48 ≤ a0) = true := decide_eq_true c2; clear c2; obtain rfl := Option.some.inj H; go_enter Try.func55, Try.ntmps55; go_wp2; go_ret; exact ⟨by first | rfl | (simp; done) | (simp [*]; done), by repeat (first | exact Drawn0.refl _ | apply Drawn0.step)⟩
  · rw [if_neg c2] at H; have c2b0 : decide (48 ≤ a0) = false := decide_eq_false c2; clear c2; obtain rfl := Option.some.inj H; go_enter Try.func55, Try.ntmps55; go_wp2; go_ret; exact ⟨by first | rfl | (simp; done) | (simp [*]; done), by repeat (first | exact Drawn0.refl _ | apply Drawn0.step)⟩
def impl_isFileName_1.f (a0 : Int) : Option (Bool) := (impl_isLetter.f a0).bind fun t173 => (if t173 = true then (some true) else ((impl_isDigit.f a0).bind fun t174 => (if t174 = true then (some true) else (some (a0 == 45)))))
set_option maxHeartbeats 8000000 in
set_option maxRecDepth 100000 in
theorem impl_isFileName_1.calls (a0 : Int) (r : Bool) (w : World) (h : impl_isFileName_1.f a0 = some r) :
    Calls Try.prog 53 #[.int .u8 a0] w fun e w' => e = .returned (.bool r) ∧ Drawn0 w w' := by
  have H : ((impl_isLetter.f a0).bind fun t173 => (if t173 = true then (some true) else ((impl_isDigit.f a0).bind fun t174 => (if t174 = true then (some true) else (some (a0 == 45)))))) = some r := h; clear h; replace H := Option.bind_eq_some_iff.mp H; obtain ⟨t173, A20, H⟩ := H; have A2 := qK A20; clear A20; by_cases c3 : t173 = true
  · subst c3; rw [if_pos rfl] at H; obtain rfl := Option.some.inj H; go_enter Try.func53, Try.ntmps53; go_wp2_with (first | ((with_reducible refine gcl (f := 54) rfl ?_); refine goesL_ (some 4) rfl rfl Try.func54 (by kernel_rfl) rfl #[.int .u8 a0] rfl qA ?_; (with_reducible refine (impl_isLetter.calls a0 true _ A2.out).mono ?_); rintro e w' ⟨rfl, ⟨nd, rfl⟩⟩; refine ⟨_, rfl, ?_⟩)); go_ret; exact ⟨by first | rfl | (simp; done) | (simp [*]; done), by repeat (first | exact Drawn0.refl _ | apply Drawn0.step)⟩
  · replace c3 := Bool.eq_false_iff.mpr c3; subst c3; rw [if_neg qff] at H; replace H := Option.bind_eq_some_iff.mp H; obtain ⟨t174, A40, H⟩ := H; have A4 := qK A40; clear A40; by_cases c5 : t174 = true
    · subst c5; rw [if_pos rfl] at H; obtain rfl := Option.some.inj H; go_enter Try.func53, Try.ntmps53; go_wp2_with (first | ((with_reducible refine gcl (f := 54) rfl ?_); refine goesL_ (some 4) rfl rfl Try.func54 (by kernel_rfl) rfl #[.int .u8 a0] rfl qA ?_; (with_reducible refine (impl_isLetter.calls a0 false _ A2.out).mono ?_); rintro e w' ⟨rfl, ⟨nd, rfl⟩⟩; refine ⟨_, rfl, ?_⟩) | (go_at_call 55; (with_reducible refine (impl_isDigit.calls a0 true _ A4.out).mono ?_); rintro e w' ⟨rfl, ⟨nd, rfl⟩⟩)); go_ret; exact ⟨by first | rfl | (simp; done) | (simp [*]; done), by repeat (first | exact Drawn0.refl _ | apply Drawn0.step)⟩
    · replace c5 := Bool.eq_false_iff.mpr c5; subst c5; rw [if_neg qff] at H; obtain rfl := Option.some.inj H; go_enter Try.func53, Try.ntmps53; go_wp2_with (first | ((with_reducible refine gcl (f := 54) rfl ?_); refine goesL_ (some 4) rfl rfl Try.func54 (by kernel_rfl) rfl #[.int .u8 a0] rfl qA ?_; (with_reducible refine (impl_isLetter.calls a0 false _ A2.out).mono ?_); rintro e w' ⟨rfl, ⟨nd, rfl⟩⟩; refine ⟨_, rfl, ?_⟩) | (go_at_call 55; (with_reducible refine (impl_isDigit.calls a0 false _ A4.out).mono ?_); rintro e w' ⟨rfl, ⟨nd, rfl⟩⟩)); go_ret; exact ⟨by first | rfl | (simp; done) | (simp [*]; done), by repeat (first | exact Drawn0.refl _ | apply Drawn0.step)⟩
theorem fileByte_eq (c : Int) : impl_isFileName_1.f c = some (fileByte c) := by
  unfold impl_isFileName_1.f impl_isLetter.f impl_isDigit.f fileByte
  by_cases h1 : 97 ≤ c <;> by_cases h2 : c ≤ 122 <;> by_cases h3 : 48 ≤ c <;> by_cases h4 : c ≤ 57 <;> simp [h1, h2, h3, h4]
set_option maxHeartbeats 800000 in
theorem isFileName_any (s : ByteArray) (w : World) (hs : s.size ≤ 9223372036854775807) :
    Calls Try.prog 32 #[.string s] w fun e w' => e = .returned (.bool (decide (1 ≤ s.size) && decide (s.size ≤ 30) && allFrom fileByte s s.size 0)) ∧ Drawn0 w w' := by
  have hall : ∀ w, Calls Try.prog 52 #[.string s, .func (.func 53) #[] #[]] w fun e w' => e = .returned (.bool (allFrom fileByte s s.size 0)) ∧ Drawn0 w w' := fun w =>
    all_any _ fileByte (fun b w _ _ => impl_isFileName_1.calls b _ w (fileByte_eq b)) (fun args w => enters_ (fn := Try.f53) (by kernel_rfl) (by rfl) (by rfl) args w) s w hs
  have HA := Aside0.mk hall
  clear hall
  obtain ⟨r, hr⟩ : ∃ r, allFrom fileByte s s.size 0 = r := ⟨_, rfl⟩
  rw [hr] at HA ⊢
  by_cases h1 : 1 ≤ s.size
  · have h1b : decide ((1 : Int) ≤ (s.size : Int)) = true := decide_eq_true (by omega)
    by_cases h2 : s.size ≤ 30
    · have h2b : decide ((s.size : Int) ≤ 30) = true := decide_eq_true (by omega)
      go_enter Try.func32, Try.ntmps32
      go_wp2_with ((with_reducible refine (HA.out _).mono ?_); rintro e w' ⟨rfl, ⟨n, rfl⟩⟩)
      go_ret
      exact ⟨by simp [h1, h2], ⟨⟨_, rfl⟩⟩⟩
    · have h2b : decide ((s.size : Int) ≤ 30) = false := decide_eq_false (by omega)
      go_enter Try.func32, Try.ntmps32
      go_wp2
      go_ret
      exact ⟨by simp [h1, h2], Drawn0.refl _⟩
  · have h1b : decide ((1 : Int) ≤ (s.size : Int)) = false := decide_eq_false (by omega)
    go_enter Try.func32, Try.ntmps32
    go_wp2
    go_ret
    exact ⟨by simp [h1], Drawn0.refl _⟩
def impl_isFileName.f (a0 : ByteArray) : Option Bool := if a0.size ≤ 9223372036854775807 then some (decide (1 ≤ a0.size) && decide (a0.size ≤ 30) && allFrom fileByte a0 a0.size 0) else none
theorem impl_isFileName.calls (a0 : ByteArray) (r : Bool) (w : World) (h : impl_isFileName.f a0 = some r) :
    Calls Try.prog 32 #[.string a0] w fun e w' => e = .returned (.bool r) ∧ Drawn0 w w' := by
  unfold impl_isFileName.f at h
  by_cases hs : a0.size ≤ 9223372036854775807
  · rw [if_pos hs] at h
    obtain rfl := Option.some.inj h
    exact isFileName_any a0 w hs
  · rw [if_neg hs] at h
    exact absurd h (by simp)
end Go.Proofs.Ytoebfjfhdodakaa.L
end
