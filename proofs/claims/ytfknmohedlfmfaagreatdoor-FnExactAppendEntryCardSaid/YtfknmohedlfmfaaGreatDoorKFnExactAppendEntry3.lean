/- The texts that the proof of the law FnExactAppendEntry rests on, part 3: printed functions with their contracts, words, plain laws; the last part ends in the statement itself. No condition but those that each theorem states. -/
import Derived.Test.YtfknmohedlfmfaaGreatDoorKFnExactAppendEntry2
set_option linter.unusedVariables false
set_option linter.unusedSimpArgs false
section
set_option linter.unusedVariables false
set_option linter.unusedSimpArgs false
namespace Go.Proofs.YtfknmohedlfmfaaGreatDoor.L
open Go Go.RowKit Go.Proofs Go.Proofs.YtfknmohedlfmfaaGreatDoor Go.Proofs.YtfknmohedlfmfaaGreatDoorW.PrintWords Go.Proofs.YtfknmohedlfmfaaGreatDoorW.PrintLast Go.Proofs.YtfknmohedlfmfaaGreatDoorW.PrintMore
theorem blk_setRow {w : World} {g g' : Nat} {o : Obj} (h : w.heap[g']? = some o) (hne : g' ≠ g) (cs : Array Value) : (w.setRow g cs).heap[g']? = some o := by
  simp only [World.setRow, Array.getElem?_modify]
  rw [if_neg (fun e => hne e.symm)]
  exact h
theorem row_keep {w : World} {B g : Nat} {v : Value} {l : List FileT} {cs : Array Value} (h : Kd.R FileK 61 w B (fun _ => True) v l) (hX : w.heap[g]? = some (.cells cs 30 (0, 0))) (row : Array Value) :
    Kd.R FileK 61 (w.setRow g row) B (fun _ => True) v l :=
  Kd.Rmo (Kd.R_step (Kd.Rty h hX (by decide)) (fun k hk _ => by simp only [World.setRow, Array.getElem?_modify]; rw [if_neg (fun e => hk.2 e.symm)])) (fun _ _ => trivial)
theorem cell_keep {w : World} {B g : Nat} {v : Value} {l : List FileT} {cs : Array Value} (h : Kd.R FileK 61 w B (fun _ => True) v l) (hX : w.heap[g]? = some (.cells cs 30 (0, 0))) (j : Nat) (u : Value) :
    Kd.R FileK 61 (w.setCell ⟨g, j, none⟩ u) B (fun _ => True) v l :=
  Kd.Rmo (Kd.Rfa (p := ⟨g, j, none⟩) (Kd.Rty h hX (by decide)) (fun k hk => hk.2) u) (fun _ _ => trivial)
set_option maxHeartbeats 8000000 in
set_option maxRecDepth 100000 in
theorem specStep_down (A : Option Addr) (c : Nat) (l : List FileT) (cap cnt cr fa : Int) (dn : Bool) (kind : Int) (name data : ByteArray) (size : Int) (w : World)
    (hr : Kd.C FileK w A l.length l) (hval : ∀ w', Kd.C FileK w' A l.length l → Calls Tryz.prog 31 #[.agg #[.slice A l.length c, .int .i64 cap, .int .i64 cnt, .int .i64 cr, .int .i64 fa, .bool dn]] w' fun e w'' => e = .returned (.bool true) ∧ Below w'.heap.size w' w'') (hbet : ∀ w', Calls Tryz.prog 15 #[.int .i64 kind, .int .i64 1, .int .i64 5] w' fun e w'' => e = .returned (.bool true) ∧ Drawn0 w' w'') (hname : ∀ w', Calls Tryz.prog 32 #[.string name] w' fun e w'' => e = .returned (.bool true) ∧ Drawn0 w' w'') (hcopy : ∀ w', Kd.C FileK w' A l.length l → Calls Tryz.prog 16 #[.agg #[.slice A l.length c, .int .i64 cap, .int .i64 cnt, .int .i64 cr, .int .i64 fa, .bool dn]] w' fun e w'' => ∃ v, e = .returned (.agg #[v, .int .i64 cap, .int .i64 (cnt), .int .i64 cr, .int .i64 fa, .bool dn]) ∧ Kd.R FileK 61 w'' w'.heap.size (fun _ => True) v l ∧ Below w'.heap.size w' w'')
    (hdn : dn = true) :
    Calls Tryz.prog 17 #[.agg #[.slice A l.length c, .int .i64 cap, .int .i64 cnt, .int .i64 cr, .int .i64 fa, .bool dn], .agg #[.int .i64 kind, .string name, .string data, .int .i64 size]] w fun e w' => ∃ v0_ : Value, e = .returned (.tuple #[.agg #[v0_, .int .i64 cap, .int .i64 (cnt), .int .i64 cr, .int .i64 fa, .bool dn], .int .i64 11]) ∧ Kd.R FileK 61 w' w.heap.size (fun _ => True) v0_ l ∧ Below w.heap.size w w' := by
  subst hdn
  have HR := Aside0.mk hr
  have HV := Aside0.mk hval
  have HBT := Aside0.mk hbet
  have HN := Aside0.mk hname
  have HCP := Aside0.mk hcopy
  clear hr hval hbet hname hcopy
  go_enter Tryz.func17, Tryz.ntmps17
  go_upto_region 4 with (first | ((with_reducible refine gds (N := 2) rfl ?_); refine qbx 2 #[.slice A l.length c, .int .i64 cap, .int .i64 cnt, .int .i64 cr, .int .i64 fa, .bool true] 30 ?_; intro gb hg w1 hbox hb; have HB := Aside0.mk hb; have HX := Aside0.mk hbox; have HGB := Aside0.mk (Nat.le_of_eq hg.symm); clear hb hbox hg) | ((with_reducible refine gds (N := 3) rfl ?_); refine qbx 3 #[.int .i64 kind, .string name, .string data, .int .i64 size] 48 ?_; intro go_ hg w2 hbox hb; have HX2 := Aside0.mk (bbe HX.out hb); have HO2 := Aside0.mk hbox; have HB2 := Aside0.mk (bst HB.out hb); have HGO := Aside0.mk (Nat.ne_of_gt (hg ▸ blt HX.out : gb < go_)); clear hb hbox hg) | ((with_reducible refine gds (N := 4) rfl ?_); refine qbx 4 #[.slice none 0 0, .int .i64 0, .int .i64 0, .int .i64 0, .int .i64 0, .bool false] 30 ?_; intro gr hg w3 hbox hb; have HX3 := Aside0.mk (bbe HX2.out hb); have HO3 := Aside0.mk (bbe HO2.out hb); have HY3 := Aside0.mk hbox; have HB3 := Aside0.mk (bst HB2.out hb); have HG3 := Aside0.mk (And.intro (Nat.le_trans HB2.out.size (Nat.le_of_eq hg.symm)) (Nat.ne_of_gt (hg ▸ blt HX2.out : gb < gr))); clear hb hbox hg) | ((with_reducible refine gds (N := 6) rfl ?_); refine wpList_load_row rfl 30 (.tmp 2) rfl gb ?hp 30 #[.slice A l.length c, .int .i64 cap, .int .i64 cnt, .int .i64 cr, .int .i64 fa, .bool true] (0, 0) _ ?hg Tryz.underlying30 ?ha ?hi ?_; (case hp => rfl); (case hg => exact HX3.out); (case ha => rfl); (case hi => exact infoFs)) | (go_at_call 31; (with_reducible refine (HV.out _ (Kd.Cbe HR.out HB3.out)).mono ?_); rintro e w4 ⟨rfl, hb⟩; have HX4 := Aside0.mk (bbe HX3.out hb); have HO4 := Aside0.mk (bbe HO3.out hb); have HY4 := Aside0.mk (bbe HY3.out hb); have HB4 := Aside0.mk (bst HB3.out hb); have hz4 := qz4 HO4.out; clear hb) | (go_at_call 15; (with_reducible refine (HBT.out _).mono ?_); rintro e w' ⟨rfl, m1, rfl⟩; have HX5 := Aside0.mk (bdN HX4.out m1); have HO5 := Aside0.mk (bdN HO4.out m1); have HY5 := Aside0.mk (bdN HY4.out m1); have HB5 := Aside0.mk (pbd HB4.out m1); clear hz4; have hz5 := qz4 HO5.out) | (go_at_call 32; (with_reducible refine (HN.out _).mono ?_); rintro e w' ⟨rfl, m2, rfl⟩; have HX6 := Aside0.mk (bdN HX4.out (m1 + m2)); have HO6 := Aside0.mk (bdN HO4.out (m1 + m2)); have HY6 := Aside0.mk (bdN HY4.out (m1 + m2)); have HB6 := Aside0.mk (pbd HB4.out (m1 + m2)); clear hz5) | ((with_reducible refine gds (N := 22) rfl ?_); refine wpList_load_row rfl 30 (.tmp 2) rfl gb ?hp 30 #[.slice A l.length c, .int .i64 cap, .int .i64 cnt, .int .i64 cr, .int .i64 fa, .bool true] (0, 0) _ ?hg Tryz.underlying30 ?ha ?hi ?_; (case hp => rfl); (case hg => exact HX6.out); (case ha => rfl); (case hi => exact infoFs)) | (go_at_call 16; (with_reducible refine (HCP.out _ (Kd.Cbe HR.out HB6.out)).mono ?_); rintro e w7 ⟨v, rfl, ho, hb⟩; obtain ⟨A2, c2, rfl⟩ := Kd.R_slice ho; have HX7 := Aside0.mk (bbe HX6.out hb); have HO7 := Aside0.mk (bbe HO6.out hb); have HY7 := Aside0.mk (bbe HY6.out hb); have HV7 := Aside0.mk (Kd.Rlo ho HB6.out.size); have HB7 := Aside0.mk (bst HB6.out hb); clear ho hb) | ((with_reducible refine gst (t := 30) (p := 2) rfl ?_); refine wpList_store_row rfl 30 (.tmp 2) (.tmp 23) rfl gb #[.slice A2 l.length c2, .int .i64 cap, .int .i64 (cnt), .int .i64 cr, .int .i64 fa, .bool true] ?hx ?hy 30 #[.slice A l.length c, .int .i64 cap, .int .i64 cnt, .int .i64 cr, .int .i64 fa, .bool true] ?hg ?hi ?ho ?h1 ?_; (case hx => rfl); (case hy => rfl); (case hg => exact HX7.out); (case hi => exact infoFs); (case ho => rfl); (case h1 => simp [Value.oneCell'])))
  have HX8 := Aside0.mk (heap_setRow_sameF (cs' := #[.slice A2 l.length c2, .int .i64 cap, .int .i64 (cnt), .int .i64 cr, .int .i64 fa, .bool true]) HX7.out)
  have HO8 := Aside0.mk (blk_setRow HO7.out HGO.out #[.slice A2 l.length c2, .int .i64 cap, .int .i64 (cnt), .int .i64 cr, .int .i64 fa, .bool true])
  have HY8 := Aside0.mk (blk_setRow HY7.out HG3.out.2 #[.slice A2 l.length c2, .int .i64 cap, .int .i64 (cnt), .int .i64 cr, .int .i64 fa, .bool true])
  have HV8 := Aside0.mk (row_keep HV7.out HX7.out #[.slice A2 l.length c2, .int .i64 cap, .int .i64 (cnt), .int .i64 cr, .int .i64 fa, .bool true])
  have HB8 := Aside0.mk (below_setRowF HB7.out HGB.out #[.slice A2 l.length c2, .int .i64 cap, .int .i64 (cnt), .int .i64 cr, .int .i64 fa, .bool true])
  generalize w7.setRow gb #[.slice A2 l.length c2, .int .i64 cap, .int .i64 (cnt), .int .i64 cr, .int .i64 fa, .bool true] = w8 at HX8 HO8 HY8 HV8 HB8 ⊢
  clear HX7 HO7 HY7 HV7 HB7
  have hx8 := qz6 HX8.out
  go_wp2_with (first | ((with_reducible refine gds (N := 26) rfl ?_); refine wpList_load_row rfl 30 (.tmp 2) rfl gb ?hp 30 #[.slice A2 l.length c2, .int .i64 cap, .int .i64 (cnt), .int .i64 cr, .int .i64 fa, .bool true] (0, 0) _ ?hg Tryz.underlying30 ?ha ?hi ?_; (case hp => rfl); (case hg => exact HX8.out); (case ha => rfl); (case hi => exact infoFs)) | ((with_reducible refine gst (t := 30) (p := 4) rfl ?_); refine wpList_store_row rfl 30 (.tmp 4) (.tmp 26) rfl gr #[.slice A2 l.length c2, .int .i64 cap, .int .i64 (cnt), .int .i64 cr, .int .i64 fa, .bool true] ?hx ?hy 30 #[.slice none 0 0, .int .i64 0, .int .i64 0, .int .i64 0, .int .i64 0, .bool false] ?hg ?hi ?ho ?h1 ?_; (case hx => rfl); (case hy => rfl); (case hg => exact HY8.out); (case hi => exact infoFs); (case ho => rfl); (case h1 => simp [Value.oneCell'])))
  refine bodyPost_ret (results_ct rfl _ _ gr 30 #[.slice A2 l.length c2, .int .i64 cap, .int .i64 (cnt), .int .i64 cr, .int .i64 fa, .bool true] (0, 0) _ rfl (heap_setRow_sameF HY8.out) Tryz.underlying30 rfl infoFs) rfl ⟨_, rfl, ?_, ?_⟩
  · exact row_keep HV8.out HY8.out _
  · exact below_setRowF HB8.out HG3.out.1 _
set_option maxHeartbeats 8000000 in
set_option maxRecDepth 100000 in
theorem specStep_stop (A : Option Addr) (c : Nat) (l : List FileT) (cap cnt cr fa : Int) (dn : Bool) (kind : Int) (name data : ByteArray) (size : Int) (w : World)
    (hr : Kd.C FileK w A l.length l) (hval : ∀ w', Kd.C FileK w' A l.length l → Calls Tryz.prog 31 #[.agg #[.slice A l.length c, .int .i64 cap, .int .i64 cnt, .int .i64 cr, .int .i64 fa, .bool dn]] w' fun e w'' => e = .returned (.bool true) ∧ Below w'.heap.size w' w'') (hbet : ∀ w', Calls Tryz.prog 15 #[.int .i64 kind, .int .i64 1, .int .i64 5] w' fun e w'' => e = .returned (.bool true) ∧ Drawn0 w' w'') (hname : ∀ w', Calls Tryz.prog 32 #[.string name] w' fun e w'' => e = .returned (.bool true) ∧ Drawn0 w' w'') (hcopy : ∀ w', Kd.C FileK w' A l.length l → Calls Tryz.prog 16 #[.agg #[.slice A l.length c, .int .i64 cap, .int .i64 cnt, .int .i64 cr, .int .i64 fa, .bool dn]] w' fun e w'' => ∃ v, e = .returned (.agg #[v, .int .i64 cap, .int .i64 (cnt), .int .i64 cr, .int .i64 fa, .bool dn]) ∧ Kd.R FileK 61 w'' w'.heap.size (fun _ => True) v l ∧ Below w'.heap.size w' w'')
    (hdn : dn = false) (hcnt : cnt = 1000000000000000) :
    Calls Tryz.prog 17 #[.agg #[.slice A l.length c, .int .i64 cap, .int .i64 cnt, .int .i64 cr, .int .i64 fa, .bool dn], .agg #[.int .i64 kind, .string name, .string data, .int .i64 size]] w fun e w' => ∃ v0_ : Value, e = .returned (.tuple #[.agg #[v0_, .int .i64 cap, .int .i64 (cnt), .int .i64 cr, .int .i64 fa, .bool dn], .int .i64 12]) ∧ Kd.R FileK 61 w' w.heap.size (fun _ => True) v0_ l ∧ Below w.heap.size w w' := by
  subst hdn
  have k1 : (cnt == 1000000000000000) = true := beq_iff_eq.mpr hcnt
  clear hcnt
  have HR := Aside0.mk hr
  have HV := Aside0.mk hval
  have HBT := Aside0.mk hbet
  have HN := Aside0.mk hname
  have HCP := Aside0.mk hcopy
  clear hr hval hbet hname hcopy
  go_enter Tryz.func17, Tryz.ntmps17
  go_upto_region 4 with (first | ((with_reducible refine gds (N := 2) rfl ?_); refine qbx 2 #[.slice A l.length c, .int .i64 cap, .int .i64 cnt, .int .i64 cr, .int .i64 fa, .bool false] 30 ?_; intro gb hg w1 hbox hb; have HB := Aside0.mk hb; have HX := Aside0.mk hbox; have HGB := Aside0.mk (Nat.le_of_eq hg.symm); clear hb hbox hg) | ((with_reducible refine gds (N := 3) rfl ?_); refine qbx 3 #[.int .i64 kind, .string name, .string data, .int .i64 size] 48 ?_; intro go_ hg w2 hbox hb; have HX2 := Aside0.mk (bbe HX.out hb); have HO2 := Aside0.mk hbox; have HB2 := Aside0.mk (bst HB.out hb); have HGO := Aside0.mk (Nat.ne_of_gt (hg ▸ blt HX.out : gb < go_)); clear hb hbox hg) | ((with_reducible refine gds (N := 4) rfl ?_); refine qbx 4 #[.slice none 0 0, .int .i64 0, .int .i64 0, .int .i64 0, .int .i64 0, .bool false] 30 ?_; intro gr hg w3 hbox hb; have HX3 := Aside0.mk (bbe HX2.out hb); have HO3 := Aside0.mk (bbe HO2.out hb); have HY3 := Aside0.mk hbox; have HB3 := Aside0.mk (bst HB2.out hb); have HG3 := Aside0.mk (And.intro (Nat.le_trans HB2.out.size (Nat.le_of_eq hg.symm)) (Nat.ne_of_gt (hg ▸ blt HX2.out : gb < gr))); clear hb hbox hg) | ((with_reducible refine gds (N := 6) rfl ?_); refine wpList_load_row rfl 30 (.tmp 2) rfl gb ?hp 30 #[.slice A l.length c, .int .i64 cap, .int .i64 cnt, .int .i64 cr, .int .i64 fa, .bool false] (0, 0) _ ?hg Tryz.underlying30 ?ha ?hi ?_; (case hp => rfl); (case hg => exact HX3.out); (case ha => rfl); (case hi => exact infoFs)) | (go_at_call 31; (with_reducible refine (HV.out _ (Kd.Cbe HR.out HB3.out)).mono ?_); rintro e w4 ⟨rfl, hb⟩; have HX4 := Aside0.mk (bbe HX3.out hb); have HO4 := Aside0.mk (bbe HO3.out hb); have HY4 := Aside0.mk (bbe HY3.out hb); have HB4 := Aside0.mk (bst HB3.out hb); have hz4 := qz4 HO4.out; clear hb) | (go_at_call 15; (with_reducible refine (HBT.out _).mono ?_); rintro e w' ⟨rfl, m1, rfl⟩; have HX5 := Aside0.mk (bdN HX4.out m1); have HO5 := Aside0.mk (bdN HO4.out m1); have HY5 := Aside0.mk (bdN HY4.out m1); have HB5 := Aside0.mk (pbd HB4.out m1); clear hz4; have hz5 := qz4 HO5.out) | (go_at_call 32; (with_reducible refine (HN.out _).mono ?_); rintro e w' ⟨rfl, m2, rfl⟩; have HX6 := Aside0.mk (bdN HX4.out (m1 + m2)); have HO6 := Aside0.mk (bdN HO4.out (m1 + m2)); have HY6 := Aside0.mk (bdN HY4.out (m1 + m2)); have HB6 := Aside0.mk (pbd HB4.out (m1 + m2)); clear hz5) | ((with_reducible refine gds (N := 22) rfl ?_); refine wpList_load_row rfl 30 (.tmp 2) rfl gb ?hp 30 #[.slice A l.length c, .int .i64 cap, .int .i64 cnt, .int .i64 cr, .int .i64 fa, .bool false] (0, 0) _ ?hg Tryz.underlying30 ?ha ?hi ?_; (case hp => rfl); (case hg => exact HX6.out); (case ha => rfl); (case hi => exact infoFs)) | (go_at_call 16; (with_reducible refine (HCP.out _ (Kd.Cbe HR.out HB6.out)).mono ?_); rintro e w7 ⟨v, rfl, ho, hb⟩; obtain ⟨A2, c2, rfl⟩ := Kd.R_slice ho; have HX7 := Aside0.mk (bbe HX6.out hb); have HO7 := Aside0.mk (bbe HO6.out hb); have HY7 := Aside0.mk (bbe HY6.out hb); have HV7 := Aside0.mk (Kd.Rlo ho HB6.out.size); have HB7 := Aside0.mk (bst HB6.out hb); clear ho hb) | ((with_reducible refine gst (t := 30) (p := 2) rfl ?_); refine wpList_store_row rfl 30 (.tmp 2) (.tmp 23) rfl gb #[.slice A2 l.length c2, .int .i64 cap, .int .i64 (cnt), .int .i64 cr, .int .i64 fa, .bool false] ?hx ?hy 30 #[.slice A l.length c, .int .i64 cap, .int .i64 cnt, .int .i64 cr, .int .i64 fa, .bool false] ?hg ?hi ?ho ?h1 ?_; (case hx => rfl); (case hy => rfl); (case hg => exact HX7.out); (case hi => exact infoFs); (case ho => rfl); (case h1 => simp [Value.oneCell'])))
  have HX8 := Aside0.mk (heap_setRow_sameF (cs' := #[.slice A2 l.length c2, .int .i64 cap, .int .i64 (cnt), .int .i64 cr, .int .i64 fa, .bool false]) HX7.out)
  have HO8 := Aside0.mk (blk_setRow HO7.out HGO.out #[.slice A2 l.length c2, .int .i64 cap, .int .i64 (cnt), .int .i64 cr, .int .i64 fa, .bool false])
  have HY8 := Aside0.mk (blk_setRow HY7.out HG3.out.2 #[.slice A2 l.length c2, .int .i64 cap, .int .i64 (cnt), .int .i64 cr, .int .i64 fa, .bool false])
  have HV8 := Aside0.mk (row_keep HV7.out HX7.out #[.slice A2 l.length c2, .int .i64 cap, .int .i64 (cnt), .int .i64 cr, .int .i64 fa, .bool false])
  have HB8 := Aside0.mk (below_setRowF HB7.out HGB.out #[.slice A2 l.length c2, .int .i64 cap, .int .i64 (cnt), .int .i64 cr, .int .i64 fa, .bool false])
  generalize w7.setRow gb #[.slice A2 l.length c2, .int .i64 cap, .int .i64 (cnt), .int .i64 cr, .int .i64 fa, .bool false] = w8 at HX8 HO8 HY8 HV8 HB8 ⊢
  clear HX7 HO7 HY7 HV7 HB7
  have hx8 := qz6 HX8.out
  go_wp2_with (first | ((with_reducible refine gds (N := 30) rfl ?_); refine wpList_load_row rfl 30 (.tmp 2) rfl gb ?hp 30 #[.slice A2 l.length c2, .int .i64 cap, .int .i64 (cnt), .int .i64 cr, .int .i64 fa, .bool false] (0, 0) _ ?hg Tryz.underlying30 ?ha ?hi ?_; (case hp => rfl); (case hg => exact HX8.out); (case ha => rfl); (case hi => exact infoFs)) | ((with_reducible refine gst (t := 30) (p := 4) rfl ?_); refine wpList_store_row rfl 30 (.tmp 4) (.tmp 30) rfl gr #[.slice A2 l.length c2, .int .i64 cap, .int .i64 (cnt), .int .i64 cr, .int .i64 fa, .bool false] ?hx ?hy 30 #[.slice none 0 0, .int .i64 0, .int .i64 0, .int .i64 0, .int .i64 0, .bool false] ?hg ?hi ?ho ?h1 ?_; (case hx => rfl); (case hy => rfl); (case hg => exact HY8.out); (case hi => exact infoFs); (case ho => rfl); (case h1 => simp [Value.oneCell'])))
  refine bodyPost_ret (results_ct rfl _ _ gr 30 #[.slice A2 l.length c2, .int .i64 cap, .int .i64 (cnt), .int .i64 cr, .int .i64 fa, .bool false] (0, 0) _ rfl (heap_setRow_sameF HY8.out) Tryz.underlying30 rfl infoFs) rfl ⟨_, rfl, ?_, ?_⟩
  · exact row_keep HV8.out HY8.out _
  · exact below_setRowF HB8.out HG3.out.1 _
set_option maxHeartbeats 8000000 in
set_option maxRecDepth 100000 in
theorem specStep_crash (A : Option Addr) (c : Nat) (l : List FileT) (cap cnt cr fa : Int) (dn : Bool) (kind : Int) (name data : ByteArray) (size : Int) (w : World)
    (hr : Kd.C FileK w A l.length l) (hval : ∀ w', Kd.C FileK w' A l.length l → Calls Tryz.prog 31 #[.agg #[.slice A l.length c, .int .i64 cap, .int .i64 cnt, .int .i64 cr, .int .i64 fa, .bool dn]] w' fun e w'' => e = .returned (.bool true) ∧ Below w'.heap.size w' w'') (hbet : ∀ w', Calls Tryz.prog 15 #[.int .i64 kind, .int .i64 1, .int .i64 5] w' fun e w'' => e = .returned (.bool true) ∧ Drawn0 w' w'') (hname : ∀ w', Calls Tryz.prog 32 #[.string name] w' fun e w'' => e = .returned (.bool true) ∧ Drawn0 w' w'') (hcopy : ∀ w', Kd.C FileK w' A l.length l → Calls Tryz.prog 16 #[.agg #[.slice A l.length c, .int .i64 cap, .int .i64 cnt, .int .i64 cr, .int .i64 fa, .bool dn]] w' fun e w'' => ∃ v, e = .returned (.agg #[v, .int .i64 cap, .int .i64 (cnt), .int .i64 cr, .int .i64 fa, .bool dn]) ∧ Kd.R FileK 61 w'' w'.heap.size (fun _ => True) v l ∧ Below w'.heap.size w' w'')
    (hdn : dn = false) (hc : 0 ≤ cnt ∧ cnt ≤ 1000000000000000) (hne : cnt ≠ 1000000000000000) (h1 : cr ≠ 0 ∧ cnt + 1 = cr) :
    Calls Tryz.prog 17 #[.agg #[.slice A l.length c, .int .i64 cap, .int .i64 cnt, .int .i64 cr, .int .i64 fa, .bool dn], .agg #[.int .i64 kind, .string name, .string data, .int .i64 size]] w fun e w' => ∃ v0_ : Value, e = .returned (.tuple #[.agg #[v0_, .int .i64 cap, .int .i64 (cnt + 1), .int .i64 cr, .int .i64 fa, .bool true], .int .i64 11]) ∧ Kd.R FileK 61 w' w.heap.size (fun _ => True) v0_ l ∧ Below w.heap.size w w' := by
  subst hdn
  have k1 : (cnt == 1000000000000000) = false := beq_eq_false_iff_ne.mpr hne
  have HC := Aside0.mk hc
  clear hne hc
  have k2 : (cr != 0) = true := bne_iff_ne.mpr h1.1
  have k3 : (cnt + 1 == cr) = true := beq_iff_eq.mpr h1.2
  clear h1
  have HR := Aside0.mk hr
  have HV := Aside0.mk hval
  have HBT := Aside0.mk hbet
  have HN := Aside0.mk hname
  have HCP := Aside0.mk hcopy
  clear hr hval hbet hname hcopy
  go_enter Tryz.func17, Tryz.ntmps17
  go_upto_region 4 with (first | ((with_reducible refine gds (N := 2) rfl ?_); refine qbx 2 #[.slice A l.length c, .int .i64 cap, .int .i64 cnt, .int .i64 cr, .int .i64 fa, .bool false] 30 ?_; intro gb hg w1 hbox hb; have HB := Aside0.mk hb; have HX := Aside0.mk hbox; have HGB := Aside0.mk (Nat.le_of_eq hg.symm); clear hb hbox hg) | ((with_reducible refine gds (N := 3) rfl ?_); refine qbx 3 #[.int .i64 kind, .string name, .string data, .int .i64 size] 48 ?_; intro go_ hg w2 hbox hb; have HX2 := Aside0.mk (bbe HX.out hb); have HO2 := Aside0.mk hbox; have HB2 := Aside0.mk (bst HB.out hb); have HGO := Aside0.mk (Nat.ne_of_gt (hg ▸ blt HX.out : gb < go_)); clear hb hbox hg) | ((with_reducible refine gds (N := 4) rfl ?_); refine qbx 4 #[.slice none 0 0, .int .i64 0, .int .i64 0, .int .i64 0, .int .i64 0, .bool false] 30 ?_; intro gr hg w3 hbox hb; have HX3 := Aside0.mk (bbe HX2.out hb); have HO3 := Aside0.mk (bbe HO2.out hb); have HY3 := Aside0.mk hbox; have HB3 := Aside0.mk (bst HB2.out hb); have HG3 := Aside0.mk (And.intro (Nat.le_trans HB2.out.size (Nat.le_of_eq hg.symm)) (Nat.ne_of_gt (hg ▸ blt HX2.out : gb < gr))); clear hb hbox hg) | ((with_reducible refine gds (N := 6) rfl ?_); refine wpList_load_row rfl 30 (.tmp 2) rfl gb ?hp 30 #[.slice A l.length c, .int .i64 cap, .int .i64 cnt, .int .i64 cr, .int .i64 fa, .bool false] (0, 0) _ ?hg Tryz.underlying30 ?ha ?hi ?_; (case hp => rfl); (case hg => exact HX3.out); (case ha => rfl); (case hi => exact infoFs)) | (go_at_call 31; (with_reducible refine (HV.out _ (Kd.Cbe HR.out HB3.out)).mono ?_); rintro e w4 ⟨rfl, hb⟩; have HX4 := Aside0.mk (bbe HX3.out hb); have HO4 := Aside0.mk (bbe HO3.out hb); have HY4 := Aside0.mk (bbe HY3.out hb); have HB4 := Aside0.mk (bst HB3.out hb); have hz4 := qz4 HO4.out; clear hb) | (go_at_call 15; (with_reducible refine (HBT.out _).mono ?_); rintro e w' ⟨rfl, m1, rfl⟩; have HX5 := Aside0.mk (bdN HX4.out m1); have HO5 := Aside0.mk (bdN HO4.out m1); have HY5 := Aside0.mk (bdN HY4.out m1); have HB5 := Aside0.mk (pbd HB4.out m1); clear hz4; have hz5 := qz4 HO5.out) | (go_at_call 32; (with_reducible refine (HN.out _).mono ?_); rintro e w' ⟨rfl, m2, rfl⟩; have HX6 := Aside0.mk (bdN HX4.out (m1 + m2)); have HO6 := Aside0.mk (bdN HO4.out (m1 + m2)); have HY6 := Aside0.mk (bdN HY4.out (m1 + m2)); have HB6 := Aside0.mk (pbd HB4.out (m1 + m2)); clear hz5) | ((with_reducible refine gds (N := 22) rfl ?_); refine wpList_load_row rfl 30 (.tmp 2) rfl gb ?hp 30 #[.slice A l.length c, .int .i64 cap, .int .i64 cnt, .int .i64 cr, .int .i64 fa, .bool false] (0, 0) _ ?hg Tryz.underlying30 ?ha ?hi ?_; (case hp => rfl); (case hg => exact HX6.out); (case ha => rfl); (case hi => exact infoFs)) | (go_at_call 16; (with_reducible refine (HCP.out _ (Kd.Cbe HR.out HB6.out)).mono ?_); rintro e w7 ⟨v, rfl, ho, hb⟩; obtain ⟨A2, c2, rfl⟩ := Kd.R_slice ho; have HX7 := Aside0.mk (bbe HX6.out hb); have HO7 := Aside0.mk (bbe HO6.out hb); have HY7 := Aside0.mk (bbe HY6.out hb); have HV7 := Aside0.mk (Kd.Rlo ho HB6.out.size); have HB7 := Aside0.mk (bst HB6.out hb); clear ho hb) | ((with_reducible refine gst (t := 30) (p := 2) rfl ?_); refine wpList_store_row rfl 30 (.tmp 2) (.tmp 23) rfl gb #[.slice A2 l.length c2, .int .i64 cap, .int .i64 (cnt), .int .i64 cr, .int .i64 fa, .bool false] ?hx ?hy 30 #[.slice A l.length c, .int .i64 cap, .int .i64 cnt, .int .i64 cr, .int .i64 fa, .bool false] ?hg ?hi ?ho ?h1 ?_; (case hx => rfl); (case hy => rfl); (case hg => exact HX7.out); (case hi => exact infoFs); (case ho => rfl); (case h1 => simp [Value.oneCell'])))
  have HX8 := Aside0.mk (heap_setRow_sameF (cs' := #[.slice A2 l.length c2, .int .i64 cap, .int .i64 (cnt), .int .i64 cr, .int .i64 fa, .bool false]) HX7.out)
  have HO8 := Aside0.mk (blk_setRow HO7.out HGO.out #[.slice A2 l.length c2, .int .i64 cap, .int .i64 (cnt), .int .i64 cr, .int .i64 fa, .bool false])
  have HY8 := Aside0.mk (blk_setRow HY7.out HG3.out.2 #[.slice A2 l.length c2, .int .i64 cap, .int .i64 (cnt), .int .i64 cr, .int .i64 fa, .bool false])
  have HV8 := Aside0.mk (row_keep HV7.out HX7.out #[.slice A2 l.length c2, .int .i64 cap, .int .i64 (cnt), .int .i64 cr, .int .i64 fa, .bool false])
  have HB8 := Aside0.mk (below_setRowF HB7.out HGB.out #[.slice A2 l.length c2, .int .i64 cap, .int .i64 (cnt), .int .i64 cr, .int .i64 fa, .bool false])
  generalize w7.setRow gb #[.slice A2 l.length c2, .int .i64 cap, .int .i64 (cnt), .int .i64 cr, .int .i64 fa, .bool false] = w8 at HX8 HO8 HY8 HV8 HB8 ⊢
  clear HX7 HO7 HY7 HV7 HB7
  have hx8 := qz6 HX8.out
  have hc := HC.out
  have hw : wrap64 (cnt + 1) = cnt + 1 := by unfold wrap64; omega
  go_upto_region 9 with fail
  clear hw hc
  have HX9 := Aside0.mk (bpu (cs' := #[.slice A2 l.length c2, .int .i64 cap, .int .i64 (cnt + 1), .int .i64 cr, .int .i64 fa, .bool false]) HX8.out 2 (.int .i64 (cnt + 1)) rfl)
  have HO9 := Aside0.mk (bfa HO8.out HGO.out (p := ⟨gb, 2, none⟩) (.int .i64 (cnt + 1)))
  have HY9 := Aside0.mk (bfa HY8.out HG3.out.2 (p := ⟨gb, 2, none⟩) (.int .i64 (cnt + 1)))
  have HV9 := Aside0.mk (cell_keep HV8.out HX8.out 2 (.int .i64 (cnt + 1)))
  have HB9 := Aside0.mk (bse HB8.out HGB.out (j := 2) (v := .int .i64 (cnt + 1)))
  generalize w8.setCell ⟨gb, 2, none⟩ (.int .i64 (cnt + 1)) = w9 at HX9 HO9 HY9 HV9 HB9 ⊢
  clear HX8 HO8 HY8 HV8 HB8 hx8
  have hx9 := qz6 HX9.out
  go_upto_region 11 with fail
  have HX10 := Aside0.mk (bpu (cs' := #[.slice A2 l.length c2, .int .i64 cap, .int .i64 (cnt + 1), .int .i64 cr, .int .i64 fa, .bool true]) HX9.out 5 (.bool true) rfl)
  have HY10 := Aside0.mk (bfa HY9.out HG3.out.2 (p := ⟨gb, 5, none⟩) (.bool true))
  have HV10 := Aside0.mk (cell_keep HV9.out HX9.out 5 (.bool true))
  have HB10 := Aside0.mk (bse HB9.out HGB.out (j := 5) (v := .bool true))
  generalize w9.setCell ⟨gb, 5, none⟩ (.bool true) = w10 at HX10 HY10 HV10 HB10 ⊢
  clear hx9
  go_wp2_with (first | ((with_reducible refine gds (N := 46) rfl ?_); refine wpList_load_row rfl 30 (.tmp 2) rfl gb ?hp 30 #[.slice A2 l.length c2, .int .i64 cap, .int .i64 (cnt + 1), .int .i64 cr, .int .i64 fa, .bool true] (0, 0) _ ?hg Tryz.underlying30 ?ha ?hi ?_; (case hp => rfl); (case hg => exact HX10.out); (case ha => rfl); (case hi => exact infoFs)) | ((with_reducible refine gst (t := 30) (p := 4) rfl ?_); refine wpList_store_row rfl 30 (.tmp 4) (.tmp 46) rfl gr #[.slice A2 l.length c2, .int .i64 cap, .int .i64 (cnt + 1), .int .i64 cr, .int .i64 fa, .bool true] ?hx ?hy 30 #[.slice none 0 0, .int .i64 0, .int .i64 0, .int .i64 0, .int .i64 0, .bool false] ?hg ?hi ?ho ?h1 ?_; (case hx => rfl); (case hy => rfl); (case hg => exact HY10.out); (case hi => exact infoFs); (case ho => rfl); (case h1 => simp [Value.oneCell'])))
  refine bodyPost_ret (results_ct rfl _ _ gr 30 #[.slice A2 l.length c2, .int .i64 cap, .int .i64 (cnt + 1), .int .i64 cr, .int .i64 fa, .bool true] (0, 0) _ rfl (heap_setRow_sameF HY10.out) Tryz.underlying30 rfl infoFs) rfl ⟨_, rfl, ?_, ?_⟩
  · exact row_keep HV10.out HY10.out _
  · exact below_setRowF HB10.out HG3.out.1 _
set_option maxHeartbeats 8000000 in
set_option maxRecDepth 100000 in
theorem specStep_fail (A : Option Addr) (c : Nat) (l : List FileT) (cap cnt cr fa : Int) (dn : Bool) (kind : Int) (name data : ByteArray) (size : Int) (w : World)
    (hr : Kd.C FileK w A l.length l) (hval : ∀ w', Kd.C FileK w' A l.length l → Calls Tryz.prog 31 #[.agg #[.slice A l.length c, .int .i64 cap, .int .i64 cnt, .int .i64 cr, .int .i64 fa, .bool dn]] w' fun e w'' => e = .returned (.bool true) ∧ Below w'.heap.size w' w'') (hbet : ∀ w', Calls Tryz.prog 15 #[.int .i64 kind, .int .i64 1, .int .i64 5] w' fun e w'' => e = .returned (.bool true) ∧ Drawn0 w' w'') (hname : ∀ w', Calls Tryz.prog 32 #[.string name] w' fun e w'' => e = .returned (.bool true) ∧ Drawn0 w' w'') (hcopy : ∀ w', Kd.C FileK w' A l.length l → Calls Tryz.prog 16 #[.agg #[.slice A l.length c, .int .i64 cap, .int .i64 cnt, .int .i64 cr, .int .i64 fa, .bool dn]] w' fun e w'' => ∃ v, e = .returned (.agg #[v, .int .i64 cap, .int .i64 (cnt), .int .i64 cr, .int .i64 fa, .bool dn]) ∧ Kd.R FileK 61 w'' w'.heap.size (fun _ => True) v l ∧ Below w'.heap.size w' w'')
    (hdn : dn = false) (hc : 0 ≤ cnt ∧ cnt ≤ 1000000000000000) (hne : cnt ≠ 1000000000000000) (h1 : ¬ (cr ≠ 0 ∧ cnt + 1 = cr)) (h2 : fa ≠ 0 ∧ cnt + 1 = fa) :
    Calls Tryz.prog 17 #[.agg #[.slice A l.length c, .int .i64 cap, .int .i64 cnt, .int .i64 cr, .int .i64 fa, .bool dn], .agg #[.int .i64 kind, .string name, .string data, .int .i64 size]] w fun e w' => ∃ v0_ : Value, e = .returned (.tuple #[.agg #[v0_, .int .i64 cap, .int .i64 (cnt + 1), .int .i64 cr, .int .i64 fa, .bool false], .int .i64 12]) ∧ Kd.R FileK 61 w' w.heap.size (fun _ => True) v0_ l ∧ Below w.heap.size w w' := by
  subst hdn
  have k1 : (cnt == 1000000000000000) = false := beq_eq_false_iff_ne.mpr hne
  have HC := Aside0.mk hc
  clear hne hc
  have key : (cr != 0) = false ∨ ((cr != 0) = true ∧ (cnt + 1 == cr) = false) := by
    by_cases e : cr = 0
    · exact .inl (bne_eq_false_iff_eq.mpr e)
    · exact .inr ⟨bne_iff_ne.mpr e, beq_eq_false_iff_ne.mpr fun h => h1 ⟨e, h⟩⟩
  clear h1
  have k4 : (fa != 0) = true := bne_iff_ne.mpr h2.1
  have k5 : (cnt + 1 == fa) = true := beq_iff_eq.mpr h2.2
  clear h2
  have HR := Aside0.mk hr
  have HV := Aside0.mk hval
  have HBT := Aside0.mk hbet
  have HN := Aside0.mk hname
  have HCP := Aside0.mk hcopy
  clear hr hval hbet hname hcopy
  go_enter Tryz.func17, Tryz.ntmps17
  go_upto_region 4 with (first | ((with_reducible refine gds (N := 2) rfl ?_); refine qbx 2 #[.slice A l.length c, .int .i64 cap, .int .i64 cnt, .int .i64 cr, .int .i64 fa, .bool false] 30 ?_; intro gb hg w1 hbox hb; have HB := Aside0.mk hb; have HX := Aside0.mk hbox; have HGB := Aside0.mk (Nat.le_of_eq hg.symm); clear hb hbox hg) | ((with_reducible refine gds (N := 3) rfl ?_); refine qbx 3 #[.int .i64 kind, .string name, .string data, .int .i64 size] 48 ?_; intro go_ hg w2 hbox hb; have HX2 := Aside0.mk (bbe HX.out hb); have HO2 := Aside0.mk hbox; have HB2 := Aside0.mk (bst HB.out hb); have HGO := Aside0.mk (Nat.ne_of_gt (hg ▸ blt HX.out : gb < go_)); clear hb hbox hg) | ((with_reducible refine gds (N := 4) rfl ?_); refine qbx 4 #[.slice none 0 0, .int .i64 0, .int .i64 0, .int .i64 0, .int .i64 0, .bool false] 30 ?_; intro gr hg w3 hbox hb; have HX3 := Aside0.mk (bbe HX2.out hb); have HO3 := Aside0.mk (bbe HO2.out hb); have HY3 := Aside0.mk hbox; have HB3 := Aside0.mk (bst HB2.out hb); have HG3 := Aside0.mk (And.intro (Nat.le_trans HB2.out.size (Nat.le_of_eq hg.symm)) (Nat.ne_of_gt (hg ▸ blt HX2.out : gb < gr))); clear hb hbox hg) | ((with_reducible refine gds (N := 6) rfl ?_); refine wpList_load_row rfl 30 (.tmp 2) rfl gb ?hp 30 #[.slice A l.length c, .int .i64 cap, .int .i64 cnt, .int .i64 cr, .int .i64 fa, .bool false] (0, 0) _ ?hg Tryz.underlying30 ?ha ?hi ?_; (case hp => rfl); (case hg => exact HX3.out); (case ha => rfl); (case hi => exact infoFs)) | (go_at_call 31; (with_reducible refine (HV.out _ (Kd.Cbe HR.out HB3.out)).mono ?_); rintro e w4 ⟨rfl, hb⟩; have HX4 := Aside0.mk (bbe HX3.out hb); have HO4 := Aside0.mk (bbe HO3.out hb); have HY4 := Aside0.mk (bbe HY3.out hb); have HB4 := Aside0.mk (bst HB3.out hb); have hz4 := qz4 HO4.out; clear hb) | (go_at_call 15; (with_reducible refine (HBT.out _).mono ?_); rintro e w' ⟨rfl, m1, rfl⟩; have HX5 := Aside0.mk (bdN HX4.out m1); have HO5 := Aside0.mk (bdN HO4.out m1); have HY5 := Aside0.mk (bdN HY4.out m1); have HB5 := Aside0.mk (pbd HB4.out m1); clear hz4; have hz5 := qz4 HO5.out) | (go_at_call 32; (with_reducible refine (HN.out _).mono ?_); rintro e w' ⟨rfl, m2, rfl⟩; have HX6 := Aside0.mk (bdN HX4.out (m1 + m2)); have HO6 := Aside0.mk (bdN HO4.out (m1 + m2)); have HY6 := Aside0.mk (bdN HY4.out (m1 + m2)); have HB6 := Aside0.mk (pbd HB4.out (m1 + m2)); clear hz5) | ((with_reducible refine gds (N := 22) rfl ?_); refine wpList_load_row rfl 30 (.tmp 2) rfl gb ?hp 30 #[.slice A l.length c, .int .i64 cap, .int .i64 cnt, .int .i64 cr, .int .i64 fa, .bool false] (0, 0) _ ?hg Tryz.underlying30 ?ha ?hi ?_; (case hp => rfl); (case hg => exact HX6.out); (case ha => rfl); (case hi => exact infoFs)) | (go_at_call 16; (with_reducible refine (HCP.out _ (Kd.Cbe HR.out HB6.out)).mono ?_); rintro e w7 ⟨v, rfl, ho, hb⟩; obtain ⟨A2, c2, rfl⟩ := Kd.R_slice ho; have HX7 := Aside0.mk (bbe HX6.out hb); have HO7 := Aside0.mk (bbe HO6.out hb); have HY7 := Aside0.mk (bbe HY6.out hb); have HV7 := Aside0.mk (Kd.Rlo ho HB6.out.size); have HB7 := Aside0.mk (bst HB6.out hb); clear ho hb) | ((with_reducible refine gst (t := 30) (p := 2) rfl ?_); refine wpList_store_row rfl 30 (.tmp 2) (.tmp 23) rfl gb #[.slice A2 l.length c2, .int .i64 cap, .int .i64 (cnt), .int .i64 cr, .int .i64 fa, .bool false] ?hx ?hy 30 #[.slice A l.length c, .int .i64 cap, .int .i64 cnt, .int .i64 cr, .int .i64 fa, .bool false] ?hg ?hi ?ho ?h1 ?_; (case hx => rfl); (case hy => rfl); (case hg => exact HX7.out); (case hi => exact infoFs); (case ho => rfl); (case h1 => simp [Value.oneCell'])))
  have HX8 := Aside0.mk (heap_setRow_sameF (cs' := #[.slice A2 l.length c2, .int .i64 cap, .int .i64 (cnt), .int .i64 cr, .int .i64 fa, .bool false]) HX7.out)
  have HO8 := Aside0.mk (blk_setRow HO7.out HGO.out #[.slice A2 l.length c2, .int .i64 cap, .int .i64 (cnt), .int .i64 cr, .int .i64 fa, .bool false])
  have HY8 := Aside0.mk (blk_setRow HY7.out HG3.out.2 #[.slice A2 l.length c2, .int .i64 cap, .int .i64 (cnt), .int .i64 cr, .int .i64 fa, .bool false])
  have HV8 := Aside0.mk (row_keep HV7.out HX7.out #[.slice A2 l.length c2, .int .i64 cap, .int .i64 (cnt), .int .i64 cr, .int .i64 fa, .bool false])
  have HB8 := Aside0.mk (below_setRowF HB7.out HGB.out #[.slice A2 l.length c2, .int .i64 cap, .int .i64 (cnt), .int .i64 cr, .int .i64 fa, .bool false])
  generalize w7.setRow gb #[.slice A2 l.length c2, .int .i64 cap, .int .i64 (cnt), .int .i64 cr, .int .i64 fa, .bool false] = w8 at HX8 HO8 HY8 HV8 HB8 ⊢
  clear HX7 HO7 HY7 HV7 HB7
  have hx8 := qz6 HX8.out
  have hc := HC.out
  have hw : wrap64 (cnt + 1) = cnt + 1 := by unfold wrap64; omega
  go_upto_region 9 with fail
  clear hw hc
  have HX9 := Aside0.mk (bpu (cs' := #[.slice A2 l.length c2, .int .i64 cap, .int .i64 (cnt + 1), .int .i64 cr, .int .i64 fa, .bool false]) HX8.out 2 (.int .i64 (cnt + 1)) rfl)
  have HO9 := Aside0.mk (bfa HO8.out HGO.out (p := ⟨gb, 2, none⟩) (.int .i64 (cnt + 1)))
  have HY9 := Aside0.mk (bfa HY8.out HG3.out.2 (p := ⟨gb, 2, none⟩) (.int .i64 (cnt + 1)))
  have HV9 := Aside0.mk (cell_keep HV8.out HX8.out 2 (.int .i64 (cnt + 1)))
  have HB9 := Aside0.mk (bse HB8.out HGB.out (j := 2) (v := .int .i64 (cnt + 1)))
  generalize w8.setCell ⟨gb, 2, none⟩ (.int .i64 (cnt + 1)) = w9 at HX9 HO9 HY9 HV9 HB9 ⊢
  clear HX8 HO8 HY8 HV8 HB8 hx8
  have hx9 := qz6 HX9.out
  rcases key with k2 | ⟨k2, k3⟩
  all_goals
    go_wp2_with (first | ((with_reducible refine gds (N := 57) rfl ?_); refine wpList_load_row rfl 30 (.tmp 2) rfl gb ?hp 30 #[.slice A2 l.length c2, .int .i64 cap, .int .i64 (cnt + 1), .int .i64 cr, .int .i64 fa, .bool false] (0, 0) _ ?hg Tryz.underlying30 ?ha ?hi ?_; (case hp => rfl); (case hg => exact HX9.out); (case ha => rfl); (case hi => exact infoFs)) | ((with_reducible refine gst (t := 30) (p := 4) rfl ?_); refine wpList_store_row rfl 30 (.tmp 4) (.tmp 57) rfl gr #[.slice A2 l.length c2, .int .i64 cap, .int .i64 (cnt + 1), .int .i64 cr, .int .i64 fa, .bool false] ?hx ?hy 30 #[.slice none 0 0, .int .i64 0, .int .i64 0, .int .i64 0, .int .i64 0, .bool false] ?hg ?hi ?ho ?h1 ?_; (case hx => rfl); (case hy => rfl); (case hg => exact HY9.out); (case hi => exact infoFs); (case ho => rfl); (case h1 => simp [Value.oneCell'])))
    refine bodyPost_ret (results_ct rfl _ _ gr 30 #[.slice A2 l.length c2, .int .i64 cap, .int .i64 (cnt + 1), .int .i64 cr, .int .i64 fa, .bool false] (0, 0) _ rfl (heap_setRow_sameF HY9.out) Tryz.underlying30 rfl infoFs) rfl ⟨_, rfl, ?_, ?_⟩
    · exact row_keep HV9.out HY9.out _
    · exact below_setRowF HB9.out HG3.out.1 _
set_option maxHeartbeats 8000000 in
set_option maxRecDepth 100000 in
theorem specStep_do (A : Option Addr) (c : Nat) (l : List FileT) (cap cnt cr fa : Int) (dn : Bool) (kind : Int) (name data : ByteArray) (size : Int) (w : World)
    (hr : Kd.C FileK w A l.length l) (hval : ∀ w', Kd.C FileK w' A l.length l → Calls Tryz.prog 31 #[.agg #[.slice A l.length c, .int .i64 cap, .int .i64 cnt, .int .i64 cr, .int .i64 fa, .bool dn]] w' fun e w'' => e = .returned (.bool true) ∧ Below w'.heap.size w' w'') (hbet : ∀ w', Calls Tryz.prog 15 #[.int .i64 kind, .int .i64 1, .int .i64 5] w' fun e w'' => e = .returned (.bool true) ∧ Drawn0 w' w'') (hname : ∀ w', Calls Tryz.prog 32 #[.string name] w' fun e w'' => e = .returned (.bool true) ∧ Drawn0 w' w'') (hcopy : ∀ w', Kd.C FileK w' A l.length l → Calls Tryz.prog 16 #[.agg #[.slice A l.length c, .int .i64 cap, .int .i64 cnt, .int .i64 cr, .int .i64 fa, .bool dn]] w' fun e w'' => ∃ v, e = .returned (.agg #[v, .int .i64 cap, .int .i64 (cnt), .int .i64 cr, .int .i64 fa, .bool dn]) ∧ Kd.R FileK 61 w'' w'.heap.size (fun _ => True) v l ∧ Below w'.heap.size w' w'')
    (hdn : dn = false) (hc : 0 ≤ cnt ∧ cnt ≤ 1000000000000000) (hne : cnt ≠ 1000000000000000) (h1 : ¬ (cr ≠ 0 ∧ cnt + 1 = cr)) (h2 : ¬ (fa ≠ 0 ∧ cnt + 1 = fa)) (l' : List FileT) (code : Int) (hdo : ∀ w' u, Kd.R FileK 61 w' w.heap.size (fun _ => True) u l → w.heap.size ≤ w'.heap.size → Calls Tryz.prog 33 #[.agg #[u, .int .i64 cap, .int .i64 (cnt + 1), .int .i64 cr, .int .i64 fa, .bool dn], .agg #[.int .i64 kind, .string name, .string data, .int .i64 size]] w' fun e w'' => ∃ v', e = .returned (.tuple #[.agg #[v', .int .i64 cap, .int .i64 (cnt + 1), .int .i64 cr, .int .i64 fa, .bool dn], .int .i64 code]) ∧ Kd.R FileK 61 w'' w.heap.size (fun _ => True) v' l' ∧ Below w'.heap.size w' w'') :
    Calls Tryz.prog 17 #[.agg #[.slice A l.length c, .int .i64 cap, .int .i64 cnt, .int .i64 cr, .int .i64 fa, .bool dn], .agg #[.int .i64 kind, .string name, .string data, .int .i64 size]] w fun e w' => ∃ v0_ : Value, e = .returned (.tuple #[.agg #[v0_, .int .i64 cap, .int .i64 (cnt + 1), .int .i64 cr, .int .i64 fa, .bool dn], .int .i64 code]) ∧ Kd.R FileK 61 w' w.heap.size (fun _ => True) v0_ l' ∧ Below w.heap.size w w' := by
  have HD := Aside0.mk hdo
  clear hdo
  subst hdn
  have k1 : (cnt == 1000000000000000) = false := beq_eq_false_iff_ne.mpr hne
  have HC := Aside0.mk hc
  clear hne hc
  have key : (cr != 0) = false ∨ ((cr != 0) = true ∧ (cnt + 1 == cr) = false) := by
    by_cases e : cr = 0
    · exact .inl (bne_eq_false_iff_eq.mpr e)
    · exact .inr ⟨bne_iff_ne.mpr e, beq_eq_false_iff_ne.mpr fun h => h1 ⟨e, h⟩⟩
  clear h1
  have key2 : (fa != 0) = false ∨ ((fa != 0) = true ∧ (cnt + 1 == fa) = false) := by
    by_cases e : fa = 0
    · exact .inl (bne_eq_false_iff_eq.mpr e)
    · exact .inr ⟨bne_iff_ne.mpr e, beq_eq_false_iff_ne.mpr fun h => h2 ⟨e, h⟩⟩
  clear h2
  have HR := Aside0.mk hr
  have HV := Aside0.mk hval
  have HBT := Aside0.mk hbet
  have HN := Aside0.mk hname
  have HCP := Aside0.mk hcopy
  clear hr hval hbet hname hcopy
  go_enter Tryz.func17, Tryz.ntmps17
  go_upto_region 4 with (first | ((with_reducible refine gds (N := 2) rfl ?_); refine qbx 2 #[.slice A l.length c, .int .i64 cap, .int .i64 cnt, .int .i64 cr, .int .i64 fa, .bool false] 30 ?_; intro gb hg w1 hbox hb; have HB := Aside0.mk hb; have HX := Aside0.mk hbox; have HGB := Aside0.mk (Nat.le_of_eq hg.symm); clear hb hbox hg) | ((with_reducible refine gds (N := 3) rfl ?_); refine qbx 3 #[.int .i64 kind, .string name, .string data, .int .i64 size] 48 ?_; intro go_ hg w2 hbox hb; have HX2 := Aside0.mk (bbe HX.out hb); have HO2 := Aside0.mk hbox; have HB2 := Aside0.mk (bst HB.out hb); have HGO := Aside0.mk (Nat.ne_of_gt (hg ▸ blt HX.out : gb < go_)); clear hb hbox hg) | ((with_reducible refine gds (N := 4) rfl ?_); refine qbx 4 #[.slice none 0 0, .int .i64 0, .int .i64 0, .int .i64 0, .int .i64 0, .bool false] 30 ?_; intro gr hg w3 hbox hb; have HX3 := Aside0.mk (bbe HX2.out hb); have HO3 := Aside0.mk (bbe HO2.out hb); have HY3 := Aside0.mk hbox; have HB3 := Aside0.mk (bst HB2.out hb); have HG3 := Aside0.mk (And.intro (Nat.le_trans HB2.out.size (Nat.le_of_eq hg.symm)) (Nat.ne_of_gt (hg ▸ blt HX2.out : gb < gr))); clear hb hbox hg) | ((with_reducible refine gds (N := 6) rfl ?_); refine wpList_load_row rfl 30 (.tmp 2) rfl gb ?hp 30 #[.slice A l.length c, .int .i64 cap, .int .i64 cnt, .int .i64 cr, .int .i64 fa, .bool false] (0, 0) _ ?hg Tryz.underlying30 ?ha ?hi ?_; (case hp => rfl); (case hg => exact HX3.out); (case ha => rfl); (case hi => exact infoFs)) | (go_at_call 31; (with_reducible refine (HV.out _ (Kd.Cbe HR.out HB3.out)).mono ?_); rintro e w4 ⟨rfl, hb⟩; have HX4 := Aside0.mk (bbe HX3.out hb); have HO4 := Aside0.mk (bbe HO3.out hb); have HY4 := Aside0.mk (bbe HY3.out hb); have HB4 := Aside0.mk (bst HB3.out hb); have hz4 := qz4 HO4.out; clear hb) | (go_at_call 15; (with_reducible refine (HBT.out _).mono ?_); rintro e w' ⟨rfl, m1, rfl⟩; have HX5 := Aside0.mk (bdN HX4.out m1); have HO5 := Aside0.mk (bdN HO4.out m1); have HY5 := Aside0.mk (bdN HY4.out m1); have HB5 := Aside0.mk (pbd HB4.out m1); clear hz4; have hz5 := qz4 HO5.out) | (go_at_call 32; (with_reducible refine (HN.out _).mono ?_); rintro e w' ⟨rfl, m2, rfl⟩; have HX6 := Aside0.mk (bdN HX4.out (m1 + m2)); have HO6 := Aside0.mk (bdN HO4.out (m1 + m2)); have HY6 := Aside0.mk (bdN HY4.out (m1 + m2)); have HB6 := Aside0.mk (pbd HB4.out (m1 + m2)); clear hz5) | ((with_reducible refine gds (N := 22) rfl ?_); refine wpList_load_row rfl 30 (.tmp 2) rfl gb ?hp 30 #[.slice A l.length c, .int .i64 cap, .int .i64 cnt, .int .i64 cr, .int .i64 fa, .bool false] (0, 0) _ ?hg Tryz.underlying30 ?ha ?hi ?_; (case hp => rfl); (case hg => exact HX6.out); (case ha => rfl); (case hi => exact infoFs)) | (go_at_call 16; (with_reducible refine (HCP.out _ (Kd.Cbe HR.out HB6.out)).mono ?_); rintro e w7 ⟨v, rfl, ho, hb⟩; obtain ⟨A2, c2, rfl⟩ := Kd.R_slice ho; have HX7 := Aside0.mk (bbe HX6.out hb); have HO7 := Aside0.mk (bbe HO6.out hb); have HY7 := Aside0.mk (bbe HY6.out hb); have HV7 := Aside0.mk (Kd.Rlo ho HB6.out.size); have HB7 := Aside0.mk (bst HB6.out hb); clear ho hb) | ((with_reducible refine gst (t := 30) (p := 2) rfl ?_); refine wpList_store_row rfl 30 (.tmp 2) (.tmp 23) rfl gb #[.slice A2 l.length c2, .int .i64 cap, .int .i64 (cnt), .int .i64 cr, .int .i64 fa, .bool false] ?hx ?hy 30 #[.slice A l.length c, .int .i64 cap, .int .i64 cnt, .int .i64 cr, .int .i64 fa, .bool false] ?hg ?hi ?ho ?h1 ?_; (case hx => rfl); (case hy => rfl); (case hg => exact HX7.out); (case hi => exact infoFs); (case ho => rfl); (case h1 => simp [Value.oneCell'])))
  have HX8 := Aside0.mk (heap_setRow_sameF (cs' := #[.slice A2 l.length c2, .int .i64 cap, .int .i64 (cnt), .int .i64 cr, .int .i64 fa, .bool false]) HX7.out)
  have HO8 := Aside0.mk (blk_setRow HO7.out HGO.out #[.slice A2 l.length c2, .int .i64 cap, .int .i64 (cnt), .int .i64 cr, .int .i64 fa, .bool false])
  have HY8 := Aside0.mk (blk_setRow HY7.out HG3.out.2 #[.slice A2 l.length c2, .int .i64 cap, .int .i64 (cnt), .int .i64 cr, .int .i64 fa, .bool false])
  have HV8 := Aside0.mk (row_keep HV7.out HX7.out #[.slice A2 l.length c2, .int .i64 cap, .int .i64 (cnt), .int .i64 cr, .int .i64 fa, .bool false])
  have HB8 := Aside0.mk (below_setRowF HB7.out HGB.out #[.slice A2 l.length c2, .int .i64 cap, .int .i64 (cnt), .int .i64 cr, .int .i64 fa, .bool false])
  generalize w7.setRow gb #[.slice A2 l.length c2, .int .i64 cap, .int .i64 (cnt), .int .i64 cr, .int .i64 fa, .bool false] = w8 at HX8 HO8 HY8 HV8 HB8 ⊢
  clear HX7 HO7 HY7 HV7 HB7
  have hx8 := qz6 HX8.out
  have hc := HC.out
  have hw : wrap64 (cnt + 1) = cnt + 1 := by unfold wrap64; omega
  go_upto_region 9 with fail
  clear hw hc
  have HX9 := Aside0.mk (bpu (cs' := #[.slice A2 l.length c2, .int .i64 cap, .int .i64 (cnt + 1), .int .i64 cr, .int .i64 fa, .bool false]) HX8.out 2 (.int .i64 (cnt + 1)) rfl)
  have HO9 := Aside0.mk (bfa HO8.out HGO.out (p := ⟨gb, 2, none⟩) (.int .i64 (cnt + 1)))
  have HY9 := Aside0.mk (bfa HY8.out HG3.out.2 (p := ⟨gb, 2, none⟩) (.int .i64 (cnt + 1)))
  have HV9 := Aside0.mk (cell_keep HV8.out HX8.out 2 (.int .i64 (cnt + 1)))
  have HB9 := Aside0.mk (bse HB8.out HGB.out (j := 2) (v := .int .i64 (cnt + 1)))
  generalize w8.setCell ⟨gb, 2, none⟩ (.int .i64 (cnt + 1)) = w9 at HX9 HO9 HY9 HV9 HB9 ⊢
  clear HX8 HO8 HY8 HV8 HB8 hx8
  have hx9 := qz6 HX9.out
  rcases key with k2 | ⟨k2, k3⟩ <;> rcases key2 with k4 | ⟨k4, k5⟩
  all_goals
    go_wp2_with (first | ((with_reducible refine gds (N := 58) rfl ?_); refine wpList_load_row rfl 30 (.tmp 2) rfl gb ?hp 30 #[.slice A2 l.length c2, .int .i64 cap, .int .i64 (cnt + 1), .int .i64 cr, .int .i64 fa, .bool false] (0, 0) _ ?hg Tryz.underlying30 ?ha ?hi ?_; (case hp => rfl); (case hg => exact HX9.out); (case ha => rfl); (case hi => exact infoFs)) | ((with_reducible refine gds (N := 59) rfl ?_); refine wpList_load_row rfl 48 (.tmp 3) rfl go_ ?hp 48 #[.int .i64 kind, .string name, .string data, .int .i64 size] (0, 0) _ ?hg Tryz.underlying48 ?ha ?hi ?_; (case hp => rfl); (case hg => exact HO9.out); (case ha => rfl); (case hi => exact infoOp)) | (go_at_call 33; (with_reducible refine (HD.out _ _ HV9.out HB9.out.size).mono ?_); rintro e w10 ⟨v', rfl, ho, hb⟩; obtain ⟨A3, c3, rfl⟩ := Kd.R_slice ho; have HY10 := Aside0.mk (bbe HY9.out hb); have HV10 := Aside0.mk ho; have HB10 := Aside0.mk (bst HB9.out hb); clear ho hb) | ((with_reducible refine gst (t := 30) (p := 4) rfl ?_); refine wpList_store_row rfl 30 (.tmp 4) (.tmp 61) rfl gr #[.slice A3 l'.length c3, .int .i64 cap, .int .i64 (cnt + 1), .int .i64 cr, .int .i64 fa, .bool false] ?hx ?hy 30 #[.slice none 0 0, .int .i64 0, .int .i64 0, .int .i64 0, .int .i64 0, .bool false] ?hg ?hi ?ho ?h1 ?_; (case hx => rfl); (case hy => rfl); (case hg => exact HY10.out); (case hi => exact infoFs); (case ho => rfl); (case h1 => simp [Value.oneCell'])))
    refine bodyPost_ret (results_ct rfl _ _ gr 30 #[.slice A3 l'.length c3, .int .i64 cap, .int .i64 (cnt + 1), .int .i64 cr, .int .i64 fa, .bool false] (0, 0) _ rfl (heap_setRow_sameF HY10.out) Tryz.underlying30 rfl infoFs) rfl ⟨_, rfl, ?_, ?_⟩
    · exact row_keep HV10.out HY10.out _
    · exact below_setRowF HB10.out HG3.out.1 _
set_option maxHeartbeats 8000000 in
set_option maxRecDepth 100000 in
theorem specStep_bad1 (A : Option Addr) (c : Nat) (l : List FileT) (cap cnt cr fa : Int) (dn : Bool) (kind : Int) (name data : ByteArray) (size : Int) (w : World)
    (hr : Kd.C FileK w A l.length l) (hval : ∀ w', Kd.C FileK w' A l.length l → Calls Tryz.prog 31 #[.agg #[.slice A l.length c, .int .i64 cap, .int .i64 cnt, .int .i64 cr, .int .i64 fa, .bool dn]] w' fun e w'' => e = .returned (.bool false) ∧ Below w'.heap.size w' w'') :
    Calls Tryz.prog 17 #[.agg #[.slice A l.length c, .int .i64 cap, .int .i64 cnt, .int .i64 cr, .int .i64 fa, .bool dn], .agg #[.int .i64 kind, .string name, .string data, .int .i64 size]] w fun e w' => e = .returned (.tuple #[.agg #[.slice none 0 0, .int .i64 0, .int .i64 0, .int .i64 0, .int .i64 0, .bool false], .int .i64 16]) ∧ Below w.heap.size w w' := by
  have HR := Aside0.mk hr
  have HV := Aside0.mk hval
  clear hr hval
  go_enter Tryz.func17, Tryz.ntmps17
  go_wp2_with (first | ((with_reducible refine gds (N := 2) rfl ?_); refine qbx 2 #[.slice A l.length c, .int .i64 cap, .int .i64 cnt, .int .i64 cr, .int .i64 fa, .bool dn] 30 ?_; intro gb hg w1 hbox hb; have HB := Aside0.mk hb; have HX := Aside0.mk hbox; have HGB := Aside0.mk (Nat.le_of_eq hg.symm); clear hb hbox hg) | ((with_reducible refine gds (N := 3) rfl ?_); refine qbx 3 #[.int .i64 kind, .string name, .string data, .int .i64 size] 48 ?_; intro go_ hg w2 hbox hb; have HX2 := Aside0.mk (bbe HX.out hb); have HO2 := Aside0.mk hbox; have HB2 := Aside0.mk (bst HB.out hb); have HGO := Aside0.mk (Nat.ne_of_gt (hg ▸ blt HX.out : gb < go_)); clear hb hbox hg) | ((with_reducible refine gds (N := 4) rfl ?_); refine qbx 4 #[.slice none 0 0, .int .i64 0, .int .i64 0, .int .i64 0, .int .i64 0, .bool false] 30 ?_; intro gr hg w3 hbox hb; have HX3 := Aside0.mk (bbe HX2.out hb); have HO3 := Aside0.mk (bbe HO2.out hb); have HY3 := Aside0.mk hbox; have HB3 := Aside0.mk (bst HB2.out hb); have HG3 := Aside0.mk (And.intro (Nat.le_trans HB2.out.size (Nat.le_of_eq hg.symm)) (Nat.ne_of_gt (hg ▸ blt HX2.out : gb < gr))); clear hb hbox hg) | ((with_reducible refine gds (N := 6) rfl ?_); refine wpList_load_row rfl 30 (.tmp 2) rfl gb ?hp 30 #[.slice A l.length c, .int .i64 cap, .int .i64 cnt, .int .i64 cr, .int .i64 fa, .bool dn] (0, 0) _ ?hg Tryz.underlying30 ?ha ?hi ?_; (case hp => rfl); (case hg => exact HX3.out); (case ha => rfl); (case hi => exact infoFs)) | (go_at_call 31; (with_reducible refine (HV.out _ (Kd.Cbe HR.out HB3.out)).mono ?_); rintro e w4 ⟨rfl, hb⟩; have HX4 := Aside0.mk (bbe HX3.out hb); have HO4 := Aside0.mk (bbe HO3.out hb); have HY4 := Aside0.mk (bbe HY3.out hb); have HB4 := Aside0.mk (bst HB3.out hb); have hz4 := qz4 HO4.out; clear hb) | ((with_reducible refine gst (t := 30) (p := 4) rfl ?_); refine wpList_store_row rfl 30 (.tmp 4) (.tmp 21) rfl gr #[.slice none 0 0, .int .i64 0, .int .i64 0, .int .i64 0, .int .i64 0, .bool false] ?hx ?hy 30 #[.slice none 0 0, .int .i64 0, .int .i64 0, .int .i64 0, .int .i64 0, .bool false] ?hg ?hi ?ho ?h1 ?_; (case hx => rfl); (case hy => rfl); (case hg => exact HY4.out); (case hi => exact infoFs); (case ho => rfl); (case h1 => simp [Value.oneCell'])))
  refine bodyPost_ret (results_ct rfl _ _ gr 30 #[.slice none 0 0, .int .i64 0, .int .i64 0, .int .i64 0, .int .i64 0, .bool false] (0, 0) _ rfl (heap_setRow_sameF HY4.out) Tryz.underlying30 rfl infoFs) rfl ⟨rfl, ?_⟩
  exact below_setRowF HB4.out HG3.out.1 _
set_option maxHeartbeats 8000000 in
set_option maxRecDepth 100000 in
theorem specStep_bad2 (A : Option Addr) (c : Nat) (l : List FileT) (cap cnt cr fa : Int) (dn : Bool) (kind : Int) (name data : ByteArray) (size : Int) (w : World)
    (hr : Kd.C FileK w A l.length l) (hval : ∀ w', Kd.C FileK w' A l.length l → Calls Tryz.prog 31 #[.agg #[.slice A l.length c, .int .i64 cap, .int .i64 cnt, .int .i64 cr, .int .i64 fa, .bool dn]] w' fun e w'' => e = .returned (.bool true) ∧ Below w'.heap.size w' w'') (hbet : ∀ w', Calls Tryz.prog 15 #[.int .i64 kind, .int .i64 1, .int .i64 5] w' fun e w'' => e = .returned (.bool false) ∧ Drawn0 w' w'') :
    Calls Tryz.prog 17 #[.agg #[.slice A l.length c, .int .i64 cap, .int .i64 cnt, .int .i64 cr, .int .i64 fa, .bool dn], .agg #[.int .i64 kind, .string name, .string data, .int .i64 size]] w fun e w' => e = .returned (.tuple #[.agg #[.slice none 0 0, .int .i64 0, .int .i64 0, .int .i64 0, .int .i64 0, .bool false], .int .i64 16]) ∧ Below w.heap.size w w' := by
  have HR := Aside0.mk hr
  have HV := Aside0.mk hval
  clear hr hval
  have HBT := Aside0.mk hbet
  clear hbet
  go_enter Tryz.func17, Tryz.ntmps17
  go_wp2_with (first | ((with_reducible refine gds (N := 2) rfl ?_); refine qbx 2 #[.slice A l.length c, .int .i64 cap, .int .i64 cnt, .int .i64 cr, .int .i64 fa, .bool dn] 30 ?_; intro gb hg w1 hbox hb; have HB := Aside0.mk hb; have HX := Aside0.mk hbox; have HGB := Aside0.mk (Nat.le_of_eq hg.symm); clear hb hbox hg) | ((with_reducible refine gds (N := 3) rfl ?_); refine qbx 3 #[.int .i64 kind, .string name, .string data, .int .i64 size] 48 ?_; intro go_ hg w2 hbox hb; have HX2 := Aside0.mk (bbe HX.out hb); have HO2 := Aside0.mk hbox; have HB2 := Aside0.mk (bst HB.out hb); have HGO := Aside0.mk (Nat.ne_of_gt (hg ▸ blt HX.out : gb < go_)); clear hb hbox hg) | ((with_reducible refine gds (N := 4) rfl ?_); refine qbx 4 #[.slice none 0 0, .int .i64 0, .int .i64 0, .int .i64 0, .int .i64 0, .bool false] 30 ?_; intro gr hg w3 hbox hb; have HX3 := Aside0.mk (bbe HX2.out hb); have HO3 := Aside0.mk (bbe HO2.out hb); have HY3 := Aside0.mk hbox; have HB3 := Aside0.mk (bst HB2.out hb); have HG3 := Aside0.mk (And.intro (Nat.le_trans HB2.out.size (Nat.le_of_eq hg.symm)) (Nat.ne_of_gt (hg ▸ blt HX2.out : gb < gr))); clear hb hbox hg) | ((with_reducible refine gds (N := 6) rfl ?_); refine wpList_load_row rfl 30 (.tmp 2) rfl gb ?hp 30 #[.slice A l.length c, .int .i64 cap, .int .i64 cnt, .int .i64 cr, .int .i64 fa, .bool dn] (0, 0) _ ?hg Tryz.underlying30 ?ha ?hi ?_; (case hp => rfl); (case hg => exact HX3.out); (case ha => rfl); (case hi => exact infoFs)) | (go_at_call 31; (with_reducible refine (HV.out _ (Kd.Cbe HR.out HB3.out)).mono ?_); rintro e w4 ⟨rfl, hb⟩; have HX4 := Aside0.mk (bbe HX3.out hb); have HO4 := Aside0.mk (bbe HO3.out hb); have HY4 := Aside0.mk (bbe HY3.out hb); have HB4 := Aside0.mk (bst HB3.out hb); have hz4 := qz4 HO4.out; clear hb) | (go_at_call 15; (with_reducible refine (HBT.out _).mono ?_); rintro e w' ⟨rfl, m1, rfl⟩; have HX5 := Aside0.mk (bdN HX4.out m1); have HO5 := Aside0.mk (bdN HO4.out m1); have HY5 := Aside0.mk (bdN HY4.out m1); have HB5 := Aside0.mk (pbd HB4.out m1); clear hz4; have hz5 := qz4 HO5.out) | ((with_reducible refine gst (t := 30) (p := 4) rfl ?_); refine wpList_store_row rfl 30 (.tmp 4) (.tmp 21) rfl gr #[.slice none 0 0, .int .i64 0, .int .i64 0, .int .i64 0, .int .i64 0, .bool false] ?hx ?hy 30 #[.slice none 0 0, .int .i64 0, .int .i64 0, .int .i64 0, .int .i64 0, .bool false] ?hg ?hi ?ho ?h1 ?_; (case hx => rfl); (case hy => rfl); (case hg => exact HY5.out); (case hi => exact infoFs); (case ho => rfl); (case h1 => simp [Value.oneCell'])))
  refine bodyPost_ret (results_ct rfl _ _ gr 30 #[.slice none 0 0, .int .i64 0, .int .i64 0, .int .i64 0, .int .i64 0, .bool false] (0, 0) _ rfl (heap_setRow_sameF HY5.out) Tryz.underlying30 rfl infoFs) rfl ⟨rfl, ?_⟩
  exact below_setRowF HB5.out HG3.out.1 _
set_option maxHeartbeats 8000000 in
set_option maxRecDepth 100000 in
theorem specStep_bad3 (A : Option Addr) (c : Nat) (l : List FileT) (cap cnt cr fa : Int) (dn : Bool) (kind : Int) (name data : ByteArray) (size : Int) (w : World)
    (hr : Kd.C FileK w A l.length l) (hval : ∀ w', Kd.C FileK w' A l.length l → Calls Tryz.prog 31 #[.agg #[.slice A l.length c, .int .i64 cap, .int .i64 cnt, .int .i64 cr, .int .i64 fa, .bool dn]] w' fun e w'' => e = .returned (.bool true) ∧ Below w'.heap.size w' w'') (hbet : ∀ w', Calls Tryz.prog 15 #[.int .i64 kind, .int .i64 1, .int .i64 5] w' fun e w'' => e = .returned (.bool true) ∧ Drawn0 w' w'') (hname : ∀ w', Calls Tryz.prog 32 #[.string name] w' fun e w'' => e = .returned (.bool false) ∧ Drawn0 w' w'') :
    Calls Tryz.prog 17 #[.agg #[.slice A l.length c, .int .i64 cap, .int .i64 cnt, .int .i64 cr, .int .i64 fa, .bool dn], .agg #[.int .i64 kind, .string name, .string data, .int .i64 size]] w fun e w' => e = .returned (.tuple #[.agg #[.slice none 0 0, .int .i64 0, .int .i64 0, .int .i64 0, .int .i64 0, .bool false], .int .i64 16]) ∧ Below w.heap.size w w' := by
  have HR := Aside0.mk hr
  have HV := Aside0.mk hval
  clear hr hval
  have HBT := Aside0.mk hbet
  have HN := Aside0.mk hname
  clear hbet hname
  go_enter Tryz.func17, Tryz.ntmps17
  go_wp2_with (first | ((with_reducible refine gds (N := 2) rfl ?_); refine qbx 2 #[.slice A l.length c, .int .i64 cap, .int .i64 cnt, .int .i64 cr, .int .i64 fa, .bool dn] 30 ?_; intro gb hg w1 hbox hb; have HB := Aside0.mk hb; have HX := Aside0.mk hbox; have HGB := Aside0.mk (Nat.le_of_eq hg.symm); clear hb hbox hg) | ((with_reducible refine gds (N := 3) rfl ?_); refine qbx 3 #[.int .i64 kind, .string name, .string data, .int .i64 size] 48 ?_; intro go_ hg w2 hbox hb; have HX2 := Aside0.mk (bbe HX.out hb); have HO2 := Aside0.mk hbox; have HB2 := Aside0.mk (bst HB.out hb); have HGO := Aside0.mk (Nat.ne_of_gt (hg ▸ blt HX.out : gb < go_)); clear hb hbox hg) | ((with_reducible refine gds (N := 4) rfl ?_); refine qbx 4 #[.slice none 0 0, .int .i64 0, .int .i64 0, .int .i64 0, .int .i64 0, .bool false] 30 ?_; intro gr hg w3 hbox hb; have HX3 := Aside0.mk (bbe HX2.out hb); have HO3 := Aside0.mk (bbe HO2.out hb); have HY3 := Aside0.mk hbox; have HB3 := Aside0.mk (bst HB2.out hb); have HG3 := Aside0.mk (And.intro (Nat.le_trans HB2.out.size (Nat.le_of_eq hg.symm)) (Nat.ne_of_gt (hg ▸ blt HX2.out : gb < gr))); clear hb hbox hg) | ((with_reducible refine gds (N := 6) rfl ?_); refine wpList_load_row rfl 30 (.tmp 2) rfl gb ?hp 30 #[.slice A l.length c, .int .i64 cap, .int .i64 cnt, .int .i64 cr, .int .i64 fa, .bool dn] (0, 0) _ ?hg Tryz.underlying30 ?ha ?hi ?_; (case hp => rfl); (case hg => exact HX3.out); (case ha => rfl); (case hi => exact infoFs)) | (go_at_call 31; (with_reducible refine (HV.out _ (Kd.Cbe HR.out HB3.out)).mono ?_); rintro e w4 ⟨rfl, hb⟩; have HX4 := Aside0.mk (bbe HX3.out hb); have HO4 := Aside0.mk (bbe HO3.out hb); have HY4 := Aside0.mk (bbe HY3.out hb); have HB4 := Aside0.mk (bst HB3.out hb); have hz4 := qz4 HO4.out; clear hb) | (go_at_call 15; (with_reducible refine (HBT.out _).mono ?_); rintro e w' ⟨rfl, m1, rfl⟩; have HX5 := Aside0.mk (bdN HX4.out m1); have HO5 := Aside0.mk (bdN HO4.out m1); have HY5 := Aside0.mk (bdN HY4.out m1); have HB5 := Aside0.mk (pbd HB4.out m1); clear hz4; have hz5 := qz4 HO5.out) | (go_at_call 32; (with_reducible refine (HN.out _).mono ?_); rintro e w' ⟨rfl, m2, rfl⟩; have HX6 := Aside0.mk (bdN HX4.out (m1 + m2)); have HO6 := Aside0.mk (bdN HO4.out (m1 + m2)); have HY6 := Aside0.mk (bdN HY4.out (m1 + m2)); have HB6 := Aside0.mk (pbd HB4.out (m1 + m2)); clear hz5) | ((with_reducible refine gst (t := 30) (p := 4) rfl ?_); refine wpList_store_row rfl 30 (.tmp 4) (.tmp 21) rfl gr #[.slice none 0 0, .int .i64 0, .int .i64 0, .int .i64 0, .int .i64 0, .bool false] ?hx ?hy 30 #[.slice none 0 0, .int .i64 0, .int .i64 0, .int .i64 0, .int .i64 0, .bool false] ?hg ?hi ?ho ?h1 ?_; (case hx => rfl); (case hy => rfl); (case hg => exact HY6.out); (case hi => exact infoFs); (case ho => rfl); (case h1 => simp [Value.oneCell'])))
  refine bodyPost_ret (results_ct rfl _ _ gr 30 #[.slice none 0 0, .int .i64 0, .int .i64 0, .int .i64 0, .int .i64 0, .bool false] (0, 0) _ rfl (heap_setRow_sameF HY6.out) Tryz.underlying30 rfl infoFs) rfl ⟨rfl, ?_⟩
  exact below_setRowF HB6.out HG3.out.1 _
end Go.Proofs.YtfknmohedlfmfaaGreatDoor.L
end
section
namespace Go.Proofs.YtfknmohedlfmfaaGreatDoor.L
open Go.RowKit Go.Proofs.YtfknmohedlfmfaaGreatDoorW.PrintWords Go.Proofs.YtfknmohedlfmfaaGreatDoorW.PrintLast Go.Proofs.YtfknmohedlfmfaaGreatDoorW.PrintMore
attribute [local go_sem] max2_int min2_int max_two min_two max_three min_three max_four min_four
set_option linter.unusedVariables false
set_option linter.unusedSimpArgs false
def spec_l6Find.l0 : Nat → ByteArray → List (S61) → Int → Int → Option (Int)
  | 0, _, _, _, _ => none
  | k + 1, x1, x8, x9, x10 => if x10 < x9 then (if 0 ≤ x10 then (if x10 < (x8.length : Int) then (if ((rd_T61 x8 x10).f0).toList = x1.toList then (some x10) else (spec_l6Find.l0 k x1 x8 x9 (wrap64 (x10 + 1)))) else (none)) else (none)) else (some (-1))
def spec_l6Find.f (k : Nat) (l0_0 : List (S61)) (a0_1 : Int) (a0_2 : Int) (a0_3 : Int) (a0_4 : Int) (a0_5 : Bool) (a1 : ByteArray) : Option (Int) := spec_l6Find.l0 k a1 l0_0 (l0_0.length : Int) 0
theorem spec_l6Find.mono_l : ∀ k, (∀ y0 y1 y2 y3, LeO (spec_l6Find.l0 k y0 y1 y2 y3) (spec_l6Find.l0 (k + 1) y0 y1 y2 y3))
  | 0 => fun _ _ _ _ r h => by simp [spec_l6Find.l0] at h
  | k + 1 => by
    have ih0 := spec_l6Find.mono_l k
    · intro y0 y1 y2 y3
      unfold spec_l6Find.l0
      repeat' first
      | (with_reducible exact ih0 _ _ _ _)
      | (with_reducible exact LeO.refl _)
      | (with_reducible exact LeO.none _)
      | (with_reducible refine LeO.ite ?_ ?_)
      | (with_reducible refine LeO.bind ?_ (fun _ => ?_))
      | exact ih0 _ _ _ _
      | exact LeO.none _
      | refine LeO.ite ?_ ?_
      | refine LeO.bind ?_ (fun _ => ?_)
theorem spec_l6Find.mono : ∀ a0 a1 a2 a3 a4 a5 a6 k, LeO (spec_l6Find.f k a0 a1 a2 a3 a4 a5 a6) (spec_l6Find.f (k + 1) a0 a1 a2 a3 a4 a5 a6) := by
  intro a0 a1 a2 a3 a4 a5 a6 k
  have ih0 := spec_l6Find.mono_l k
  unfold spec_l6Find.f
  repeat' first
      | (with_reducible exact ih0 _ _ _ _)
      | (with_reducible exact LeO.refl _)
      | (with_reducible exact LeO.none _)
      | (with_reducible refine LeO.ite ?_ ?_)
      | (with_reducible refine LeO.bind ?_ (fun _ => ?_))
      | exact ih0 _ _ _ _
      | exact LeO.none _
      | refine LeO.ite ?_ ?_
      | refine LeO.bind ?_ (fun _ => ?_)
set_option maxHeartbeats 8000000 in
set_option maxRecDepth 100000 in
theorem spec_l6Find.calls (k : Nat) (A0_0 : Option Addr) (c0_0 : Nat) (l0_0 : List (S61)) (a0_1 : Int) (a0_2 : Int) (a0_3 : Int) (a0_4 : Int) (a0_5 : Bool) (a1 : ByteArray) (r : Int) (w : World) (hr0_0 : Kd.C k61 w A0_0 l0_0.length l0_0) (hc0_0 : l0_0.length ≤ c0_0) (h : spec_l6Find.f k l0_0 a0_1 a0_2 a0_3 a0_4 a0_5 a1 = some r) :
    Calls Tryz.prog 48 #[.agg #[.slice A0_0 l0_0.length c0_0, .int .i64 a0_1, .int .i64 a0_2, .int .i64 a0_3, .int .i64 a0_4, .bool a0_5], .string a1] w fun e w' => e = .returned (.int .i64 r) ∧ Below w.heap.size w w' := by
  have hu30 := Tryz.underlying30; have hu61 := Tryz.underlying61; have HR0_0 := qK hr0_0; have HC0_0 := qK hc0_0; clear hr0_0 hc0_0; have HB := qK (Below.refl w.heap.size w); have H : (spec_l6Find.l0 k a1 l0_0 (l0_0.length : Int) 0) = some r := h; clear h; have H' := qK H; clear H; go_enter Tryz.func48, Tryz.ntmps48; go_wp2_with (first | ((with_reducible refine gds (N := 2) rfl ?_); refine qbx 2 #[.slice A0_0 l0_0.length c0_0, .int .i64 a0_1, .int .i64 a0_2, .int .i64 a0_3, .int .i64 a0_4, .bool a0_5] 30 ?_; intro gb141 hg w3 hbox hb; have BK141 := qK (hbox); have GW141 := qK ((qW : w.heap.size ≤ gb141)); have GE141 := GW141; replace HB := qHB HB hb; clear hb hbox hg; have hz4 := qz6 BK141.out)); go_loopg [10] k (fun kq v10 w' => ∃ (x10_1 : Int), v10 = .int .i64 x10_1 ∧ Aside0 (spec_l6Find.l0 kq a1 l0_0 (l0_0.length : Int) x10_1 = some r) ∧ Aside0 (kq ≤ k) ∧ Aside0 (w'.heap[gb141]? = some (.cells #[(.slice A0_0 l0_0.length c0_0), .int .i64 a0_1, .int .i64 a0_2, .int .i64 a0_3, .int .i64 a0_4, .bool a0_5] 30 (0, 0))) ∧ Aside0 (Below w.heap.size w w'))
  case atStart => exact ⟨(0), qS, H', ⟨Nat.le_refl _⟩, ⟨by (with_reducible repeat (first | refine bdN ?_ _ | refine bkD ?_ | refine bkA ?_ _)); exact BK141.out⟩, ⟨qB⟩⟩
  case round =>
    clear H'; (try clear p2); (try clear c4); (try clear hz4); obtain ⟨x10_1, rfl, HA, HK1, BK141, HB⟩ := hrel
    cases gk with
    | zero => exact absurd HA.out (by simp [spec_l6Find.l0])
    | succ k1 =>
      have H := HA.out; clear HA; simp only [spec_l6Find.l0] at H; by_cases c5 : x10_1 < (l0_0.length : Int)
      · rw [if_pos c5] at H; have c5b0 : decide (x10_1 < (l0_0.length : Int)) = true := decide_eq_true c5; clear c5; by_cases c6 : 0 ≤ x10_1
        · rw [if_pos c6] at H; have c6b0 : decide (0 ≤ x10_1) = true := decide_eq_true c6; clear c6; by_cases c7 : x10_1 < (l0_0.length : Int)
          · rw [if_pos c7] at H; have c7b0 : decide (x10_1 < (l0_0.length : Int)) = true := decide_eq_true c7; clear c7; by_cases c8 : ((rd_T61 l0_0 x10_1).f0).toList = a1.toList
            · rw [if_pos c8] at H; have c8b0 : (((rd_T61 l0_0 x10_1).f0).toList == a1.toList) = true := beq_iff_eq.mpr c8; have c8b1 : (((rd_T61 l0_0 x10_1).f0).toList != a1.toList) = false := bne_eq_false_iff_eq.mpr c8; clear c8; obtain rfl := Option.some.inj H; have p142 : 0 ≤ (x10_1 : Int) := of_decide_eq_true qa; have q142 : x10_1 < (l0_0.length : Int) := of_decide_eq_true qa; obtain ⟨ad142, e142, hx142_0, hx142_1, hx142_2⟩ := at_T61 HR0_0.out x10_1 p142 q142; cases e142; replace hx142_0 := (HB.out.cell (World.block_lt_of_cell? w _ hx142_0)).trans hx142_0; replace hx142_1 := (HB.out.cell (World.block_lt_of_cell? w _ hx142_1)).trans hx142_1; replace hx142_2 := (HB.out.cell (World.block_lt_of_cell? w _ hx142_2)).trans hx142_2; replace p142 := eq_true p142; replace q142 := eq_true q142; go_wp2_with (first | ((with_reducible refine gds (N := 6) rfl ?_); refine qbx 6 #[.string (⟨#[]⟩ : ByteArray), .string (⟨#[]⟩ : ByteArray), .int .i64 0] 61 ?_; intro gb143 hg w9 hbox hb; have BK143 := qK (hbox); have GW143 := qK ((qW : w.heap.size ≤ gb143)); have GE143 := GW143; replace HB := qHB HB hb; have NB141_143 := qK (qlt BK141 hg); have NB143_141 := qK (qgt BK141 hg); replace BK141 := qbb BK141 hb; clear hb hbox hg; have hnb10 := NB143_141.out; have hnc10 := NB141_143.out; have hz11 := qz3 BK143.out)); go_ret; exact ⟨qR, qB⟩
            · rw [if_neg c8] at H; have c8b0 : (((rd_T61 l0_0 x10_1).f0).toList == a1.toList) = false := beq_eq_false_iff_ne.mpr c8; have c8b1 : (((rd_T61 l0_0 x10_1).f0).toList != a1.toList) = true := bne_iff_ne.mpr c8; have H' := qK H; clear H; have p142 : 0 ≤ (x10_1 : Int) := of_decide_eq_true qa; have q142 : x10_1 < (l0_0.length : Int) := of_decide_eq_true qa; obtain ⟨ad142, e142, hx142_0, hx142_1, hx142_2⟩ := at_T61 HR0_0.out x10_1 p142 q142; cases e142; replace hx142_0 := (HB.out.cell (World.block_lt_of_cell? w _ hx142_0)).trans hx142_0; replace hx142_1 := (HB.out.cell (World.block_lt_of_cell? w _ hx142_1)).trans hx142_1; replace hx142_2 := (HB.out.cell (World.block_lt_of_cell? w _ hx142_2)).trans hx142_2; replace p142 := eq_true p142; replace q142 := eq_true q142; go_wp2_with (first | ((with_reducible refine gds (N := 6) rfl ?_); refine qbx 6 #[.string (⟨#[]⟩ : ByteArray), .string (⟨#[]⟩ : ByteArray), .int .i64 0] 61 ?_; intro gb143 hg w12 hbox hb; have BK143 := qK (hbox); have GW143 := qK ((qW : w.heap.size ≤ gb143)); have GE143 := GW143; replace HB := qHB HB hb; have NB141_143 := qK (qlt BK141 hg); have NB143_141 := qK (qgt BK141 hg); replace BK141 := qbb BK141 hb; clear hb hbox hg; have hnb13 := NB143_141.out; have hnc13 := NB141_143.out; have hz14 := qz3 BK143.out)); go_roundg k1
              case measure => have := HK1.out; omega
              case rel => exact ⟨(wrap64 (x10_1 + 1)), qS, H', ⟨by have := HK1.out; omega⟩, ⟨by (with_reducible repeat (first | refine bdN ?_ _ | refine bkD ?_ | refine bkA ?_ _)); refine bfa ?_ NB141_143.out _; refine bfa ?_ NB141_143.out _; refine bfa ?_ NB141_143.out _; exact BK141.out⟩, ⟨qB⟩⟩
          · rw [if_neg c7] at H; exact absurd H (by simp)
        · rw [if_neg c6] at H; exact absurd H (by simp)
      · rw [if_neg c5] at H; have c5b0 : decide (x10_1 < (l0_0.length : Int)) = false := decide_eq_false c5; clear c5; obtain rfl := Option.some.inj H; go_wp2; go_ret; exact ⟨qR, qB⟩
mutual
def spec_l6With.l0 : Nat → ByteArray → List (S61) → Bool → List (S61) → Int → Int → ByteArray → ByteArray → Int → Option ((List (S61)))
  | 0, _, _, _, _, _, _, _, _, _ => none
  | k + 1, x1, x7, x8, x15, x16, x17, x145000, x145001, x145002 => if x17 < x16 then (if 0 ≤ x17 then (if x17 < (x15.length : Int) then (if x8 = true then (spec_l6With.j1 k x1 x7 x8 x15 x16 x17 false x145000 x145001 x145002 ((rd_T61 x15 x17).f0) ((rd_T61 x15 x17).f1) ((rd_T61 x15 x17).f2)) else (spec_l6With.j1 k x1 x7 x8 x15 x16 x17 (Op.bytesLess x145000.toList (((rd_T61 x15 x17).f0).toList)) x145000 x145001 x145002 ((rd_T61 x15 x17).f0) ((rd_T61 x15 x17).f1) ((rd_T61 x15 x17).f2))) else (none)) else (none)) else (if x8 = true then (some x7) else (if x7.length < 3518437208883 then (some (x7 ++ [(⟨x145000, x145001, x145002⟩ : S61)])) else (none)))
def spec_l6With.j1 : Nat → ByteArray → List (S61) → Bool → List (S61) → Int → Int → Bool → ByteArray → ByteArray → Int → ByteArray → ByteArray → Int → Option ((List (S61)))
  | 0, _, _, _, _, _, _, _, _, _, _, _, _, _ => none
  | k + 1, x1, x7, x8, x15, x16, x17, x29, x145000, x145001, x145002, x153000, x153001, x153002 => if x29 = true then (if x7.length < 3518437208883 then ((some (x7 ++ [(⟨x145000, x145001, x145002⟩ : S61)] : List (S61))).bind fun y153 => (if x153000.toList = x1.toList then (spec_l6With.l0 k x1 y153 true x15 x16 (wrap64 (x17 + 1)) x145000 x145001 x145002) else (if y153.length < 3518437208883 then (spec_l6With.l0 k x1 (y153 ++ [(⟨x153000, x153001, x153002⟩ : S61)]) true x15 x16 (wrap64 (x17 + 1)) x145000 x145001 x145002) else (none)))) else (none)) else (if x153000.toList = x1.toList then (spec_l6With.l0 k x1 x7 x8 x15 x16 (wrap64 (x17 + 1)) x145000 x145001 x145002) else (if x7.length < 3518437208883 then (spec_l6With.l0 k x1 (x7 ++ [(⟨x153000, x153001, x153002⟩ : S61)]) x8 x15 x16 (wrap64 (x17 + 1)) x145000 x145001 x145002) else (none)))
end
def spec_l6With.f (k : Nat) (l0 : List (S61)) (a1 : ByteArray) (a2_0 : ByteArray) (a2_1 : ByteArray) (a2_2 : Int) : Option ((List (S61))) := spec_l6With.l0 k a1 (([] : List (S61))) (a2_0.toList == ([] : List UInt8)) l0 (l0.length : Int) 0 a2_0 a2_1 a2_2
theorem spec_l6With.mono_l : ∀ k, (∀ y0 y1 y2 y3 y4 y5 y6 y7 y8, LeO (spec_l6With.l0 k y0 y1 y2 y3 y4 y5 y6 y7 y8) (spec_l6With.l0 (k + 1) y0 y1 y2 y3 y4 y5 y6 y7 y8)) ∧ (∀ y0 y1 y2 y3 y4 y5 y6 y7 y8 y9 y10 y11 y12, LeO (spec_l6With.j1 k y0 y1 y2 y3 y4 y5 y6 y7 y8 y9 y10 y11 y12) (spec_l6With.j1 (k + 1) y0 y1 y2 y3 y4 y5 y6 y7 y8 y9 y10 y11 y12))
  | 0 => ⟨fun _ _ _ _ _ _ _ _ _ r h => by simp [spec_l6With.l0] at h, fun _ _ _ _ _ _ _ _ _ _ _ _ _ r h => by simp [spec_l6With.j1] at h⟩
  | k + 1 => by
    obtain ⟨ih0, ih1⟩ := spec_l6With.mono_l k
    refine ⟨?_, ?_⟩
    · intro y0 y1 y2 y3 y4 y5 y6 y7 y8
      unfold spec_l6With.l0
      repeat' first
      | (with_reducible exact ih0 _ _ _ _ _ _ _ _ _)
      | (with_reducible exact ih1 _ _ _ _ _ _ _ _ _ _ _ _ _)
      | (with_reducible exact LeO.refl _)
      | (with_reducible exact LeO.none _)
      | (with_reducible refine LeO.ite ?_ ?_)
      | (with_reducible refine LeO.bind ?_ (fun _ => ?_))
      | exact ih0 _ _ _ _ _ _ _ _ _
      | exact ih1 _ _ _ _ _ _ _ _ _ _ _ _ _
      | exact LeO.none _
      | refine LeO.ite ?_ ?_
      | refine LeO.bind ?_ (fun _ => ?_)
    · intro y0 y1 y2 y3 y4 y5 y6 y7 y8 y9 y10 y11 y12
      unfold spec_l6With.j1
      repeat' first
      | (with_reducible exact ih0 _ _ _ _ _ _ _ _ _)
      | (with_reducible exact ih1 _ _ _ _ _ _ _ _ _ _ _ _ _)
      | (with_reducible exact LeO.refl _)
      | (with_reducible exact LeO.none _)
      | (with_reducible refine LeO.ite ?_ ?_)
      | (with_reducible refine LeO.bind ?_ (fun _ => ?_))
      | exact ih0 _ _ _ _ _ _ _ _ _
      | exact ih1 _ _ _ _ _ _ _ _ _ _ _ _ _
      | exact LeO.none _
      | refine LeO.ite ?_ ?_
      | refine LeO.bind ?_ (fun _ => ?_)
theorem spec_l6With.mono : ∀ a0 a1 a2 a3 a4 k, LeO (spec_l6With.f k a0 a1 a2 a3 a4) (spec_l6With.f (k + 1) a0 a1 a2 a3 a4) := by
  intro a0 a1 a2 a3 a4 k
  obtain ⟨ih0, ih1⟩ := spec_l6With.mono_l k
  unfold spec_l6With.f
  repeat' first
      | (with_reducible exact ih0 _ _ _ _ _ _ _ _ _)
      | (with_reducible exact ih1 _ _ _ _ _ _ _ _ _ _ _ _ _)
      | (with_reducible exact LeO.refl _)
      | (with_reducible exact LeO.none _)
      | (with_reducible refine LeO.ite ?_ ?_)
      | (with_reducible refine LeO.bind ?_ (fun _ => ?_))
      | exact ih0 _ _ _ _ _ _ _ _ _
      | exact ih1 _ _ _ _ _ _ _ _ _ _ _ _ _
      | exact LeO.none _
      | refine LeO.ite ?_ ?_
      | refine LeO.bind ?_ (fun _ => ?_)
set_option maxHeartbeats 8000000 in
set_option maxRecDepth 100000 in
theorem spec_l6With.calls (k : Nat) (A0 : Option Addr) (c0 : Nat) (l0 : List (S61)) (a1 : ByteArray) (a2_0 : ByteArray) (a2_1 : ByteArray) (a2_2 : Int) (r : List (S61)) (w : World) (hr0 : Kd.C k61 w A0 l0.length l0) (hc0 : l0.length ≤ c0) (h : spec_l6With.f k l0 a1 a2_0 a2_1 a2_2 = some r) :
    Calls Tryz.prog 49 #[.slice A0 l0.length c0, .string a1, .agg #[.string a2_0, .string a2_1, .int .i64 a2_2]] w fun e w' => ∃ v0_ : Value, e = .returned (v0_) ∧ Kd.R k61 61 w' w.heap.size (fun _ => True) v0_ r ∧ Below w.heap.size w w' := by
  have hu61 := Tryz.underlying61; have HR0 := qK hr0; have HC0 := qK hc0; clear hr0 hc0; have HB := qK (Below.refl w.heap.size w); have H : (spec_l6With.l0 k a1 (([] : List (S61))) (a2_0.toList == ([] : List UInt8)) l0 (l0.length : Int) 0 a2_0 a2_1 a2_2) = some r := h; clear h; obtain ⟨y145, hy145⟩ : ∃ y_ : List (S61), y_ = (([] : List (S61))) := ⟨_, rfl⟩; (replace H : (spec_l6With.l0 k a1 y145 (a2_0.toList == ([] : List UInt8)) l0 (l0.length : Int) 0 a2_0 a2_1 a2_2) = some r := by first | (rw [hy145]; with_reducible exact H) | (have H2_ := (Option.bind_some _ _).symm.trans H; rw [hy145]; with_reducible exact H2_) | (have H2_ := (Option.bind_some _ _).symm.trans H; with_reducible exact H2_) | with_reducible exact H | (rw [hy145]; exact H) | exact H); have Ny145 := qK hy145; clear hy145; have H' := qK H; clear H; go_enter Tryz.func49, Tryz.ntmps49; go_wp2_with (first | ((with_reducible refine gds (N := 5) rfl ?_); refine qbx 5 #[.string a2_0, .string a2_1, .int .i64 a2_2] 61 ?_; intro gb144 hg w4 hbox hb; have BK144 := qK (hbox); have GW144 := qK ((qW : w.heap.size ≤ gb144)); have GE144 := GW144; replace HB := qHB HB hb; clear hb hbox hg) | ((with_reducible refine gds (N := 11) rfl ?_); refine Kd.R_lit k61 _ 61 ?hg (N := 11) ?hd (xs := ([] : List (S61))) (inner := []) (ok := fun _ => True) (okp := fun _ => True) ?hr ?hp (fun _ hk => hk) trivial (Below.refl _ _) (Nat.le_refl _) (by simp) ?_; (case hd => rfl); (case hg => rfl); (case hr => first | (go_simp; done) | (go_simp; rfl)); (case hp => exact (Reps.none _ _)); intro v146 w5 ho6 hb hg_ hnew_; clear hg_ hnew_; (first | rw [← Ny145.out] at ho6 | (simp only [Int.reduceToNat] at ho6; rw [← Ny145.out] at ho6)); have HO147 := qK (Kd.Rlo (Kd.R_newB ho6 (qpk BK144)) (bsz qB)); replace BK144 := qbb BK144 hb; replace HB := qHB HB hb; clear hb ho6; have hz7 := qz3 BK144.out)); go_loopg [7, 8, 17] k (fun kq v7 v8 v17 w' => ∃ (x7_1 : List (S61)) (x8_1 : Bool) (x17_1 : Int), v8 = .bool x8_1 ∧ v17 = .int .i64 x17_1 ∧ Aside0 (spec_l6With.l0 kq a1 x7_1 x8_1 l0 (l0.length : Int) x17_1 a2_0 a2_1 a2_2 = some r) ∧ Aside0 (kq ≤ k) ∧ Aside0 (Kd.R k61 61 w' w.heap.size (fun k_ => k_ ≠ gb144) v7 x7_1) ∧ Aside0 (w'.heap[gb144]? = some (.cells #[.string a2_0, .string a2_1, .int .i64 a2_2] 61 (0, 0))) ∧ Aside0 (Below w.heap.size w w'))
  case atStart => exact ⟨(y145), ((a2_0.toList == ([] : List UInt8))), (0), qS, qS, H', ⟨Nat.le_refl _⟩, ⟨by (with_reducible repeat (first | apply Kd.Ral | apply Kd.RdN | apply Kd.Rdr)); exact Kd.Rmo HO147.out (fun _ hk => hk.2)⟩, ⟨by (with_reducible repeat (first | refine bdN ?_ _ | refine bkD ?_ | refine bkA ?_ _)); exact BK144.out⟩, ⟨qB⟩⟩
  case round =>
    clear H'; (try clear p2); (try clear c4); (try clear hz7); obtain ⟨x7_1, x8_1, x17_1, rfl, rfl, HA, HK1, HO_7, BK144, HB⟩ := hrel
    cases gk with
    | zero => exact absurd HA.out (by simp [spec_l6With.l0])
    | succ k1 =>
      have H := HA.out; clear HA; simp only [spec_l6With.l0] at H; by_cases c8 : x17_1 < (l0.length : Int)
      · rw [if_pos c8] at H; have c8b0 : decide (x17_1 < (l0.length : Int)) = true := decide_eq_true c8; clear c8; by_cases c9 : 0 ≤ x17_1
        · rw [if_pos c9] at H; have c9b0 : decide (0 ≤ x17_1) = true := decide_eq_true c9; clear c9; by_cases c10 : x17_1 < (l0.length : Int)
          · rw [if_pos c10] at H; have c10b0 : decide (x17_1 < (l0.length : Int)) = true := decide_eq_true c10; clear c10; have HC11 := qK H; clear H; have p151 : 0 ≤ (x17_1 : Int) := of_decide_eq_true qa; have q151 : x17_1 < (l0.length : Int) := of_decide_eq_true qa; obtain ⟨ad151, e151, hx151_0, hx151_1, hx151_2⟩ := at_T61 HR0.out x17_1 p151 q151; cases e151; replace hx151_0 := (HB.out.cell (World.block_lt_of_cell? w _ hx151_0)).trans hx151_0; replace hx151_1 := (HB.out.cell (World.block_lt_of_cell? w _ hx151_1)).trans hx151_1; replace hx151_2 := (HB.out.cell (World.block_lt_of_cell? w _ hx151_2)).trans hx151_2; replace p151 := eq_true p151; replace q151 := eq_true q151; go_upto_region 6 with (first | ((with_reducible refine gds (N := 10) rfl ?_); refine qbx 10 #[.string (⟨#[]⟩ : ByteArray), .string (⟨#[]⟩ : ByteArray), .int .i64 0] 61 ?_; intro gb152 hg w12 hbox hb; replace HO_7 := qK (Kd.Rbe (Kd.R_elderB (qRb HO_7) gb152 (Nat.le_of_eq hg.symm)) hb); have BK152 := qK (hbox); have GW152 := qK ((qW : w.heap.size ≤ gb152)); have GE152 := GW152; replace HB := qHB HB hb; have NB144_152 := qK (qlt BK144 hg); have NB152_144 := qK (qgt BK144 hg); replace BK144 := qbb BK144 hb; clear hb hbox hg; have hnb13 := NB152_144.out; have hnc13 := NB144_152.out; have hz14 := qz3 BK152.out)); (try simp only [Act.put, List.setIfInBounds_toArray, List.set_cons_zero, List.set_cons_succ]); go_cut [29] (fun v29 wc => ∃ (kq : Nat) (x29_10 : Bool), v29 = .bool x29_10 ∧ Aside0 (spec_l6With.j1 kq a1 x7_1 x8_1 l0 (l0.length : Int) x17_1 x29_10 a2_0 a2_1 a2_2 ((rd_T61 l0 x17_1).f0) ((rd_T61 l0 x17_1).f1) ((rd_T61 l0 x17_1).f2) = some r) ∧ Aside0 (kq ≤ k1) ∧ Aside0 (Kd.R k61 61 wc w.heap.size (fun k_ => k_ ≠ gb144 ∧ k_ ≠ gb152) u7 x7_1) ∧ Aside0 (wc.heap[gb144]? = some (.cells #[.string a2_0, .string a2_1, .int .i64 a2_2] 61 (0, 0))) ∧ Aside0 (wc.heap[gb152]? = some (.cells #[.string ((rd_T61 l0 x17_1).f0), .string ((rd_T61 l0 x17_1).f1), .int .i64 ((rd_T61 l0 x17_1).f2)] 61 (0, 0))) ∧ Aside0 (Below w.heap.size w wc))
            case first =>
              have H := HC11.out; clear HC11; by_cases c15 : x8_1 = true
              · subst c15; rw [if_pos rfl] at H; have H' := qK H; clear H; go_wp2; go_meet
                case rel => exact ⟨_, (false), qS, H', ⟨by have := HK1.out; first | omega | exact Nat.le_refl _⟩, ⟨by (with_reducible repeat (first | apply Kd.Ral | apply Kd.RdN | apply Kd.Rdr)); exact Kd.Rmo (Kd.Rfa (p := ⟨gb152, 2, none⟩) (Kd.Rfa (p := ⟨gb152, 1, none⟩) (Kd.Rfa (p := ⟨gb152, 0, none⟩) (Kd.Rmo HO_7.out (fun k_ hk => (⟨hk, hk.2⟩ : _ ∧ k_ ≠ gb152))) (fun _ hk => hk.2) (.string ((rd_T61 l0 x17_1).f0))) (fun _ hk => hk.2) (.string ((rd_T61 l0 x17_1).f1))) (fun _ hk => hk.2) (.int .i64 ((rd_T61 l0 x17_1).f2))) (fun _ hk => by first | exact ⟨hk.1.1, hk.1.2⟩ | exact ⟨hk.1.2, hk.2⟩ | exact ⟨hk.1.1, hk.2⟩ | exact ⟨hk.1.1, hk.1.2⟩ | exact ⟨hk.2, hk.1.1⟩ | exact ⟨hk.1.2, hk.1.1⟩ | exact ⟨hk.2, hk.1.2⟩)⟩, ⟨by (with_reducible repeat (first | refine bdN ?_ _ | refine bkD ?_ | refine bkA ?_ _)); refine bfa ?_ NB144_152.out _; refine bfa ?_ NB144_152.out _; refine bfa ?_ NB144_152.out _; exact BK144.out⟩, ⟨by (with_reducible repeat (first | refine bdN ?_ _ | refine bkD ?_ | refine bkA ?_ _)); refine bpu (cs := #[.string ((rd_T61 l0 x17_1).f0), .string ((rd_T61 l0 x17_1).f1), .int .i64 0]) ?_ 2 _ rfl; refine bpu (cs := #[.string ((rd_T61 l0 x17_1).f0), .string (⟨#[]⟩ : ByteArray), .int .i64 0]) ?_ 1 _ rfl; refine bpu (cs := #[.string (⟨#[]⟩ : ByteArray), .string (⟨#[]⟩ : ByteArray), .int .i64 0]) ?_ 0 _ rfl; exact BK152.out⟩, ⟨qB⟩⟩
              · replace c15 := Bool.eq_false_iff.mpr c15; subst c15; rw [if_neg qff] at H; have H' := qK H; clear H; have hnb16 := NB144_152.out; have hnc16 := NB152_144.out; have hz17 := qz3 BK144.out; obtain ⟨hcz18_0, hcz18_1, hcz18_2⟩ := zC3 BK152.out; obtain ⟨hfz18_0, hfz18_1, hfz18_2⟩ := zF3 BK152.out; go_wp2; go_meet
                case rel => exact ⟨_, ((Op.bytesLess a2_0.toList (((rd_T61 l0 x17_1).f0).toList))), qS, H', ⟨by have := HK1.out; first | omega | exact Nat.le_refl _⟩, ⟨by (with_reducible repeat (first | apply Kd.Ral | apply Kd.RdN | apply Kd.Rdr)); exact Kd.Rmo (Kd.Rfa (p := ⟨gb152, 2, none⟩) (Kd.Rfa (p := ⟨gb152, 1, none⟩) (Kd.Rfa (p := ⟨gb152, 0, none⟩) (Kd.Rmo HO_7.out (fun k_ hk => (⟨hk, hk.2⟩ : _ ∧ k_ ≠ gb152))) (fun _ hk => hk.2) (.string ((rd_T61 l0 x17_1).f0))) (fun _ hk => hk.2) (.string ((rd_T61 l0 x17_1).f1))) (fun _ hk => hk.2) (.int .i64 ((rd_T61 l0 x17_1).f2))) (fun _ hk => by first | exact ⟨hk.1.1, hk.1.2⟩ | exact ⟨hk.1.2, hk.2⟩ | exact ⟨hk.1.1, hk.2⟩ | exact ⟨hk.1.1, hk.1.2⟩ | exact ⟨hk.2, hk.1.1⟩ | exact ⟨hk.1.2, hk.1.1⟩ | exact ⟨hk.2, hk.1.2⟩)⟩, ⟨by (with_reducible repeat (first | refine bdN ?_ _ | refine bkD ?_ | refine bkA ?_ _)); refine bfa ?_ NB144_152.out _; refine bfa ?_ NB144_152.out _; refine bfa ?_ NB144_152.out _; exact BK144.out⟩, ⟨by (with_reducible repeat (first | refine bdN ?_ _ | refine bkD ?_ | refine bkA ?_ _)); refine bpu (cs := #[.string ((rd_T61 l0 x17_1).f0), .string ((rd_T61 l0 x17_1).f1), .int .i64 0]) ?_ 2 _ rfl; refine bpu (cs := #[.string ((rd_T61 l0 x17_1).f0), .string (⟨#[]⟩ : ByteArray), .int .i64 0]) ?_ 1 _ rfl; refine bpu (cs := #[.string (⟨#[]⟩ : ByteArray), .string (⟨#[]⟩ : ByteArray), .int .i64 0]) ?_ 0 _ rfl; exact BK152.out⟩, ⟨qB⟩⟩
            case rest =>
              clear HC11; (try clear c1); (try clear p1); (try clear q1); (try clear hx1); (try clear p2); (try clear c4); (try clear c8); (try clear c8b0); (try clear c9); (try clear c9b0); (try clear c10); (try clear c10b0); (try clear c13); (try clear c15); (try clear p15); (try clear q15); (try clear hx15); (try clear c16); (try clear hz14); (try clear hz17); (try clear hcz18_0); (try clear hcz18_1); (try clear hcz18_2); (try clear hz7); (try clear hfz18_0); (try clear hfz18_1); (try clear hfz18_2); (try clear hx151_0); (try clear hx151_1); (try clear hx151_2); (try clear p151); (try clear q151); obtain ⟨kq, x29_10, rfl, HA, HJ10, HO_7, BK144, BK152, HB⟩ := hcut
              cases kq with
              | zero => exact absurd HA.out (by simp [spec_l6With.j1])
              | succ kj10 =>
                have H := HA.out; clear HA; simp only [spec_l6With.j1] at H; by_cases c19 : x29_10 = true
                · subst c19; rw [if_pos rfl] at H; by_cases c20 : x7_1.length < 3518437208883
                  · rw [if_pos c20] at H; have LMc20 := qK c20; clear c20; obtain ⟨y153, hy153⟩ : ∃ y_ : List (S61), y_ = (x7_1 ++ [(⟨a2_0, a2_1, a2_2⟩ : S61)]) := ⟨_, rfl⟩; (replace H : (if ((rd_T61 l0 x17_1).f0).toList = a1.toList then (spec_l6With.l0 kj10 a1 y153 true l0 (l0.length : Int) (wrap64 (x17_1 + 1)) a2_0 a2_1 a2_2) else (if y153.length < 3518437208883 then (spec_l6With.l0 kj10 a1 (y153 ++ [(⟨((rd_T61 l0 x17_1).f0), ((rd_T61 l0 x17_1).f1), ((rd_T61 l0 x17_1).f2)⟩ : S61)]) true l0 (l0.length : Int) (wrap64 (x17_1 + 1)) a2_0 a2_1 a2_2) else (none))) = some r := by first | (rw [hy153]; with_reducible exact H) | (have H2_ := (Option.bind_some _ _).symm.trans H; rw [hy153]; with_reducible exact H2_) | (have H2_ := (Option.bind_some _ _).symm.trans H; with_reducible exact H2_) | with_reducible exact H | (rw [hy153]; exact H) | exact H); have Ny153 := qK hy153; clear hy153; by_cases c21 : ((rd_T61 l0 x17_1).f0).toList = a1.toList
                    · rw [if_pos c21] at H; have c21b0 : (((rd_T61 l0 x17_1).f0).toList == a1.toList) = true := beq_iff_eq.mpr c21; have c21b1 : (((rd_T61 l0 x17_1).f0).toList != a1.toList) = false := bne_eq_false_iff_eq.mpr c21; clear c21; have H' := qK H; clear H; have hnb22 := NB144_152.out; have hnc22 := NB152_144.out; obtain ⟨hcz23_0, hcz23_1, hcz23_2⟩ := zC3 BK144.out; obtain ⟨hfz23_0, hfz23_1, hfz23_2⟩ := zF3 BK144.out; go_wp2_with (first | ((with_reducible refine gbu (b := .append) (xs := #[.tmp 30, .tmp 32]) rfl ?_); at_builtin; refine Kd.R_append k61 (w0 := w) w.heap.size rfl (.tmp 30) (.tmp 32) 28 61 (.agg #[(.string ⟨#[]⟩), (.string ⟨#[]⟩), (.int .i64 0)]) 40 rfl Tryz.underlying28 info61 rfl (by decide) (by omega) u7 x7_1 (⟨a2_0, a2_1, a2_2⟩ : S61) [.string a2_0, .string a2_1, .int .i64 a2_2] (fun k_ => k_ ≠ gb144 ∧ k_ ≠ gb152) (fun _ => False) rfl rfl ?aP (fun _ hk => hk.elim) ?aF ?aO ?aB ?aS ?aL ?_; (case aP => exact k61_mkM _ _ _ (⟨a2_0, a2_1, a2_2⟩ : S61)); (case aB => exact qB); (case aF => exact (fun k_ hk => ⟨Kd.freshB (qpk BK144) k_ hk, Kd.freshB (qpk BK152) k_ hk⟩)); (case aO => exact (qRb HO_7)); (case aS => exact (bsz qB)); (case aL => have := LMc20.out; omega); intro v154 w24 ho hb hg hat; rw [← Ny153.out] at ho; replace BK144 := qK (bgr (qpk BK144) hg (Kd.R_away HO_7.out (fun _ hk => hk.1))); replace BK152 := qK (bgr (qpk BK152) hg (Kd.R_away HO_7.out (fun _ hk => hk.2))); replace HB := qK (hb); have HO155 := qK (ho); clear HO_7; clear ho hb hg hat; have hz25 := qz3 BK152.out)); go_roundg kj10
                      case measure => have := HK1.out; have := HJ10.out; omega
                      case rel => exact ⟨(y153), (true), (wrap64 (x17_1 + 1)), qS, qS, H', ⟨by have := HK1.out; have := HJ10.out; omega⟩, ⟨by (with_reducible repeat (first | apply Kd.Ral | apply Kd.RdN | apply Kd.Rdr)); exact Kd.Rmo HO155.out (fun _ hk => hk.1)⟩, ⟨by (with_reducible repeat (first | refine bdN ?_ _ | refine bkD ?_ | refine bkA ?_ _)); exact BK144.out⟩, ⟨qB⟩⟩
                    · rw [if_neg c21] at H; have c21b0 : (((rd_T61 l0 x17_1).f0).toList == a1.toList) = false := beq_eq_false_iff_ne.mpr c21; have c21b1 : (((rd_T61 l0 x17_1).f0).toList != a1.toList) = true := bne_iff_ne.mpr c21; by_cases c26 : y153.length < 3518437208883
                      · rw [if_pos c26] at H; have LMc26 := qK c26; clear c26; obtain ⟨y156, hy156⟩ : ∃ y_ : List (S61), y_ = (y153 ++ [(⟨((rd_T61 l0 x17_1).f0), ((rd_T61 l0 x17_1).f1), ((rd_T61 l0 x17_1).f2)⟩ : S61)]) := ⟨_, rfl⟩; (replace H : (spec_l6With.l0 kj10 a1 y156 true l0 (l0.length : Int) (wrap64 (x17_1 + 1)) a2_0 a2_1 a2_2) = some r := by first | (rw [hy156]; with_reducible exact H) | (have H2_ := (Option.bind_some _ _).symm.trans H; rw [hy156]; with_reducible exact H2_) | (have H2_ := (Option.bind_some _ _).symm.trans H; with_reducible exact H2_) | with_reducible exact H | (rw [hy156]; exact H) | exact H); have Ny156 := qK hy156; clear hy156; have H' := qK H; clear H; have hnb27 := NB144_152.out; have hnc27 := NB152_144.out; obtain ⟨hcz28_0, hcz28_1, hcz28_2⟩ := zC3 BK144.out; obtain ⟨hfz28_0, hfz28_1, hfz28_2⟩ := zF3 BK144.out; go_wp2_with (first | ((with_reducible refine gbu (b := .append) (xs := #[.tmp 30, .tmp 32]) rfl ?_); at_builtin; refine Kd.R_append k61 (w0 := w) w.heap.size rfl (.tmp 30) (.tmp 32) 28 61 (.agg #[(.string ⟨#[]⟩), (.string ⟨#[]⟩), (.int .i64 0)]) 40 rfl Tryz.underlying28 info61 rfl (by decide) (by omega) u7 x7_1 (⟨a2_0, a2_1, a2_2⟩ : S61) [.string a2_0, .string a2_1, .int .i64 a2_2] (fun k_ => k_ ≠ gb144 ∧ k_ ≠ gb152) (fun _ => False) rfl rfl ?aP (fun _ hk => hk.elim) ?aF ?aO ?aB ?aS ?aL ?_; (case aP => exact k61_mkM _ _ _ (⟨a2_0, a2_1, a2_2⟩ : S61)); (case aB => exact qB); (case aF => exact (fun k_ hk => ⟨Kd.freshB (qpk BK144) k_ hk, Kd.freshB (qpk BK152) k_ hk⟩)); (case aO => exact (qRb HO_7)); (case aS => exact (bsz qB)); (case aL => have := LMc20.out; omega); intro v154 w29 ho hb hg hat; rw [← Ny153.out] at ho; replace BK144 := qK (bgr (qpk BK144) hg (Kd.R_away HO_7.out (fun _ hk => hk.1))); replace BK152 := qK (bgr (qpk BK152) hg (Kd.R_away HO_7.out (fun _ hk => hk.2))); replace HB := qK (hb); have HO155 := qK (ho); clear HO_7; clear ho hb hg hat; have hz30 := qz3 BK152.out) | ((with_reducible refine gbu (b := .append) (xs := #[.tmp 38, .tmp 40]) rfl ?_); at_builtin; refine Kd.R_append k61 (w0 := w) w.heap.size rfl (.tmp 38) (.tmp 40) 28 61 (.agg #[(.string ⟨#[]⟩), (.string ⟨#[]⟩), (.int .i64 0)]) 40 rfl Tryz.underlying28 info61 rfl (by decide) (by omega) v154 y153 (⟨((rd_T61 l0 x17_1).f0), ((rd_T61 l0 x17_1).f1), ((rd_T61 l0 x17_1).f2)⟩ : S61) [.string ((rd_T61 l0 x17_1).f0), .string ((rd_T61 l0 x17_1).f1), .int .i64 ((rd_T61 l0 x17_1).f2)] (fun k_ => k_ ≠ gb144 ∧ k_ ≠ gb152) (fun _ => False) rfl rfl ?aP (fun _ hk => hk.elim) ?aF ?aO ?aB ?aS ?aL ?_; (case aP => exact k61_mkM _ _ _ (⟨((rd_T61 l0 x17_1).f0), ((rd_T61 l0 x17_1).f1), ((rd_T61 l0 x17_1).f2)⟩ : S61)); (case aB => exact qB); (case aF => exact (fun k_ hk => ⟨Kd.freshB (qpk BK144) k_ hk, Kd.freshB (qpk BK152) k_ hk⟩)); (case aO => exact (qRb HO155)); (case aS => exact (bsz qB)); (case aL => have := LMc26.out; omega); intro v157 w31 ho hb hg hat; rw [← Ny156.out] at ho; replace BK144 := qK (bgr (qpk BK144) hg (Kd.R_away HO155.out (fun _ hk => hk.1))); replace BK152 := qK (bgr (qpk BK152) hg (Kd.R_away HO155.out (fun _ hk => hk.2))); replace HB := qK (hb); have HO158 := qK (ho); clear HO155; clear ho hb hg hat)); go_roundg kj10
                        case measure => have := HK1.out; have := HJ10.out; omega
                        case rel => exact ⟨(y156), (true), (wrap64 (x17_1 + 1)), qS, qS, H', ⟨by have := HK1.out; have := HJ10.out; omega⟩, ⟨by (with_reducible repeat (first | apply Kd.Ral | apply Kd.RdN | apply Kd.Rdr)); exact Kd.Rmo HO158.out (fun _ hk => hk.1)⟩, ⟨by (with_reducible repeat (first | refine bdN ?_ _ | refine bkD ?_ | refine bkA ?_ _)); exact BK144.out⟩, ⟨qB⟩⟩
                      · rw [if_neg c26] at H; exact absurd H (by simp)
                  · rw [if_neg c20] at H; exact absurd H (by simp)
                · replace c19 := Bool.eq_false_iff.mpr c19; subst c19; rw [if_neg qff] at H; by_cases c32 : ((rd_T61 l0 x17_1).f0).toList = a1.toList
                  · rw [if_pos c32] at H; have c32b0 : (((rd_T61 l0 x17_1).f0).toList == a1.toList) = true := beq_iff_eq.mpr c32; have c32b1 : (((rd_T61 l0 x17_1).f0).toList != a1.toList) = false := bne_eq_false_iff_eq.mpr c32; clear c32; have H' := qK H; clear H; have hnb33 := NB152_144.out; have hnc33 := NB144_152.out; obtain ⟨hcz34_0, hcz34_1, hcz34_2⟩ := zC3 BK152.out; obtain ⟨hfz34_0, hfz34_1, hfz34_2⟩ := zF3 BK152.out; go_wp2; go_roundg kj10
                    case measure => have := HK1.out; have := HJ10.out; omega
                    case rel => exact ⟨(x7_1), (x8_1), (wrap64 (x17_1 + 1)), qS, qS, H', ⟨by have := HK1.out; have := HJ10.out; omega⟩, ⟨by (with_reducible repeat (first | apply Kd.Ral | apply Kd.RdN | apply Kd.Rdr)); exact Kd.Rmo HO_7.out (fun _ hk => hk.1)⟩, ⟨by (with_reducible repeat (first | refine bdN ?_ _ | refine bkD ?_ | refine bkA ?_ _)); exact BK144.out⟩, ⟨qB⟩⟩
                  · rw [if_neg c32] at H; have c32b0 : (((rd_T61 l0 x17_1).f0).toList == a1.toList) = false := beq_eq_false_iff_ne.mpr c32; have c32b1 : (((rd_T61 l0 x17_1).f0).toList != a1.toList) = true := bne_iff_ne.mpr c32; by_cases c35 : x7_1.length < 3518437208883
                    · rw [if_pos c35] at H; have LMc35 := qK c35; clear c35; obtain ⟨y159, hy159⟩ : ∃ y_ : List (S61), y_ = (x7_1 ++ [(⟨((rd_T61 l0 x17_1).f0), ((rd_T61 l0 x17_1).f1), ((rd_T61 l0 x17_1).f2)⟩ : S61)]) := ⟨_, rfl⟩; (replace H : (spec_l6With.l0 kj10 a1 y159 x8_1 l0 (l0.length : Int) (wrap64 (x17_1 + 1)) a2_0 a2_1 a2_2) = some r := by first | (rw [hy159]; with_reducible exact H) | (have H2_ := (Option.bind_some _ _).symm.trans H; rw [hy159]; with_reducible exact H2_) | (have H2_ := (Option.bind_some _ _).symm.trans H; with_reducible exact H2_) | with_reducible exact H | (rw [hy159]; exact H) | exact H); have Ny159 := qK hy159; clear hy159; have H' := qK H; clear H; have hnb36 := NB152_144.out; have hnc36 := NB144_152.out; obtain ⟨hcz37_0, hcz37_1, hcz37_2⟩ := zC3 BK152.out; obtain ⟨hfz37_0, hfz37_1, hfz37_2⟩ := zF3 BK152.out; go_wp2_with (first | ((with_reducible refine gbu (b := .append) (xs := #[.tmp 38, .tmp 40]) rfl ?_); at_builtin; refine Kd.R_append k61 (w0 := w) w.heap.size rfl (.tmp 38) (.tmp 40) 28 61 (.agg #[(.string ⟨#[]⟩), (.string ⟨#[]⟩), (.int .i64 0)]) 40 rfl Tryz.underlying28 info61 rfl (by decide) (by omega) u7 x7_1 (⟨((rd_T61 l0 x17_1).f0), ((rd_T61 l0 x17_1).f1), ((rd_T61 l0 x17_1).f2)⟩ : S61) [.string ((rd_T61 l0 x17_1).f0), .string ((rd_T61 l0 x17_1).f1), .int .i64 ((rd_T61 l0 x17_1).f2)] (fun k_ => k_ ≠ gb144 ∧ k_ ≠ gb152) (fun _ => False) rfl rfl ?aP (fun _ hk => hk.elim) ?aF ?aO ?aB ?aS ?aL ?_; (case aP => exact k61_mkM _ _ _ (⟨((rd_T61 l0 x17_1).f0), ((rd_T61 l0 x17_1).f1), ((rd_T61 l0 x17_1).f2)⟩ : S61)); (case aB => exact qB); (case aF => exact (fun k_ hk => ⟨Kd.freshB (qpk BK144) k_ hk, Kd.freshB (qpk BK152) k_ hk⟩)); (case aO => exact (qRb HO_7)); (case aS => exact (bsz qB)); (case aL => have := LMc35.out; omega); intro v160 w38 ho hb hg hat; rw [← Ny159.out] at ho; replace BK144 := qK (bgr (qpk BK144) hg (Kd.R_away HO_7.out (fun _ hk => hk.1))); replace BK152 := qK (bgr (qpk BK152) hg (Kd.R_away HO_7.out (fun _ hk => hk.2))); replace HB := qK (hb); have HO161 := qK (ho); clear HO_7; clear ho hb hg hat)); go_roundg kj10
                      case measure => have := HK1.out; have := HJ10.out; omega
                      case rel => exact ⟨(y159), (x8_1), (wrap64 (x17_1 + 1)), qS, qS, H', ⟨by have := HK1.out; have := HJ10.out; omega⟩, ⟨by (with_reducible repeat (first | apply Kd.Ral | apply Kd.RdN | apply Kd.Rdr)); exact Kd.Rmo HO161.out (fun _ hk => hk.1)⟩, ⟨by (with_reducible repeat (first | refine bdN ?_ _ | refine bkD ?_ | refine bkA ?_ _)); exact BK144.out⟩, ⟨qB⟩⟩
                    · rw [if_neg c35] at H; exact absurd H (by simp)
          · rw [if_neg c10] at H; exact absurd H (by simp)
        · rw [if_neg c9] at H; exact absurd H (by simp)
      · rw [if_neg c8] at H; have c8b0 : decide (x17_1 < (l0.length : Int)) = false := decide_eq_false c8; clear c8; by_cases c39 : x8_1 = true
        · subst c39; rw [if_pos rfl] at H; obtain rfl := Option.some.inj H; go_wp2; go_ret; exact ⟨_, qR, by (with_reducible repeat (first | apply Kd.Ral | apply Kd.RdN | apply Kd.Rdr)); exact Kd.Rmo HO_7.out (fun _ hk => trivial), qB⟩
        · replace c39 := Bool.eq_false_iff.mpr c39; subst c39; rw [if_neg qff] at H; by_cases c40 : x7_1.length < 3518437208883
          · rw [if_pos c40] at H; have LMc40 := qK c40; clear c40; obtain ⟨y148, hy148⟩ : ∃ y_ : List (S61), y_ = (x7_1 ++ [(⟨a2_0, a2_1, a2_2⟩ : S61)]) := ⟨_, rfl⟩; (replace H : (some y148) = some r := by first | (rw [hy148]; with_reducible exact H) | (have H2_ := (Option.bind_some _ _).symm.trans H; rw [hy148]; with_reducible exact H2_) | (have H2_ := (Option.bind_some _ _).symm.trans H; with_reducible exact H2_) | with_reducible exact H | (rw [hy148]; exact H) | exact H); have Ny148 := qK hy148; clear hy148; obtain rfl := Option.some.inj H; obtain ⟨hcz41_0, hcz41_1, hcz41_2⟩ := zC3 BK144.out; obtain ⟨hfz41_0, hfz41_1, hfz41_2⟩ := zF3 BK144.out; go_wp2_with (first | ((with_reducible refine gbu (b := .append) (xs := #[.tmp 45, .tmp 47]) rfl ?_); at_builtin; refine Kd.R_append k61 (w0 := w) w.heap.size rfl (.tmp 45) (.tmp 47) 28 61 (.agg #[(.string ⟨#[]⟩), (.string ⟨#[]⟩), (.int .i64 0)]) 40 rfl Tryz.underlying28 info61 rfl (by decide) (by omega) u7 x7_1 (⟨a2_0, a2_1, a2_2⟩ : S61) [.string a2_0, .string a2_1, .int .i64 a2_2] (fun k_ => k_ ≠ gb144) (fun _ => False) rfl rfl ?aP (fun _ hk => hk.elim) ?aF ?aO ?aB ?aS ?aL ?_; (case aP => exact k61_mkM _ _ _ (⟨a2_0, a2_1, a2_2⟩ : S61)); (case aB => exact qB); (case aF => exact (fun k_ hk => Kd.freshB (qpk BK144) k_ hk)); (case aO => exact (qRb HO_7)); (case aS => exact (bsz qB)); (case aL => have := LMc40.out; omega); intro v149 w42 ho hb hg hat; rw [← Ny148.out] at ho; replace BK144 := qK (bgr (qpk BK144) hg (Kd.R_away HO_7.out (fun _ hk => hk))); replace HB := qK (hb); have HO150 := qK (ho); clear HO_7; clear ho hb hg hat)); go_ret; exact ⟨_, qR, by (with_reducible repeat (first | apply Kd.Ral | apply Kd.RdN | apply Kd.Rdr)); exact Kd.Rmo HO150.out (fun _ hk => trivial), qB⟩
          · rw [if_neg c40] at H; exact absurd H (by simp)
def spec_l6Do.f (k : Nat) (l0_0 : List (S61)) (a0_1 : Int) (a0_2 : Int) (a0_3 : Int) (a0_4 : Int) (a0_5 : Bool) (a1_0 : Int) (a1_1 : ByteArray) (a1_2 : ByteArray) (a1_3 : Int) : Option (List (S61) × Int) :=
  (spec_l6Find.f k l0_0 a0_1 a0_2 a0_3 a0_4 a0_5 a1_1).bind fun t =>
    if a1_0 = 1 then (if 0 ≤ t then some (l0_0, 15) else if l0_0.length = 300 then some (l0_0, 13) else (spec_l6With.f k l0_0 (⟨#[]⟩ : ByteArray) a1_1 (⟨#[]⟩ : ByteArray) 0).bind fun r => some (r, 0))
    else if t < 0 then some (l0_0, 14)
    else (l0_0[t.toNat]?).bind fun X =>
      if a1_0 = 2 then (spec_l6Bytes.f k l0_0 a0_1 a0_2 a0_3 a0_4 a0_5).bind fun n =>
        if 0 ≤ a0_1 - n ∧ a0_1 - n ≤ 1000000000 ∧ a1_2.size ≤ 1000000000 ∧ X.f1.size ≤ 1000000000 then
          (if (a0_1 - n).toNat < a1_2.size then (spec_l6With.f k l0_0 a1_1 X.f0 (X.f1 ++ a1_2.extract 0 (a0_1 - n).toNat) X.f2).bind fun r => some (r, 13)
           else (spec_l6With.f k l0_0 a1_1 X.f0 (X.f1 ++ a1_2) X.f2).bind fun r => some (r, 0))
        else none
      else if a1_0 = 3 then (spec_l6With.f k l0_0 a1_1 X.f0 X.f1 (X.f1.size : Int)).bind fun r => some (r, 0)
      else if a1_0 = 4 then (spec_l1Between.f a1_3 0 (X.f1.size : Int)).bind fun b =>
        if b = true then (if 0 ≤ a1_3 ∧ a1_3 ≤ (X.f1.size : Int) then (spec_l6With.f k l0_0 a1_1 X.f0 (X.f1.extract 0 a1_3.toNat) a1_3).bind fun r => some (r, 0) else none) else some (l0_0, 16)
      else if a1_0 = 5 then (spec_l6With.f k l0_0 a1_1 (⟨#[]⟩ : ByteArray) (⟨#[]⟩ : ByteArray) 0).bind fun r => some (r, 0)
      else none
theorem spec_l6Do.mono : ∀ a0 a1 a2 a3 a4 a5 a6 a7 a8 a9 k, LeO (spec_l6Do.f k a0 a1 a2 a3 a4 a5 a6 a7 a8 a9) (spec_l6Do.f (k + 1) a0 a1 a2 a3 a4 a5 a6 a7 a8 a9) := by
  intro a0 a1 a2 a3 a4 a5 a6 a7 a8 a9 k
  unfold spec_l6Do.f
  repeat' first
      | (with_reducible exact spec_l6Bytes.mono _ _ _ _ _ _ _)
      | (with_reducible exact spec_l6Find.mono _ _ _ _ _ _ _ _)
      | (with_reducible exact spec_l6With.mono _ _ _ _ _ _)
      | (with_reducible exact LeO.refl _)
      | (with_reducible exact LeO.none _)
      | (with_reducible refine LeO.ite ?_ ?_)
      | (with_reducible refine LeO.bind ?_ (fun _ => ?_))
theorem spec_l6Do.calls (k : Nat) (B : Nat) (u : Value) (l0_0 : List (S61)) (a0_1 : Int) (a0_2 : Int) (a0_3 : Int) (a0_4 : Int) (a0_5 : Bool) (a1_0 : Int) (a1_1 : ByteArray) (a1_2 : ByteArray) (a1_3 : Int) (l' : List (S61)) (code : Int) (w : World) (ho : Kd.R k61 61 w B (fun _ => True) u l0_0) (hB : B ≤ w.heap.size) (h : spec_l6Do.f k l0_0 a0_1 a0_2 a0_3 a0_4 a0_5 a1_0 a1_1 a1_2 a1_3 = some (l', code)) :
    Calls Tryz.prog 33 #[.agg #[u, .int .i64 a0_1, .int .i64 a0_2, .int .i64 a0_3, .int .i64 a0_4, .bool a0_5], .agg #[.int .i64 a1_0, .string a1_1, .string a1_2, .int .i64 a1_3]] w fun e w' => ∃ v' : Value, e = .returned (.tuple #[.agg #[v', .int .i64 a0_1, .int .i64 a0_2, .int .i64 a0_3, .int .i64 a0_4, .bool a0_5], .int .i64 code]) ∧ Kd.R k61 61 w' B (fun _ => True) v' l' ∧ Below w.heap.size w w' := by
  obtain ⟨A, c, rfl⟩ := Kd.R_slice ho
  obtain ⟨_, hc, hr⟩ := Kd.R_reads' ho
  unfold spec_l6Do.f at h
  replace h := Option.bind_eq_some_iff.mp h
  obtain ⟨t, ht, h⟩ := h
  have hfind := fun w' hr => spec_l6Find.calls k A c l0_0 a0_1 a0_2 a0_3 a0_4 a0_5 a1_1 t w' hr hc ht
  have hwith := fun nm f0 f1 f2 r hw w' hr => spec_l6With.calls k A c l0_0 nm f0 f1 f2 r w' hr hc hw
  by_cases k1 : a1_0 = 1
  · rw [if_pos k1] at h
    by_cases h0 : 0 ≤ t
    · rw [if_pos h0] at h
      simp only [Option.some.injEq, Prod.mk.injEq] at h
      obtain ⟨rfl, rfl⟩ := h
      exact (l6Do_exists A c l0_0 a0_1 a0_2 a0_3 a0_4 a0_5 a1_0 a1_1 a1_2 a1_3 w hr t hfind k1 h0).mono fun e w' hp => ⟨_, hp.1, Kd.Rbe ho hp.2, hp.2⟩
    · rw [if_neg h0] at h
      by_cases hl : l0_0.length = 300
      · rw [if_pos hl] at h
        simp only [Option.some.injEq, Prod.mk.injEq] at h
        obtain ⟨rfl, rfl⟩ := h
        exact (l6Do_full A c l0_0 a0_1 a0_2 a0_3 a0_4 a0_5 a1_0 a1_1 a1_2 a1_3 w hr t hfind k1 h0 hl).mono fun e w' hp => ⟨_, hp.1, Kd.Rbe ho hp.2, hp.2⟩
      · rw [if_neg hl] at h
        replace h := Option.bind_eq_some_iff.mp h
        obtain ⟨r, hw, h⟩ := h
        simp only [Option.some.injEq, Prod.mk.injEq] at h
        obtain ⟨rfl, rfl⟩ := h
        exact (l6Do_create A c l0_0 a0_1 a0_2 a0_3 a0_4 a0_5 a1_0 a1_1 a1_2 a1_3 w hr t hfind k1 h0 hl r (hwith _ _ _ _ _ hw)).mono fun e w' ⟨v', he, hR, hb⟩ => ⟨v', he, Kd.Rlo hR hB, hb⟩
  · rw [if_neg k1] at h
    by_cases h0 : t < 0
    · rw [if_pos h0] at h
      simp only [Option.some.injEq, Prod.mk.injEq] at h
      obtain ⟨rfl, rfl⟩ := h
      exact (l6Do_missing A c l0_0 a0_1 a0_2 a0_3 a0_4 a0_5 a1_0 a1_1 a1_2 a1_3 w hr t hfind k1 h0).mono fun e w' hp => ⟨_, hp.1, Kd.Rbe ho hp.2, hp.2⟩
    · rw [if_neg h0] at h
      obtain ⟨i, rfl⟩ : ∃ i : Nat, t = (i : Int) := ⟨t.toNat, by omega⟩
      rw [Int.toNat_natCast] at h
      replace h := Option.bind_eq_some_iff.mp h
      obtain ⟨X, hX, h⟩ := h
      have hi : i < l0_0.length := (List.getElem?_eq_some_iff.1 hX).1
      obtain ⟨g, c', hv, _⟩ := Kd.R_form ho (by omega)
      injection hv with hv1 hv2 hv3
      subst hv1
      have made : ∀ (l' : List (S61)) (code : Int), (Calls Tryz.prog 33 #[.agg #[.slice (some ⟨g, 0, none⟩) l0_0.length c, .int .i64 a0_1, .int .i64 a0_2, .int .i64 a0_3, .int .i64 a0_4, .bool a0_5], .agg #[.int .i64 a1_0, .string a1_1, .string a1_2, .int .i64 a1_3]] w fun e w' => ∃ v', e = .returned (.tuple #[.agg #[v', .int .i64 a0_1, .int .i64 a0_2, .int .i64 a0_3, .int .i64 a0_4, .bool a0_5], .int .i64 code]) ∧ Kd.R k61 61 w' w.heap.size (fun _ => True) v' l' ∧ Below w.heap.size w w') → Calls Tryz.prog 33 #[.agg #[.slice (some ⟨g, 0, none⟩) l0_0.length c, .int .i64 a0_1, .int .i64 a0_2, .int .i64 a0_3, .int .i64 a0_4, .bool a0_5], .agg #[.int .i64 a1_0, .string a1_1, .string a1_2, .int .i64 a1_3]] w fun e w' => ∃ v' : Value, e = .returned (.tuple #[.agg #[v', .int .i64 a0_1, .int .i64 a0_2, .int .i64 a0_3, .int .i64 a0_4, .bool a0_5], .int .i64 code]) ∧ Kd.R k61 61 w' B (fun _ => True) v' l' ∧ Below w.heap.size w w' := by
        intro l' code hs
        refine hs.mono ?_
        rintro e w' ⟨v', he, hR, hb⟩
        exact ⟨v', he, Kd.Rlo hR hB, hb⟩
      by_cases k2 : a1_0 = 2
      · rw [if_pos k2] at h
        replace h := Option.bind_eq_some_iff.mp h
        obtain ⟨n, hn, h⟩ := h
        by_cases hg : 0 ≤ a0_1 - n ∧ a0_1 - n ≤ 1000000000 ∧ a1_2.size ≤ 1000000000 ∧ X.f1.size ≤ 1000000000
        · rw [if_pos hg] at h
          have hbytes := fun w' hr => spec_l6Bytes.calls k (some ⟨g, 0, none⟩) c l0_0 a0_1 a0_2 a0_3 a0_4 a0_5 n w' hr hc hn
          by_cases hf : (a0_1 - n).toNat < a1_2.size
          · rw [if_pos hf] at h
            replace h := Option.bind_eq_some_iff.mp h
            obtain ⟨r, hw, h⟩ := h
            simp only [Option.some.injEq, Prod.mk.injEq] at h
            obtain ⟨rfl, rfl⟩ := h
            exact made _ _ (l6Do_append_full g c l0_0 a0_1 a0_2 a0_3 a0_4 a0_5 a1_0 a1_1 a1_2 a1_3 w hr i hfind hi X hX k1 k2 n hbytes (a0_1 - n).toNat (by omega) (by omega) hg.2.2.1 hg.2.2.2 hf r (hwith _ _ _ _ _ hw))
          · rw [if_neg hf] at h
            replace h := Option.bind_eq_some_iff.mp h
            obtain ⟨r, hw, h⟩ := h
            simp only [Option.some.injEq, Prod.mk.injEq] at h
            obtain ⟨rfl, rfl⟩ := h
            exact made _ _ (l6Do_append_fits g c l0_0 a0_1 a0_2 a0_3 a0_4 a0_5 a1_0 a1_1 a1_2 a1_3 w hr i hfind hi X hX k1 k2 n hbytes (a0_1 - n).toNat (by omega) (by omega) hg.2.2.1 hg.2.2.2 hf r (hwith _ _ _ _ _ hw))
        · rw [if_neg hg] at h
          cases h
      · rw [if_neg k2] at h
        by_cases k3 : a1_0 = 3
        · rw [if_pos k3] at h
          replace h := Option.bind_eq_some_iff.mp h
          obtain ⟨r, hw, h⟩ := h
          simp only [Option.some.injEq, Prod.mk.injEq] at h
          obtain ⟨rfl, rfl⟩ := h
          exact made _ _ (l6Do_sync g c l0_0 a0_1 a0_2 a0_3 a0_4 a0_5 a1_0 a1_1 a1_2 a1_3 w hr i hfind hi X hX k1 k3 r (hwith _ _ _ _ _ hw))
        · rw [if_neg k3] at h
          by_cases k4 : a1_0 = 4
          · rw [if_pos k4] at h
            replace h := Option.bind_eq_some_iff.mp h
            obtain ⟨b, hb, h⟩ := h
            have hbet := fun w' => spec_l1Between.calls a1_3 0 (X.f1.size : Int) b w' hb
            cases b with
            | true =>
              rw [if_pos rfl] at h
              by_cases hs : 0 ≤ a1_3 ∧ a1_3 ≤ (X.f1.size : Int)
              · rw [if_pos hs] at h
                replace h := Option.bind_eq_some_iff.mp h
                obtain ⟨r, hw, h⟩ := h
                simp only [Option.some.injEq, Prod.mk.injEq] at h
                obtain ⟨rfl, rfl⟩ := h
                exact made _ _ (l6Do_trunc g c l0_0 a0_1 a0_2 a0_3 a0_4 a0_5 a1_0 a1_1 a1_2 a1_3 w hr i hfind hi X hX k1 k4 hbet hs.1 hs.2 r (hwith _ _ _ _ _ hw))
              · rw [if_neg hs] at h
                cases h
            | false =>
              rw [if_neg (by decide)] at h
              simp only [Option.some.injEq, Prod.mk.injEq] at h
              obtain ⟨rfl, rfl⟩ := h
              exact (l6Do_trunc_bad g c l0_0 a0_1 a0_2 a0_3 a0_4 a0_5 a1_0 a1_1 a1_2 a1_3 w hr i hfind hi X hX k1 k4 hbet).mono fun e w' hp => ⟨_, hp.1, Kd.Rbe ho hp.2, hp.2⟩
          · rw [if_neg k4] at h
            by_cases k5 : a1_0 = 5
            · rw [if_pos k5] at h
              replace h := Option.bind_eq_some_iff.mp h
              obtain ⟨r, hw, h⟩ := h
              simp only [Option.some.injEq, Prod.mk.injEq] at h
              obtain ⟨rfl, rfl⟩ := h
              exact made _ _ (l6Do_delete g c l0_0 a0_1 a0_2 a0_3 a0_4 a0_5 a1_0 a1_1 a1_2 a1_3 w hr i hfind hi X hX k1 k5 r (hwith _ _ _ _ _ hw))
            · rw [if_neg k5] at h
              cases h
def spec_FsStep.f (k : Nat) (l0_0 : List (S61)) (a0_1 : Int) (a0_2 : Int) (a0_3 : Int) (a0_4 : Int) (a0_5 : Bool) (a1_0 : Int) (a1_1 : ByteArray) (a1_2 : ByteArray) (a1_3 : Int) : Option ((List (S61)) × Int × Int × Int × Int × Bool × Int) :=
  (spec_FsValid.f k l0_0 a0_1 a0_2 a0_3 a0_4 a0_5).bind fun t1 => if t1 = true then
    (spec_l1Between.f a1_0 1 5).bind fun t2 => if t2 = true then
      (spec_l6FileName.f k a1_1).bind fun t3 => if t3 = true then
        (if (0 ≤ a0_2 ∧ a0_2 ≤ 1000000000000000) ∧ l0_0.length ≤ 1000000 then
          (if a0_5 = true then some (l0_0, a0_1, a0_2, a0_3, a0_4, true, 11)
           else if a0_2 = 1000000000000000 then some (l0_0, a0_1, a0_2, a0_3, a0_4, false, 12)
           else if a0_3 ≠ 0 ∧ a0_2 + 1 = a0_3 then some (l0_0, a0_1, a0_2 + 1, a0_3, a0_4, true, 11)
           else if a0_4 ≠ 0 ∧ a0_2 + 1 = a0_4 then some (l0_0, a0_1, a0_2 + 1, a0_3, a0_4, false, 12)
           else (spec_l6Do.f k l0_0 a0_1 (a0_2 + 1) a0_3 a0_4 false a1_0 a1_1 a1_2 a1_3).bind fun p => some (p.1, a0_1, a0_2 + 1, a0_3, a0_4, false, p.2))
         else none)
      else some (([] : List (S61)), 0, 0, 0, 0, false, 16)
    else some (([] : List (S61)), 0, 0, 0, 0, false, 16)
  else some (([] : List (S61)), 0, 0, 0, 0, false, 16)
theorem spec_FsStep.mono : ∀ a0 a1 a2 a3 a4 a5 a6 a7 a8 a9 k, LeO (spec_FsStep.f k a0 a1 a2 a3 a4 a5 a6 a7 a8 a9) (spec_FsStep.f (k + 1) a0 a1 a2 a3 a4 a5 a6 a7 a8 a9) := by
  intro a0 a1 a2 a3 a4 a5 a6 a7 a8 a9 k
  unfold spec_FsStep.f
  repeat' first
      | (with_reducible exact spec_FsValid.mono _ _ _ _ _ _ _)
      | (with_reducible exact spec_l6FileName.mono _ _)
      | (with_reducible exact spec_l6Do.mono _ _ _ _ _ _ _ _ _ _ _)
      | (with_reducible exact LeO.refl _)
      | (with_reducible exact LeO.none _)
      | (with_reducible refine LeO.ite ?_ ?_)
      | (with_reducible refine LeO.bind ?_ (fun _ => ?_))
theorem spec_FsStep.calls (k : Nat) (A0_0 : Option Addr) (c0_0 : Nat) (l0_0 : List (S61)) (a0_1 : Int) (a0_2 : Int) (a0_3 : Int) (a0_4 : Int) (a0_5 : Bool) (a1_0 : Int) (a1_1 : ByteArray) (a1_2 : ByteArray) (a1_3 : Int) (r1 : List (S61)) (r2 : Int) (r3 : Int) (r4 : Int) (r5 : Int) (r6 : Bool) (r7 : Int) (w : World) (hr0_0 : Kd.C k61 w A0_0 l0_0.length l0_0) (hc0_0 : l0_0.length ≤ c0_0) (h : spec_FsStep.f k l0_0 a0_1 a0_2 a0_3 a0_4 a0_5 a1_0 a1_1 a1_2 a1_3 = some (r1, r2, r3, r4, r5, r6, r7)) :
    Calls Tryz.prog 17 #[.agg #[.slice A0_0 l0_0.length c0_0, .int .i64 a0_1, .int .i64 a0_2, .int .i64 a0_3, .int .i64 a0_4, .bool a0_5], .agg #[.int .i64 a1_0, .string a1_1, .string a1_2, .int .i64 a1_3]] w fun e w' => ∃ v0_ : Value, e = .returned (.tuple #[.agg #[v0_, .int .i64 r2, .int .i64 r3, .int .i64 r4, .int .i64 r5, .bool r6], .int .i64 r7]) ∧ Kd.R k61 61 w' w.heap.size (fun _ => True) v0_ r1 ∧ Below w.heap.size w w' := by
  unfold spec_FsStep.f at h
  replace h := Option.bind_eq_some_iff.mp h
  obtain ⟨t1, ht1, h⟩ := h
  have hval := fun w' hr => spec_FsValid.calls k A0_0 c0_0 l0_0 a0_1 a0_2 a0_3 a0_4 a0_5 t1 w' hr hc0_0 ht1
  cases t1 with
  | false =>
    simp only [Bool.false_eq_true, if_false, Option.some.injEq, Prod.mk.injEq] at h
    obtain ⟨rfl, rfl, rfl, rfl, rfl, rfl, rfl⟩ := h
    exact (specStep_bad1 A0_0 c0_0 l0_0 a0_1 a0_2 a0_3 a0_4 a0_5 a1_0 a1_1 a1_2 a1_3 w hr0_0 hval).mono fun e w' hp => ⟨_, hp.1, Kd.R_nil _ _ _ _ _, hp.2⟩
  | true =>
    simp only [if_true] at h
    replace h := Option.bind_eq_some_iff.mp h
    obtain ⟨t2, ht2, h⟩ := h
    have hbet := fun w' => spec_l1Between.calls a1_0 1 5 t2 w' ht2
    cases t2 with
    | false =>
      simp only [Bool.false_eq_true, if_false, Option.some.injEq, Prod.mk.injEq] at h
      obtain ⟨rfl, rfl, rfl, rfl, rfl, rfl, rfl⟩ := h
      exact (specStep_bad2 A0_0 c0_0 l0_0 a0_1 a0_2 a0_3 a0_4 a0_5 a1_0 a1_1 a1_2 a1_3 w hr0_0 hval hbet).mono fun e w' hp => ⟨_, hp.1, Kd.R_nil _ _ _ _ _, hp.2⟩
    | true =>
      simp only [if_true] at h
      replace h := Option.bind_eq_some_iff.mp h
      obtain ⟨t3, ht3, h⟩ := h
      have hname := fun w' => spec_l6FileName.calls k a1_1 t3 w' ht3
      cases t3 with
      | false =>
        simp only [Bool.false_eq_true, if_false, Option.some.injEq, Prod.mk.injEq] at h
        obtain ⟨rfl, rfl, rfl, rfl, rfl, rfl, rfl⟩ := h
        exact (specStep_bad3 A0_0 c0_0 l0_0 a0_1 a0_2 a0_3 a0_4 a0_5 a1_0 a1_1 a1_2 a1_3 w hr0_0 hval hbet hname).mono fun e w' hp => ⟨_, hp.1, Kd.R_nil _ _ _ _ _, hp.2⟩
      | true =>
        simp only [if_true] at h
        by_cases hc2 : (0 ≤ a0_2 ∧ a0_2 ≤ 1000000000000000) ∧ l0_0.length ≤ 1000000
        · rw [if_pos hc2] at h
          obtain ⟨hc, hlen⟩ := hc2
          have hcf : spec_l6Copy.f l0_0 a0_1 a0_2 a0_3 a0_4 a0_5 = some (l0_0, a0_1, a0_2, a0_3, a0_4, a0_5) := by
            unfold spec_l6Copy.f
            rw [Option.bind_some, if_pos (by simp only [List.length_nil]; omega), List.nil_append]
          have hcopy := fun w' hr => spec_l6Copy.calls A0_0 c0_0 l0_0 a0_1 a0_2 a0_3 a0_4 a0_5 l0_0 a0_1 a0_2 a0_3 a0_4 a0_5 w' hr hc0_0 hcf
          by_cases hd : a0_5 = true
          · rw [if_pos hd] at h
            simp only [Option.some.injEq, Prod.mk.injEq] at h
            obtain ⟨rfl, rfl, rfl, rfl, rfl, rfl, rfl⟩ := h
            subst hd
            exact specStep_down A0_0 c0_0 l0_0 a0_1 a0_2 a0_3 a0_4 true a1_0 a1_1 a1_2 a1_3 w hr0_0 hval hbet hname hcopy rfl
          · rw [if_neg hd] at h
            obtain rfl : a0_5 = false := Bool.eq_false_iff.2 hd
            by_cases hn : a0_2 = 1000000000000000
            · rw [if_pos hn] at h
              simp only [Option.some.injEq, Prod.mk.injEq] at h
              obtain ⟨rfl, rfl, rfl, rfl, rfl, rfl, rfl⟩ := h
              exact specStep_stop A0_0 c0_0 l0_0 a0_1 a0_2 a0_3 a0_4 false a1_0 a1_1 a1_2 a1_3 w hr0_0 hval hbet hname hcopy rfl hn
            · rw [if_neg hn] at h
              by_cases h1 : a0_3 ≠ 0 ∧ a0_2 + 1 = a0_3
              · rw [if_pos h1] at h
                simp only [Option.some.injEq, Prod.mk.injEq] at h
                obtain ⟨rfl, rfl, rfl, rfl, rfl, rfl, rfl⟩ := h
                exact specStep_crash A0_0 c0_0 l0_0 a0_1 a0_2 a0_3 a0_4 false a1_0 a1_1 a1_2 a1_3 w hr0_0 hval hbet hname hcopy rfl hc hn h1
              · rw [if_neg h1] at h
                by_cases h2 : a0_4 ≠ 0 ∧ a0_2 + 1 = a0_4
                · rw [if_pos h2] at h
                  simp only [Option.some.injEq, Prod.mk.injEq] at h
                  obtain ⟨rfl, rfl, rfl, rfl, rfl, rfl, rfl⟩ := h
                  exact specStep_fail A0_0 c0_0 l0_0 a0_1 a0_2 a0_3 a0_4 false a1_0 a1_1 a1_2 a1_3 w hr0_0 hval hbet hname hcopy rfl hc hn h1 h2
                · rw [if_neg h2] at h
                  replace h := Option.bind_eq_some_iff.mp h
                  obtain ⟨p, hp, h⟩ := h
                  obtain ⟨l', code⟩ := p
                  simp only [Option.some.injEq, Prod.mk.injEq] at h
                  obtain ⟨rfl, rfl, rfl, rfl, rfl, rfl, rfl⟩ := h
                  exact specStep_do A0_0 c0_0 l0_0 a0_1 a0_2 a0_3 a0_4 false a1_0 a1_1 a1_2 a1_3 w hr0_0 hval hbet hname hcopy rfl hc hn h1 h2 _ _ (fun w' u ho hB => spec_l6Do.calls k _ u l0_0 a0_1 (a0_2 + 1) a0_3 a0_4 false a1_0 a1_1 a1_2 a1_3 _ _ w' ho hB hp)
        · rw [if_neg hc2] at h
          cases h
def spec_l6Segment.l0 : Nat → Int → ByteArray → Int → Option (ByteArray)
  | 0, _, _, _ => none
  | k + 1, x0, x3, x4 => if x4 < 4 then ((some (([(wrap64 (48 + (Int.tmod x0 10))) % 256] : List Int) : List Int)).bind fun y162 => (if (strOfNums y162).size + x3.size ≤ 9223372036854775807 then (spec_l6Segment.l0 k (wrap64 (Int.tdiv x0 10)) ((strOfNums y162) ++ x3) (wrap64 (x4 + 1))) else (none))) else (if 4 + x3.size ≤ 9223372036854775807 then (some ((⟨#[115, 101, 103, 45]⟩ : ByteArray) ++ x3)) else (none))
def spec_l6Segment.f (k : Nat) (a0 : Int) : Option (ByteArray) := spec_l6Segment.l0 k a0 (⟨#[]⟩ : ByteArray) 0
theorem spec_l6Segment.mono_l : ∀ k, (∀ y0 y1 y2, LeO (spec_l6Segment.l0 k y0 y1 y2) (spec_l6Segment.l0 (k + 1) y0 y1 y2))
  | 0 => fun _ _ _ r h => by simp [spec_l6Segment.l0] at h
  | k + 1 => by
    have ih0 := spec_l6Segment.mono_l k
    · intro y0 y1 y2
      unfold spec_l6Segment.l0
      repeat' first
      | (with_reducible exact ih0 _ _ _)
      | (with_reducible exact LeO.refl _)
      | (with_reducible exact LeO.none _)
      | (with_reducible refine LeO.ite ?_ ?_)
      | (with_reducible refine LeO.bind ?_ (fun _ => ?_))
      | exact ih0 _ _ _
      | exact LeO.none _
      | refine LeO.ite ?_ ?_
      | refine LeO.bind ?_ (fun _ => ?_)
theorem spec_l6Segment.mono : ∀ a0 k, LeO (spec_l6Segment.f k a0) (spec_l6Segment.f (k + 1) a0) := by
  intro a0 k
  have ih0 := spec_l6Segment.mono_l k
  unfold spec_l6Segment.f
  repeat' first
      | (with_reducible exact ih0 _ _ _)
      | (with_reducible exact LeO.refl _)
      | (with_reducible exact LeO.none _)
      | (with_reducible refine LeO.ite ?_ ?_)
      | (with_reducible refine LeO.bind ?_ (fun _ => ?_))
      | exact ih0 _ _ _
      | exact LeO.none _
      | refine LeO.ite ?_ ?_
      | refine LeO.bind ?_ (fun _ => ?_)
set_option maxHeartbeats 8000000 in
set_option maxRecDepth 100000 in
theorem spec_l6Segment.calls (k : Nat) (a0 : Int) (r : ByteArray) (w : World) (h : spec_l6Segment.f k a0 = some r) :
    Calls Tryz.prog 18 #[.int .i64 a0] w fun e w' => e = .returned (.string r) ∧ Below w.heap.size w w' := by
  have HB := qK (Below.refl w.heap.size w); have H : (spec_l6Segment.l0 k a0 (⟨#[]⟩ : ByteArray) 0) = some r := h; clear h; have H' := qK H; clear H; go_enter Tryz.func18, Tryz.ntmps18; go_wp2; go_loopg [0, 3, 4] k (fun kq v0 v3 v4 w' => ∃ (x0_1 : Int) (x3_1 : ByteArray) (x4_1 : Int), v0 = .int .i64 x0_1 ∧ v3 = .string x3_1 ∧ v4 = .int .i64 x4_1 ∧ Aside0 (spec_l6Segment.l0 kq x0_1 x3_1 x4_1 = some r) ∧ Aside0 (kq ≤ k) ∧ Aside0 (Below w.heap.size w w'))
  case atStart => exact ⟨(a0), ((⟨#[]⟩ : ByteArray)), (0), qS, qS, qS, H', ⟨Nat.le_refl _⟩, ⟨qB⟩⟩
  case round =>
    clear H'; (try clear c1); obtain ⟨x0_1, x3_1, x4_1, rfl, rfl, rfl, HA, HK1, HB⟩ := hrel
    cases gk with
    | zero => exact absurd HA.out (by simp [spec_l6Segment.l0])
    | succ k1 =>
      have H := HA.out; clear HA; simp only [spec_l6Segment.l0] at H; by_cases c2 : x4_1 < 4
      · rw [if_pos c2] at H; have c2b0 : decide (x4_1 < 4) = true := decide_eq_true c2; clear c2; obtain ⟨y162, hy162⟩ : ∃ y_ : List Int, y_ = (([(wrap64 (48 + (Int.tmod x0_1 10))) % 256] : List Int)) := ⟨_, rfl⟩; (replace H : (if (strOfNums y162).size + x3_1.size ≤ 9223372036854775807 then (spec_l6Segment.l0 k1 (wrap64 (Int.tdiv x0_1 10)) ((strOfNums y162) ++ x3_1) (wrap64 (x4_1 + 1))) else (none)) = some r := by first | (rw [hy162]; with_reducible exact H) | (have H2_ := (Option.bind_some _ _).symm.trans H; rw [hy162]; with_reducible exact H2_) | (have H2_ := (Option.bind_some _ _).symm.trans H; with_reducible exact H2_) | with_reducible exact H | (rw [hy162]; exact H) | exact H); have Ny162 := qK hy162; clear hy162; by_cases c3 : (strOfNums y162).size + x3_1.size ≤ 9223372036854775807
        · rw [if_pos c3] at H; have c3b0 := eq_true c3; have c3b1 : decide ((strOfNums y162).size + x3_1.size ≤ 9223372036854775807) = true := decide_eq_true c3; (try have c3b2 : (9223372036854775807 < (strOfNums y162).size + x3_1.size) = False := eq_false (Nat.not_lt.2 c3)); have H' := qK H; clear H; go_wp2_with (first | ((with_reducible refine gds (N := 13) rfl ?_); refine Kd.R_lit (Kd.int .u8) _ 5 ?hg (N := 13) ?hd (xs := ([(wrap64 (48 + (Int.tmod x0_1 10))) % 256] : List Int)) (inner := [.int .u8 ((wrap64 (48 + (Int.tmod x0_1 10))) % 256)]) (ok := fun _ => True) (okp := fun _ => True) ?hr ?hp (fun _ hk => hk) trivial (Below.refl _ _) (Nat.le_refl _) (by simp) ?_; (case hd => rfl); (case hg => rfl); (case hr => first | (go_simp; done) | (go_simp; rfl)); (case hp => exact (Reps.one (show Kd.M (Kd.int .u8) _ _ _ ((wrap64 (48 + (Int.tmod x0_1 10))) % 256) [.int .u8 ((wrap64 (48 + (Int.tmod x0_1 10))) % 256)] from rfl) (Reps.none _ _))); intro v163 w4 ho5 hb hg_ hnew_; clear hg_ hnew_; (first | rw [← Ny162.out] at ho5 | (simp only [Int.reduceToNat] at ho5; rw [← Ny162.out] at ho5)); have HO164 := qK (Kd.Rlo ho5 (bsz qB)); replace HB := qHB HB hb; clear hb ho5; have hcv6 := own_string (P := Tryz.prog) Tryz.underlying60 Tryz.underlying5 Tryz.underlying9 (Kd.own_of_R HO164.out))); go_roundg k1
          case measure => have := HK1.out; omega
          case rel => exact ⟨(wrap64 (Int.tdiv x0_1 10)), ((strOfNums y162) ++ x3_1), (wrap64 (x4_1 + 1)), qS, qS, qS, H', ⟨by have := HK1.out; omega⟩, ⟨qB⟩⟩
        · rw [if_neg c3] at H; exact absurd H (by simp)
      · rw [if_neg c2] at H; have c2b0 : decide (x4_1 < 4) = false := decide_eq_false c2; clear c2; by_cases c7 : 4 + x3_1.size ≤ 9223372036854775807
        · rw [if_pos c7] at H; have c7b0 := eq_true c7; have c7b1 : decide (4 + x3_1.size ≤ 9223372036854775807) = true := decide_eq_true c7; (try have c7b2 : (9223372036854775807 < 4 + x3_1.size) = False := eq_false (Nat.not_lt.2 c7)); obtain rfl := Option.some.inj H; go_wp2; go_ret; exact ⟨qR, qB⟩
        · rw [if_neg c7] at H; exact absurd H (by simp)
end Go.Proofs.YtfknmohedlfmfaaGreatDoor.L
end
section
namespace Go.Proofs.YtfknmohedlfmfaaGreatDoor
open Go.RowKit Go.Proofs.YtfknmohedlfmfaaGreatDoorW.PrintWords
/-- Do the bytes of s from i on, so many, all answer yes? -/
def allFrom (p : Int → Bool) (s : ByteArray) : Nat → Nat → Bool
  | 0, _ => true
  | d + 1, i => p (bt s i) && allFrom p s d (i + 1)
/-- A byte of a file's name. -/
def fileByte (c : Int) : Bool := (decide (97 ≤ c) && decide (c ≤ 122)) || (decide (48 ≤ c) && decide (c ≤ 57)) || c == 45
end Go.Proofs.YtfknmohedlfmfaaGreatDoor
end
section
set_option linter.unusedVariables false
set_option linter.unusedSimpArgs false
namespace Go.Proofs.YtfknmohedlfmfaaGreatDoor.L
open Go Go.RowKit Go.Proofs Go.Proofs.YtfknmohedlfmfaaGreatDoor Go.Proofs.YtfknmohedlfmfaaGreatDoorW.PrintWords Go.Proofs.YtfknmohedlfmfaaGreatDoorW.PrintLast Go.Proofs.YtfknmohedlfmfaaGreatDoorW.PrintMore
theorem infoLog : (Tryz.prog.info? 31).map (·.size) = some 2 := by kernel_rfl
/-- The four variables in memory (the file system, the log, the two results), the rows of files. -/
structure AeSt (w W : World) (gf gl gr gm : Nat) (A : Option Addr) (c : Nat) (l : List FileT) (cap cnt cr fa : Int) (dn : Bool) (last size : Int) : Prop where
  hf : W.heap[gf]? = some (.cells #[.slice A l.length c, .int .i64 cap, .int .i64 cnt, .int .i64 cr, .int .i64 fa, .bool dn] 30 (0, 0))
  hl : W.heap[gl]? = some (.cells #[.int .i64 last, .int .i64 size] 31 (0, 0))
  hr : W.heap[gr]? = some (.cells #[.slice none 0 0, .int .i64 0, .int .i64 0, .int .i64 0, .int .i64 0, .bool false] 30 (0, 0))
  hm : W.heap[gm]? = some (.cells #[.int .i64 0, .int .i64 0] 31 (0, 0))
  hd : w.heap.size ≤ gf ∧ gf < gl ∧ gl < gr ∧ gr < gm
  hb : Below w.heap.size w W
  hc : l.length ≤ c
  hv : Kd.C FileK w A l.length l ∨ Kd.R FileK 61 W w.heap.size (fun _ => True) (.slice A l.length c) l
section
variable {w W W' : World} {gf gl gr gm : Nat} {A : Option Addr} {c : Nat} {l : List FileT} {cap cnt cr fa : Int} {dn : Bool} {last size : Int}
theorem AeSt.reads (h : AeSt w W gf gl gr gm A c l cap cnt cr fa dn last size) : Kd.C FileK W A l.length l := by
  rcases h.hv with h1 | h1
  · exact Kd.Cbe h1 h.hb
  · exact (Kd.R_reads' h1).2.2
theorem AeSt.below (h : AeSt w W gf gl gr gm A c l cap cnt cr fa dn last size) (hb : Below W.heap.size W W') : AeSt w W' gf gl gr gm A c l cap cnt cr fa dn last size :=
  ⟨bbe h.hf hb, bbe h.hl hb, bbe h.hr hb, bbe h.hm hb, h.hd, bst h.hb hb, h.hc, h.hv.imp id fun h1 => Kd.Rbe h1 hb⟩
theorem AeSt.setF (h : AeSt w W gf gl gr gm A c l cap cnt cr fa dn last size) {A' : Option Addr} {c' : Nat} {l' : List FileT} {cap' cnt' cr' fa' : Int} {dn' : Bool}
    (hR : Kd.R FileK 61 W w.heap.size (fun _ => True) (.slice A' l'.length c') l') :
    AeSt w (W.setRow gf #[.slice A' l'.length c', .int .i64 cap', .int .i64 cnt', .int .i64 cr', .int .i64 fa', .bool dn']) gf gl gr gm A' c' l' cap' cnt' cr' fa' dn' last size := by
  obtain ⟨h0, h1, h2, h3⟩ := h.hd
  refine ⟨heap_setRow_sameF h.hf, blk_setRow h.hl (by omega) _, blk_setRow h.hr (by omega) _, blk_setRow h.hm (by omega) _, h.hd, below_setRowF h.hb h0 _, ?_, .inr (row_keep hR h.hf _)⟩
  exact (Kd.R_reads' hR).2.1
theorem AeSt.setX (h : AeSt w W gf gl gr gm A c l cap cnt cr fa dn last size) {g : Nat} {cs : Array Value} (hg : W.heap[g]? = some (.cells cs 30 (0, 0))) (hn : gm < g) (row : Array Value) :
    AeSt w (W.setRow g row) gf gl gr gm A c l cap cnt cr fa dn last size := by
  obtain ⟨h0, h1, h2, h3⟩ := h.hd
  exact ⟨blk_setRow h.hf (by omega) _, blk_setRow h.hl (by omega) _, blk_setRow h.hr (by omega) _, blk_setRow h.hm (by omega) _, h.hd, below_setRowF h.hb (by omega) _, h.hc, h.hv.imp id fun h5 => row_keep h5 hg _⟩
theorem row_keepL {B g : Nat} {v : Value} {cs : Array Value} (h : Kd.R FileK 61 W B (fun _ => True) v l) (hX : W.heap[g]? = some (.cells cs 31 (0, 0))) (row : Array Value) :
    Kd.R FileK 61 (W.setRow g row) B (fun _ => True) v l :=
  Kd.Rmo (Kd.R_step (Kd.Rty h hX (by decide)) (fun k hk _ => by simp only [World.setRow, Array.getElem?_modify]; rw [if_neg (fun e => hk.2 e.symm)])) (fun _ _ => trivial)
theorem AeSt.setL (h : AeSt w W gf gl gr gm A c l cap cnt cr fa dn last size) (last' size' : Int) :
    AeSt w (W.setRow gl #[.int .i64 last', .int .i64 size']) gf gl gr gm A c l cap cnt cr fa dn last' size' := by
  obtain ⟨h0, h1, h2, h3⟩ := h.hd
  exact ⟨blk_setRow h.hf (by omega) _, heap_setRow_sameF h.hl, blk_setRow h.hr (by omega) _, blk_setRow h.hm (by omega) _, h.hd, below_setRowF h.hb (by omega) _, h.hc, h.hv.imp id fun h5 => row_keepL h5 h.hl _⟩
theorem AeSt.setS (h : AeSt w W gf gl gr gm A c l cap cnt cr fa dn last size) (size' : Int) :
    AeSt w (W.setCell ⟨gl, 1, none⟩ (.int .i64 size')) gf gl gr gm A c l cap cnt cr fa dn last size' := by
  obtain ⟨h0, h1, h2, h3⟩ := h.hd
  refine ⟨bfa h.hf (p := ⟨gl, 1, none⟩) (show gf ≠ gl by omega) _, bpu h.hl 1 _ rfl, bfa h.hr (p := ⟨gl, 1, none⟩) (show gr ≠ gl by omega) _, bfa h.hm (p := ⟨gl, 1, none⟩) (show gm ≠ gl by omega) _, h.hd, bse h.hb (by omega), h.hc, h.hv.imp id fun h5 => ?_⟩
  exact Kd.Rmo (Kd.Rfa (p := ⟨gl, 1, none⟩) (Kd.Rty h5 h.hl (by decide)) (fun k hk => hk.2) _) (fun _ _ => trivial)
/-- The end: the results are stored. -/
theorem AeSt.ends (h : AeSt w W gf gl gr gm A c l cap cnt cr fa dn last size) {v : Value} {l' : List FileT} {cs : Array Value} (hR : Kd.R FileK 61 W w.heap.size (fun _ => True) v l') (ls : Array Value) :
    let W' := (W.setRow gr cs).setRow gm ls
    W'.heap[gr]? = some (.cells cs 30 (0, 0)) ∧ W'.heap[gm]? = some (.cells ls 31 (0, 0)) ∧ Kd.R FileK 61 W' w.heap.size (fun _ => True) v l' ∧ Below w.heap.size w W' := by
  obtain ⟨h0, h1, h2, h3⟩ := h.hd
  have hm := blk_setRow h.hm (show gm ≠ gr by omega) cs
  exact ⟨blk_setRow (heap_setRow_sameF h.hr) (by omega) _, heap_setRow_sameF hm, row_keepL (row_keep hR h.hr _) hm _, below_setRowF (below_setRowF h.hb (by omega) _) (by omega) _⟩
end
theorem exec_load_row {P : Program} {o : Oper} {a : Act} {w : World} (ty : TypeId) (x : Operand) (ho : o.op = .load ty x) (g : Nat) (hx : a.eval x = .pointer (some ⟨g, 0, none⟩)) (t : TypeId) (cs : Array Value) {d : TypeDesc} (hg : w.heap[g]? = some (.cells cs t (0, 0)))
    (hu : P.underlying ty = some d) (hd : (match d with | .struct _ | .array _ _ => true | _ => false) = true) (hi : (P.info? ty).map (·.size) = some cs.size) : (execOp a.eval o).run P w = .ok (.value (.agg cs)) w := by
  unfold execOp
  simp only [ho, hx, Instr.loadAt, Instr.sureAddr, Sem.run_bind, Sem.run_pure, Result.andThen_ok, run_loadVar_row w g t ty cs (0, 0) d hg hu hd hi]
theorem exec_store_row {P : Program} {o : Oper} {a : Act} {w : World} (ty : TypeId) (x y : Operand) (ho : o.op = .store ty x y)
    (g : Nat) (cells : Array Value) (hx : a.eval x = .pointer (some ⟨g, 0, none⟩)) (hy : a.eval y = .agg cells)
    (t : TypeId) (old : Array Value) (hg : w.heap[g]? = some (.cells old t (0, 0))) (hi : (P.info? ty).map (·.size) = some cells.size)
    (hold : old.size = cells.size) (h1 : cells.all (·.oneCell') = true) : (execOp a.eval o).run P w = .ok .skip (w.setRow g cells) := by
  unfold execOp
  simp only [ho, hx, hy, Instr.storeAt, Instr.sureAddr, Sem.run_bind, Sem.run_pure, Result.andThen_ok, run_storeVar_row w g t ty old cells hg hi hold h1]
theorem results_cct {P : Program} {fn : Func} {p p' u : Tmp} {ty ty' : TypeId} (h : fn.results = #[.cell p ty, .cell p' ty', .tmp u]) (tmps : Array Value) (w : World) (g g' : Nat) (t t' : TypeId) (cs cs' : Array Value) (fr fr' : Nat × Nat) (d d' : TypeDesc)
    (hp : tmps.getD p undef = .pointer (some ⟨g, 0, none⟩)) (hg : w.heap[g]? = some (.cells cs t fr))
    (hu : P.underlying ty = some d) (hd : (match d with | .struct _ | .array _ _ => true | _ => false) = true) (hi : (P.info? ty).map (·.size) = some cs.size)
    (hp' : tmps.getD p' undef = .pointer (some ⟨g', 0, none⟩)) (hg' : w.heap[g']? = some (.cells cs' t' fr'))
    (hu' : P.underlying ty' = some d') (hd' : (match d' with | .struct _ | .array _ _ => true | _ => false) = true) (hi' : (P.info? ty').map (·.size) = some cs'.size) :
    (results fn tmps).run P w = .ok (.tuple #[.agg cs, .agg cs', tmps.getD u undef]) w := by
  have h1 : tmps[p]?.getD undef = .pointer (some ⟨g, 0, none⟩) := by simpa using hp
  have h2 : tmps[p']?.getD undef = .pointer (some ⟨g', 0, none⟩) := by simpa using hp'
  simp [results, h, h1, h2, asAddr, run_loadVar_row w g t ty cs fr d hg hu hd hi, run_loadVar_row w g' t' ty' cs' fr' d' hg' hu' hd' hi']
set_option maxHeartbeats 8000000 in
set_option maxRecDepth 100000 in
theorem copyFs_any (A : Option Addr) (c : Nat) (l : List FileT) (cap cnt cr fa : Int) (dn : Bool) (w : World) (hr : Kd.C FileK w A l.length l) (hc : l.length ≤ c) (hl : l.length ≤ 2000000) :
    Calls Tryz.prog 20 #[.agg #[.slice A l.length c, .int .i64 cap, .int .i64 cnt, .int .i64 cr, .int .i64 fa, .bool dn]] w fun e w' => ∃ v0_ : Value, e = .returned (.agg #[v0_, .int .i64 cap, .int .i64 cnt, .int .i64 cr, .int .i64 fa, .bool dn]) ∧ Kd.R FileK 61 w' w.heap.size (fun _ => True) v0_ l ∧ Below w.heap.size w w' := by
  have HR := Aside0.mk hr
  have HC := Aside0.mk hc
  have HL := Aside0.mk hl
  clear hr hc hl
  go_enter Tryz.func20, Tryz.ntmps20
  go_wp2_with (first | ((with_reducible refine gds (N := 1) rfl ?_); refine qbx 1 #[.slice A l.length c, .int .i64 cap, .int .i64 cnt, .int .i64 cr, .int .i64 fa, .bool dn] 30 ?_; intro gb hg w1 hbox hb; have HB := Aside0.mk hb; have HX := Aside0.mk hbox; clear hb hbox hg) | ((with_reducible refine gds (N := 2) rfl ?_); refine qbx 2 #[.slice none 0 0, .int .i64 0, .int .i64 0, .int .i64 0, .int .i64 0, .bool false] 30 ?_; intro gr hg w3 hbox hb; have HX3 := Aside0.mk (bbe HX.out hb); have HY3 := Aside0.mk hbox; have HB3 := Aside0.mk (bst HB.out hb); have HG3 := Aside0.mk (Nat.le_trans HB.out.size (Nat.le_of_eq hg.symm)); clear hb hbox hg) | ((with_reducible refine gds (N := 3) rfl ?_); refine wpList_load_row rfl 30 (.tmp 1) rfl gb ?hp 30 #[.slice A l.length c, .int .i64 cap, .int .i64 cnt, .int .i64 cr, .int .i64 fa, .bool dn] (0, 0) _ ?hg Tryz.underlying30 ?ha ?hi ?_; (case hp => rfl); (case hg => exact HX3.out); (case ha => rfl); (case hi => exact infoFs)) | (go_at_call 35; (with_reducible refine (systemOf_any A c l cap cnt cr fa dn _ (Kd.Cbe HR.out HB3.out) HC.out HL.out).mono ?_); rintro e w6 ⟨p, v, rfl, hp, hs, hv, hb⟩; obtain ⟨A2, c2, rfl⟩ := Kd.R_slice hv; have HS6 := Aside0.mk hs; have HV6 := Aside0.mk (Kd.Rlo (Kd.Rmo hv (fun _ _ => trivial)) HB3.out.size); have HY6 := Aside0.mk (bbe HY3.out hb); have HB6 := Aside0.mk (bst HB3.out hb); clear hp hs hv hb) | (go_at_call 36; (with_reducible refine (fs_any p A2 l.length c2 cap cnt cr fa dn _ HS6.out).mono ?_); rintro e w8 ⟨rfl, hb⟩; have HY8 := Aside0.mk (bbe HY6.out hb); have HB8 := Aside0.mk (bst HB6.out hb); have HR8 := Aside0.mk (Kd.Rbe HV6.out hb); clear hb) | ((with_reducible refine gst (t := 30) (p := 2) rfl ?_); refine wpList_store_row rfl 30 (.tmp 2) (.tmp 5) rfl gr #[.slice A2 l.length c2, .int .i64 cap, .int .i64 cnt, .int .i64 cr, .int .i64 fa, .bool dn] ?hx ?hy 30 #[.slice none 0 0, .int .i64 0, .int .i64 0, .int .i64 0, .int .i64 0, .bool false] ?hg ?hi ?ho ?h1 ?_; (case hx => rfl); (case hy => rfl); (case hg => exact HY8.out); (case hi => exact infoFs); (case ho => rfl); (case h1 => simp [Value.oneCell'])))
  refine bodyPost_ret (results_cell_row rfl _ _ gr 30 #[.slice A2 l.length c2, .int .i64 cap, .int .i64 cnt, .int .i64 cr, .int .i64 fa, .bool dn] (0, 0) _ rfl (heap_setRow_sameF HY8.out) Tryz.underlying30 rfl infoFs) rfl ⟨_, rfl, ?_, ?_⟩
  · exact row_keep HR8.out HY8.out _
  · exact below_setRowF HB8.out HG3.out _
set_option maxHeartbeats 8000000 in
set_option maxRecDepth 100000 in
theorem step_clo {w W : World} {gf gl gr gm : Nat} {A : Option Addr} {c : Nat} {l : List FileT} {cap cnt cr fa : Int} {dn : Bool} {last size : Int} (h : AeSt w W gf gl gr gm A c l cap cnt cr fa dn last size) (kind : Int) (name data : ByteArray) (sz : Int)
    (l' : List FileT) (cap' cnt' cr' fa' : Int) (dn' : Bool) (code : Int)
    (hstep : ∀ w', Kd.C FileK w' A l.length l → Calls Tryz.prog 23 #[.agg #[.slice A l.length c, .int .i64 cap, .int .i64 cnt, .int .i64 cr, .int .i64 fa, .bool dn], .agg #[.int .i64 kind, .string name, .string data, .int .i64 sz]] w' fun e w'' =>
      ∃ v0_ : Value, e = .returned (.tuple #[.agg #[v0_, .int .i64 cap', .int .i64 cnt', .int .i64 cr', .int .i64 fa', .bool dn'], .int .i64 code]) ∧ Kd.R FileK 61 w'' w'.heap.size (fun _ => True) v0_ l' ∧ Below w'.heap.size w' w'') :
    Calls Tryz.prog 22 #[.agg #[.int .i64 kind, .string name, .string data, .int .i64 sz], .pointer (some ⟨gf, 0, none⟩)] W fun e w' =>
      e = .returned (.int .i64 code) ∧ ∃ A' c', AeSt w w' gf gl gr gm A' c' l' cap' cnt' cr' fa' dn' last size ∧ Kd.R FileK 61 w' w.heap.size (fun _ => True) (.slice A' l'.length c') l' := by
  have H := Aside0.mk h
  have HS := Aside0.mk hstep
  clear h hstep
  go_enter Tryz.func22, Tryz.ntmps22
  go_wp2_with (first | ((with_reducible refine gds (N := 2) rfl ?_); refine qbx 2 #[.int .i64 kind, .string name, .string data, .int .i64 sz] 48 ?_; intro gb hg w1 hbox hb; have H1 := Aside0.mk (H.out.below hb); have HX := Aside0.mk hbox; clear hb hbox hg) | ((with_reducible refine gds (N := 5) rfl ?_); refine wpList_load_row rfl 30 (.tmp 1) rfl gf ?hp 30 #[.slice A l.length c, .int .i64 cap, .int .i64 cnt, .int .i64 cr, .int .i64 fa, .bool dn] (0, 0) _ ?hg Tryz.underlying30 ?ha ?hi ?_; (case hp => rfl); (case hg => exact H1.out.hf); (case ha => rfl); (case hi => exact infoFs)) | ((with_reducible refine gds (N := 6) rfl ?_); refine wpList_load_row rfl 48 (.tmp 2) rfl gb ?hp 48 #[.int .i64 kind, .string name, .string data, .int .i64 sz] (0, 0) _ ?hg Tryz.underlying48 ?ha ?hi ?_; (case hp => rfl); (case hg => exact HX.out); (case ha => rfl); (case hi => exact infoOp)) | (go_at_call 23; (with_reducible refine (HS.out _ H1.out.reads).mono ?_); rintro e w6 ⟨v, rfl, hv, hb⟩; obtain ⟨A2, c2, rfl⟩ := Kd.R_slice hv; have H6 := Aside0.mk (H1.out.below hb); have HV6 := Aside0.mk (Kd.Rlo hv H1.out.hb.size); clear hv hb) | ((with_reducible refine gst (t := 30) (p := 1) rfl ?_); refine wpList_store_row rfl 30 (.tmp 1) (.tmp 8) rfl gf #[.slice A2 l'.length c2, .int .i64 cap', .int .i64 cnt', .int .i64 cr', .int .i64 fa', .bool dn'] ?hx ?hy 30 #[.slice A l.length c, .int .i64 cap, .int .i64 cnt, .int .i64 cr, .int .i64 fa, .bool dn] ?hg ?hi ?ho ?h1 ?_; (case hx => rfl); (case hy => rfl); (case hg => exact H6.out.hf); (case hi => exact infoFs); (case ho => rfl); (case h1 => simp [Value.oneCell'])))
  go_ret
  exact ⟨rfl, A2, c2, H6.out.setF HV6.out, row_keep HV6.out H6.out.hf _⟩
end Go.Proofs.YtfknmohedlfmfaaGreatDoor.L
end
section
set_option linter.unusedVariables false
set_option linter.unusedSimpArgs false
namespace Go.Proofs.YtfknmohedlfmfaaGreatDoor.L
open Go Go.RowKit Go.Proofs Go.Proofs.YtfknmohedlfmfaaGreatDoor Go.Proofs.YtfknmohedlfmfaaGreatDoorW.PrintWords Go.Proofs.YtfknmohedlfmfaaGreatDoorW.PrintLast Go.Proofs.YtfknmohedlfmfaaGreatDoorW.PrintMore
abbrev StT := List FileT → Int → Int → Int → Int → Bool → Int → ByteArray → ByteArray → Int → Option (List FileT × Int × Int × Int × Int × Bool × Int)
abbrev ApT := Option (List FileT × Int × Int × Int × Int × Bool × Int × Int × Int)
abbrev noB : ByteArray := ⟨#[]⟩
/-- Behind the append and the sync: code c is what they came to. -/
def apFin (st : StT) (nm : ByteArray) (n : Nat) (l : List FileT) (cap cnt cr fa : Int) (dn : Bool) (last size c : Int) : ApT :=
  if c = 0 then some (l, cap, cnt, cr, fa, dn, last, size + (n : Int), 0)
  else if c = 11 ∨ c = 16 then some (l, cap, cnt, cr, fa, dn, last, size, c)
  else (st l cap cnt cr fa dn 4 nm noB size).bind fun (l, cap, cnt, cr, fa, dn, q) => some (l, cap, cnt, cr, fa, dn, last, size, if q = 0 then c else if q = 11 then 11 else 20)
def apTail (st : StT) (seg : Int → Option ByteArray) (f : ByteArray) (l : List FileT) (cap cnt cr fa : Int) (dn : Bool) (last size : Int) : ApT :=
  (seg last).bind fun nm => (st l cap cnt cr fa dn 2 nm f 0).bind fun (l, cap, cnt, cr, fa, dn, q) =>
    if q = 0 then (st l cap cnt cr fa dn 3 nm noB 0).bind fun (l, cap, cnt, cr, fa, dn, q) => apFin st nm f.size l cap cnt cr fa dn last size q
    else apFin st nm f.size l cap cnt cr fa dn last size q
def apRoll (st : StT) (seg : Int → Option ByteArray) (f : ByteArray) (l : List FileT) (cap cnt cr fa : Int) (dn : Bool) (last size : Int) : ApT :=
  if last = 9999 then some (l, cap, cnt, cr, fa, dn, last, size, 21)
  else (seg (last + 1)).bind fun nm => (st l cap cnt cr fa dn 1 nm noB 0).bind fun (l, cap, cnt, cr, fa, dn, q) =>
    if q = 0 then apTail st seg f l cap cnt cr fa dn (last + 1) 0 else some (l, cap, cnt, cr, fa, dn, last, size, q)
def apBody (st : StT) (seg : Int → Option ByteArray) (f : ByteArray) (l : List FileT) (cap cnt cr fa : Int) (dn : Bool) (last size most : Int) : ApT :=
  if size ≠ 0 ∧ most < size + (f.size : Int) then apRoll st seg f l cap cnt cr fa dn last size else apTail st seg f l cap cnt cr fa dn last size
theorem apFin_mono {st st' : StT} (h : ∀ l cap cnt cr fa dn kd nm d sz, LeO (st l cap cnt cr fa dn kd nm d sz) (st' l cap cnt cr fa dn kd nm d sz)) (nm : ByteArray) (n : Nat) (l : List FileT) (cap cnt cr fa : Int) (dn : Bool) (last size c : Int) :
    LeO (apFin st nm n l cap cnt cr fa dn last size c) (apFin st' nm n l cap cnt cr fa dn last size c) :=
  LeO.ite (LeO.refl _) (LeO.ite (LeO.refl _) (LeO.bind (h _ _ _ _ _ _ _ _ _ _) fun _ => LeO.refl _))
theorem apTail_mono {st st' : StT} {seg seg' : Int → Option ByteArray} (h : ∀ l cap cnt cr fa dn kd nm d sz, LeO (st l cap cnt cr fa dn kd nm d sz) (st' l cap cnt cr fa dn kd nm d sz)) (hs : ∀ n, LeO (seg n) (seg' n)) (f : ByteArray) (l : List FileT) (cap cnt cr fa : Int) (dn : Bool) (last size : Int) :
    LeO (apTail st seg f l cap cnt cr fa dn last size) (apTail st' seg' f l cap cnt cr fa dn last size) :=
  LeO.bind (hs _) fun _ => LeO.bind (h _ _ _ _ _ _ _ _ _ _) fun ⟨_, _, _, _, _, _, _⟩ => LeO.ite (LeO.bind (h _ _ _ _ _ _ _ _ _ _) fun ⟨_, _, _, _, _, _, _⟩ => apFin_mono h _ _ _ _ _ _ _ _ _ _ _) (apFin_mono h _ _ _ _ _ _ _ _ _ _ _)
theorem apBody_mono {st st' : StT} {seg seg' : Int → Option ByteArray} (h : ∀ l cap cnt cr fa dn kd nm d sz, LeO (st l cap cnt cr fa dn kd nm d sz) (st' l cap cnt cr fa dn kd nm d sz)) (hs : ∀ n, LeO (seg n) (seg' n)) {f : ByteArray} {l : List FileT} {cap cnt cr fa : Int} {dn : Bool} {last size most : Int} :
    LeO (apBody st seg f l cap cnt cr fa dn last size most) (apBody st' seg' f l cap cnt cr fa dn last size most) :=
  LeO.ite (LeO.ite (LeO.refl _) (LeO.bind (hs _) fun _ => LeO.bind (h _ _ _ _ _ _ _ _ _ _) fun ⟨_, _, _, _, _, _, _⟩ => LeO.ite (apTail_mono h hs _ _ _ _ _ _ _ _ _) (LeO.refl _))) (apTail_mono h hs _ _ _ _ _ _ _ _ _)
end Go.Proofs.YtfknmohedlfmfaaGreatDoor.L
end
section
set_option linter.unusedVariables false
set_option linter.unusedSimpArgs false
namespace Go.Proofs.YtfknmohedlfmfaaGreatDoor.L
open Go Go.RowKit Go.Proofs Go.Proofs.YtfknmohedlfmfaaGreatDoor Go.Proofs.YtfknmohedlfmfaaGreatDoorW.PrintWords Go.Proofs.YtfknmohedlfmfaaGreatDoorW.PrintLast Go.Proofs.YtfknmohedlfmfaaGreatDoorW.PrintMore
set_option maxHeartbeats 8000000 in
set_option maxRecDepth 100000 in
theorem specAp_bad (A : Option Addr) (c : Nat) (l : List FileT) (cap cnt cr fa : Int) (dn : Bool) (last size : Int) (entry : ByteArray) (most : Int) (w : World) (hr : Kd.C FileK w A l.length l) (hc : l.length ≤ c) (f : ByteArray) (hb5 : l.length ≤ 2000000)
    (hframe : ∀ w', Calls Tryz.prog 14 #[.string entry] w' fun e w'' => e = .returned (.string f) ∧ Below w'.heap.size w' w'')
    (hbt : ∀ a lo hi w', Calls Tryz.prog 15 #[.int .i64 a, .int .i64 lo, .int .i64 hi] w' fun e w'' => e = .returned (.bool (decide (lo ≤ a ∧ a ≤ hi))) ∧ Below w'.heap.size w' w'')
    (hcopy : ∀ A c l cap cnt cr fa dn w', Kd.C FileK w' A l.length l → l.length ≤ c → l.length ≤ 2000000 → Calls Tryz.prog 16 #[.agg #[.slice A l.length c, .int .i64 cap, .int .i64 cnt, .int .i64 cr, .int .i64 fa, .bool dn]] w' fun e w'' => ∃ v0_ : Value, e = .returned (.agg #[v0_, .int .i64 cap, .int .i64 cnt, .int .i64 cr, .int .i64 fa, .bool dn]) ∧ Kd.R FileK 61 w'' w'.heap.size (fun _ => True) v0_ l ∧ Below w'.heap.size w' w'')
    (hbad : f.size = 0 ∨ ¬ (1 ≤ last ∧ last ≤ 9999) ∨ ¬ (0 ≤ size ∧ size ≤ 1000000000) ∨ ¬ (1 ≤ most ∧ most ≤ 1000000000)) :
    Calls Tryz.prog 5 #[.agg #[.slice A l.length c, .int .i64 cap, .int .i64 cnt, .int .i64 cr, .int .i64 fa, .bool dn], .agg #[.int .i64 last, .int .i64 size], .string entry, .int .i64 most] w fun e w' => ∃ v0_ : Value, e = .returned (.tuple #[.agg #[v0_, .int .i64 cap, .int .i64 cnt, .int .i64 cr, .int .i64 fa, .bool dn], .agg #[.int .i64 last, .int .i64 size], .int .i64 22]) ∧ Kd.R FileK 61 w' w.heap.size (fun _ => True) v0_ l ∧ Below w.heap.size w w' := by
  have HR := Aside0.mk hr
  have HC := Aside0.mk hc
  have HFR := Aside0.mk hframe
  have HBT := Aside0.mk hbt
  have HCP := Aside0.mk hcopy
  have HB5 := Aside0.mk hb5
  clear hr hc hframe hbt hcopy hb5
  have key : (f.toList == ([] : List UInt8)) = true ∨ ((f.toList == ([] : List UInt8)) = false ∧ decide (1 ≤ last ∧ last ≤ 9999) = false) ∨ ((f.toList == ([] : List UInt8)) = false ∧ decide (1 ≤ last ∧ last ≤ 9999) = true ∧ decide (0 ≤ size ∧ size ≤ 1000000000) = false) ∨ ((f.toList == ([] : List UInt8)) = false ∧ decide (1 ≤ last ∧ last ≤ 9999) = true ∧ decide (0 ≤ size ∧ size ≤ 1000000000) = true ∧ decide (1 ≤ most ∧ most ≤ 1000000000) = false) := by
    cases h0 : (f.toList == ([] : List UInt8)) with
    | true => exact .inl rfl
    | false =>
      have hf : ¬ f.size = 0 := fun e => by
        have : f.toList = [] := by rw [ByteArray.toList_eq]; exact List.eq_nil_of_length_eq_zero (by simpa using e)
        rw [this] at h0
        cases h0
      by_cases h1 : 1 ≤ last ∧ last ≤ 9999
      · by_cases h2 : 0 ≤ size ∧ size ≤ 1000000000
        · exact .inr (.inr (.inr ⟨rfl, decide_eq_true h1, decide_eq_true h2, decide_eq_false (fun h3 => hbad.elim hf fun h => h.elim (fun h => h h1) fun h => h.elim (fun h => h h2) fun h => h h3)⟩))
        · exact .inr (.inr (.inl ⟨rfl, decide_eq_true h1, decide_eq_false h2⟩))
      · exact .inr (.inl ⟨rfl, decide_eq_false h1⟩)
  clear hbad
  go_enter Tryz.func5, Tryz.ntmps5
  rcases key with key | key | key | key
  · have k0 := key
    go_wp2_with (first | ((with_reducible refine gds (N := 4) rfl ?_); refine qbx 4 #[.slice A l.length c, .int .i64 cap, .int .i64 cnt, .int .i64 cr, .int .i64 fa, .bool dn] 30 ?_; intro gf hg w1 hbox hb; have HB1 := Aside0.mk hb; have HF1 := Aside0.mk hbox; have HG1 := Aside0.mk (Nat.le_of_eq hg.symm : w.heap.size ≤ gf); clear hb hbox hg) | ((with_reducible refine gds (N := 5) rfl ?_); refine qbx 5 #[.int .i64 last, .int .i64 size] 31 ?_; intro gl hg w2 hbox hb; have HF2 := Aside0.mk (bbe HF1.out hb); have HL2 := Aside0.mk hbox; have HB2 := Aside0.mk (bst HB1.out hb); have HG2 := Aside0.mk (hg ▸ blt HF1.out : gf < gl); clear hb hbox hg) | ((with_reducible refine gds (N := 8) rfl ?_); refine qbx 8 #[.slice none 0 0, .int .i64 0, .int .i64 0, .int .i64 0, .int .i64 0, .bool false] 30 ?_; intro gr hg w3 hbox hb; have HF3 := Aside0.mk (bbe HF2.out hb); have HL3 := Aside0.mk (bbe HL2.out hb); have HR3 := Aside0.mk hbox; have HB3 := Aside0.mk (bst HB2.out hb); have HG3 := Aside0.mk (hg ▸ blt HL2.out : gl < gr); clear hb hbox hg) | ((with_reducible refine gds (N := 9) rfl ?_); refine qbx 9 #[.int .i64 0, .int .i64 0] 31 ?_; intro gm hg w4 hbox hb; have H4 := Aside0.mk (⟨bbe HF3.out hb, bbe HL3.out hb, bbe HR3.out hb, hbox, ⟨HG1.out, HG2.out, HG3.out, hg ▸ blt HR3.out⟩, bst HB3.out hb, HC.out, .inl HR.out⟩ : AeSt w w4 gf gl gr gm A c l cap cnt cr fa dn last size); have hz4 := qz2 H4.out.hl; clear hb hbox hg HF3 HL3 HR3 HB3 HG3) | (go_at_call 14; (with_reducible refine (HFR.out _).mono ?_); rintro e w5 ⟨rfl, hb⟩; have H5 := Aside0.mk (H4.out.below hb); have hz5 := qz2 H5.out.hl; clear hb) | (go_at_call 15; (with_reducible refine (HBT.out last 1 9999 _).mono ?_); rintro e w6 ⟨rfl, hb⟩; have H6 := Aside0.mk (H5.out.below hb); have hz6 := qz2 H6.out.hl; clear hb) | (go_at_call 15; (with_reducible refine (HBT.out size 0 1000000000 _).mono ?_); rintro e w7 ⟨rfl, hb⟩; have H7 := Aside0.mk (H6.out.below hb); have hz7 := qz2 H7.out.hl; clear hb) | (go_at_call 15; (with_reducible refine (HBT.out most 1 1000000000 _).mono ?_); rintro e w8 ⟨rfl, hb⟩; have H8 := Aside0.mk (H7.out.below hb); have hz8 := qz2 H8.out.hl; clear hb))
    have HD := Aside0.mk (H5.out.below (bd1 (Below.refl _ _)))
    refine start_ (n := 6) (S := (fun w' => w'.heap[gf]? = some (.cells #[.slice A l.length c, .int .i64 cap, .int .i64 cnt, .int .i64 cr, .int .i64 fa, .bool dn] 30 (0, 0)) ∧ w'.heap[gl]? = some (.cells #[.int .i64 last, .int .i64 size] 31 (0, 0)))) (ds := [4]) #[false, false, false, false, false, false] (by kernel_rfl) rfl rfl ⟨HD.out.hf, HD.out.hl⟩ (fun hHeld => ?_)
    refine take_ (i := 0) (N := some 40) (v := .agg #[.slice A l.length c, .int .i64 cap, .int .i64 cnt, .int .i64 cr, .int .i64 fa, .bool dn]) (a' := ?_) #[true, false, false, false, false, false] rfl rfl (by kernel_rfl) (fun _ _ _ h => h) (Or.inl ⟨by rfl, fun w' hS => exec_load_row 30 (.tmp 4) rfl gf rfl 30 #[.slice A l.length c, .int .i64 cap, .int .i64 cnt, .int .i64 cr, .int .i64 fa, .bool dn] (hS.1) Tryz.underlying30 rfl infoFs⟩) hHeld ?_ ?_
    rotate_left
    · simp only [Act.put, List.setIfInBounds_toArray, List.set_cons_zero, List.set_cons_succ, i64_w, i32_w]
      rfl
    refine take_ (i := 2) (N := some 42) (v := .agg #[.int .i64 last, .int .i64 size]) (a' := ?_) #[true, false, true, false, false, false] rfl rfl (by kernel_rfl) (fun _ _ _ h => h) (Or.inl ⟨by rfl, fun w' hS => exec_load_row 31 (.tmp 5) rfl gl rfl 31 #[.int .i64 last, .int .i64 size] (hS.2) Tryz.underlying31 rfl infoLog⟩) hHeld ?_ ?_
    rotate_left
    · simp only [Act.put, List.setIfInBounds_toArray, List.set_cons_zero, List.set_cons_succ, i64_w, i32_w]
      rfl
    refine one_ (i := 1) (N := some 41) #[true, true, true, false, false, false] rfl rfl (by kernel_rfl) (by decide) (fun K hK => ?_)
    refine call_ 16 #[.agg #[.slice A l.length c, .int .i64 cap, .int .i64 cnt, .int .i64 cr, .int .i64 fa, .bool dn]] (by rfl) rfl (by go_simp) ?_
    refine (HCP.out _ _ _ _ _ _ _ _ _ HD.out.reads HD.out.hc HB5.out).mono ?_
    rintro e w9 ⟨v, rfl, hv, hb⟩
    obtain ⟨A2, c2, rfl⟩ := Kd.R_slice hv
    have H9 := Aside0.mk (HD.out.below hb)
    have HV9 := Aside0.mk (Kd.Rlo hv HD.out.hb.size)
    clear hv hb
    refine ⟨_, rfl, ?_⟩
    refine hK.out _ _ ⟨H9.out.hf, H9.out.hl⟩ (fun hHeld => ?_)
    clear hK K
    refine norm_ (a' := ?_) ?_ ?_
    rotate_left
    · show Act.put _ (some 41) _ = _
      simp only [Act.put, List.setIfInBounds_toArray, List.set_cons_zero, List.set_cons_succ, i64_w, i32_w]
      rfl
    refine one_ (i := 3) (N := none) #[true, true, true, true, false, false] rfl rfl (by kernel_rfl) (by decide) (fun K hK => ?_)
    refine skip_ (by rfl) rfl (exec_store_row 30 (.tmp 8) (.tmp 41) rfl gr #[.slice A2 l.length c2, .int .i64 cap, .int .i64 cnt, .int .i64 cr, .int .i64 fa, .bool dn] rfl rfl 30 #[.slice none 0 0, .int .i64 0, .int .i64 0, .int .i64 0, .int .i64 0, .bool false] H9.out.hr infoFs rfl (by simp [Value.oneCell'])) ?_
    refine hK.out _ _ ⟨blk_setRow H9.out.hf (Nat.ne_of_lt (Nat.lt_trans H9.out.hd.2.1 H9.out.hd.2.2.1)) _, blk_setRow H9.out.hl (Nat.ne_of_lt H9.out.hd.2.2.1) _⟩ (fun hHeld => ?_)
    clear hK K
    refine last_ (i := 4) (N := none) #[true, true, true, true, true, false] rfl rfl (by kernel_rfl) (by decide) (fun K hK => ?_)
    refine skip_ (by rfl) rfl (exec_store_row 31 (.tmp 9) (.tmp 42) rfl gm #[.int .i64 last, .int .i64 size] rfl rfl 31 #[.int .i64 0, .int .i64 0] (blk_setRow H9.out.hm (Nat.ne_of_gt H9.out.hd.2.2.2) _) infoLog rfl (by simp [Value.oneCell'])) ?_
    refine hK.out _ _ ?_
    clear hK K
    refine pure_ (i := 5) (N := some 10) (v := ?_) (a' := ?_) #[true, true, true, true, true, true] rfl rfl (by kernel_rfl) (fun _ _ _ h => h) (Or.inl ⟨by rfl, ?_⟩) ?_ ?_
    rotate_left
    · intro w'
      go_simp
      with_reducible rfl
    rotate_left
    · simp only [Act.put, List.setIfInBounds_toArray, List.set_cons_zero, List.set_cons_succ, i64_w, i32_w]
      rfl
    refine done_ (by kernel_rfl) ?_
    go_wp2
    have E := AeSt.ends (cs := #[.slice A2 l.length c2, .int .i64 cap, .int .i64 cnt, .int .i64 cr, .int .i64 fa, .bool dn]) H9.out HV9.out (#[.int .i64 last, .int .i64 size])
    refine bodyPost_ret (results_cct rfl _ _ gr gm 30 31 #[.slice A2 l.length c2, .int .i64 cap, .int .i64 cnt, .int .i64 cr, .int .i64 fa, .bool dn] (#[.int .i64 last, .int .i64 size]) (0, 0) (0, 0) _ _ rfl E.1 Tryz.underlying30 rfl infoFs rfl E.2.1 Tryz.underlying31 rfl infoLog) rfl ⟨_, rfl, E.2.2.1, E.2.2.2⟩
  · obtain ⟨k0, k1⟩ := key
    go_wp2_with (first | ((with_reducible refine gds (N := 4) rfl ?_); refine qbx 4 #[.slice A l.length c, .int .i64 cap, .int .i64 cnt, .int .i64 cr, .int .i64 fa, .bool dn] 30 ?_; intro gf hg w1 hbox hb; have HB1 := Aside0.mk hb; have HF1 := Aside0.mk hbox; have HG1 := Aside0.mk (Nat.le_of_eq hg.symm : w.heap.size ≤ gf); clear hb hbox hg) | ((with_reducible refine gds (N := 5) rfl ?_); refine qbx 5 #[.int .i64 last, .int .i64 size] 31 ?_; intro gl hg w2 hbox hb; have HF2 := Aside0.mk (bbe HF1.out hb); have HL2 := Aside0.mk hbox; have HB2 := Aside0.mk (bst HB1.out hb); have HG2 := Aside0.mk (hg ▸ blt HF1.out : gf < gl); clear hb hbox hg) | ((with_reducible refine gds (N := 8) rfl ?_); refine qbx 8 #[.slice none 0 0, .int .i64 0, .int .i64 0, .int .i64 0, .int .i64 0, .bool false] 30 ?_; intro gr hg w3 hbox hb; have HF3 := Aside0.mk (bbe HF2.out hb); have HL3 := Aside0.mk (bbe HL2.out hb); have HR3 := Aside0.mk hbox; have HB3 := Aside0.mk (bst HB2.out hb); have HG3 := Aside0.mk (hg ▸ blt HL2.out : gl < gr); clear hb hbox hg) | ((with_reducible refine gds (N := 9) rfl ?_); refine qbx 9 #[.int .i64 0, .int .i64 0] 31 ?_; intro gm hg w4 hbox hb; have H4 := Aside0.mk (⟨bbe HF3.out hb, bbe HL3.out hb, bbe HR3.out hb, hbox, ⟨HG1.out, HG2.out, HG3.out, hg ▸ blt HR3.out⟩, bst HB3.out hb, HC.out, .inl HR.out⟩ : AeSt w w4 gf gl gr gm A c l cap cnt cr fa dn last size); have hz4 := qz2 H4.out.hl; clear hb hbox hg HF3 HL3 HR3 HB3 HG3) | (go_at_call 14; (with_reducible refine (HFR.out _).mono ?_); rintro e w5 ⟨rfl, hb⟩; have H5 := Aside0.mk (H4.out.below hb); have hz5 := qz2 H5.out.hl; clear hb) | (go_at_call 15; (with_reducible refine (HBT.out last 1 9999 _).mono ?_); rintro e w6 ⟨rfl, hb⟩; have H6 := Aside0.mk (H5.out.below hb); have hz6 := qz2 H6.out.hl; clear hb) | (go_at_call 15; (with_reducible refine (HBT.out size 0 1000000000 _).mono ?_); rintro e w7 ⟨rfl, hb⟩; have H7 := Aside0.mk (H6.out.below hb); have hz7 := qz2 H7.out.hl; clear hb) | (go_at_call 15; (with_reducible refine (HBT.out most 1 1000000000 _).mono ?_); rintro e w8 ⟨rfl, hb⟩; have H8 := Aside0.mk (H7.out.below hb); have hz8 := qz2 H8.out.hl; clear hb))
    have HD := Aside0.mk (H6.out.below (bd1 (Below.refl _ _)))
    refine start_ (n := 6) (S := (fun w' => w'.heap[gf]? = some (.cells #[.slice A l.length c, .int .i64 cap, .int .i64 cnt, .int .i64 cr, .int .i64 fa, .bool dn] 30 (0, 0)) ∧ w'.heap[gl]? = some (.cells #[.int .i64 last, .int .i64 size] 31 (0, 0)))) (ds := [4]) #[false, false, false, false, false, false] (by kernel_rfl) rfl rfl ⟨HD.out.hf, HD.out.hl⟩ (fun hHeld => ?_)
    refine take_ (i := 0) (N := some 40) (v := .agg #[.slice A l.length c, .int .i64 cap, .int .i64 cnt, .int .i64 cr, .int .i64 fa, .bool dn]) (a' := ?_) #[true, false, false, false, false, false] rfl rfl (by kernel_rfl) (fun _ _ _ h => h) (Or.inl ⟨by rfl, fun w' hS => exec_load_row 30 (.tmp 4) rfl gf rfl 30 #[.slice A l.length c, .int .i64 cap, .int .i64 cnt, .int .i64 cr, .int .i64 fa, .bool dn] (hS.1) Tryz.underlying30 rfl infoFs⟩) hHeld ?_ ?_
    rotate_left
    · simp only [Act.put, List.setIfInBounds_toArray, List.set_cons_zero, List.set_cons_succ, i64_w, i32_w]
      rfl
    refine take_ (i := 2) (N := some 42) (v := .agg #[.int .i64 last, .int .i64 size]) (a' := ?_) #[true, false, true, false, false, false] rfl rfl (by kernel_rfl) (fun _ _ _ h => h) (Or.inl ⟨by rfl, fun w' hS => exec_load_row 31 (.tmp 5) rfl gl rfl 31 #[.int .i64 last, .int .i64 size] (hS.2) Tryz.underlying31 rfl infoLog⟩) hHeld ?_ ?_
    rotate_left
    · simp only [Act.put, List.setIfInBounds_toArray, List.set_cons_zero, List.set_cons_succ, i64_w, i32_w]
      rfl
    refine one_ (i := 1) (N := some 41) #[true, true, true, false, false, false] rfl rfl (by kernel_rfl) (by decide) (fun K hK => ?_)
    refine call_ 16 #[.agg #[.slice A l.length c, .int .i64 cap, .int .i64 cnt, .int .i64 cr, .int .i64 fa, .bool dn]] (by rfl) rfl (by go_simp) ?_
    refine (HCP.out _ _ _ _ _ _ _ _ _ HD.out.reads HD.out.hc HB5.out).mono ?_
    rintro e w9 ⟨v, rfl, hv, hb⟩
    obtain ⟨A2, c2, rfl⟩ := Kd.R_slice hv
    have H9 := Aside0.mk (HD.out.below hb)
    have HV9 := Aside0.mk (Kd.Rlo hv HD.out.hb.size)
    clear hv hb
    refine ⟨_, rfl, ?_⟩
    refine hK.out _ _ ⟨H9.out.hf, H9.out.hl⟩ (fun hHeld => ?_)
    clear hK K
    refine norm_ (a' := ?_) ?_ ?_
    rotate_left
    · show Act.put _ (some 41) _ = _
      simp only [Act.put, List.setIfInBounds_toArray, List.set_cons_zero, List.set_cons_succ, i64_w, i32_w]
      rfl
    refine one_ (i := 3) (N := none) #[true, true, true, true, false, false] rfl rfl (by kernel_rfl) (by decide) (fun K hK => ?_)
    refine skip_ (by rfl) rfl (exec_store_row 30 (.tmp 8) (.tmp 41) rfl gr #[.slice A2 l.length c2, .int .i64 cap, .int .i64 cnt, .int .i64 cr, .int .i64 fa, .bool dn] rfl rfl 30 #[.slice none 0 0, .int .i64 0, .int .i64 0, .int .i64 0, .int .i64 0, .bool false] H9.out.hr infoFs rfl (by simp [Value.oneCell'])) ?_
    refine hK.out _ _ ⟨blk_setRow H9.out.hf (Nat.ne_of_lt (Nat.lt_trans H9.out.hd.2.1 H9.out.hd.2.2.1)) _, blk_setRow H9.out.hl (Nat.ne_of_lt H9.out.hd.2.2.1) _⟩ (fun hHeld => ?_)
    clear hK K
    refine last_ (i := 4) (N := none) #[true, true, true, true, true, false] rfl rfl (by kernel_rfl) (by decide) (fun K hK => ?_)
    refine skip_ (by rfl) rfl (exec_store_row 31 (.tmp 9) (.tmp 42) rfl gm #[.int .i64 last, .int .i64 size] rfl rfl 31 #[.int .i64 0, .int .i64 0] (blk_setRow H9.out.hm (Nat.ne_of_gt H9.out.hd.2.2.2) _) infoLog rfl (by simp [Value.oneCell'])) ?_
    refine hK.out _ _ ?_
    clear hK K
    refine pure_ (i := 5) (N := some 10) (v := ?_) (a' := ?_) #[true, true, true, true, true, true] rfl rfl (by kernel_rfl) (fun _ _ _ h => h) (Or.inl ⟨by rfl, ?_⟩) ?_ ?_
    rotate_left
    · intro w'
      go_simp
      with_reducible rfl
    rotate_left
    · simp only [Act.put, List.setIfInBounds_toArray, List.set_cons_zero, List.set_cons_succ, i64_w, i32_w]
      rfl
    refine done_ (by kernel_rfl) ?_
    go_wp2
    have E := AeSt.ends (cs := #[.slice A2 l.length c2, .int .i64 cap, .int .i64 cnt, .int .i64 cr, .int .i64 fa, .bool dn]) H9.out HV9.out (#[.int .i64 last, .int .i64 size])
    refine bodyPost_ret (results_cct rfl _ _ gr gm 30 31 #[.slice A2 l.length c2, .int .i64 cap, .int .i64 cnt, .int .i64 cr, .int .i64 fa, .bool dn] (#[.int .i64 last, .int .i64 size]) (0, 0) (0, 0) _ _ rfl E.1 Tryz.underlying30 rfl infoFs rfl E.2.1 Tryz.underlying31 rfl infoLog) rfl ⟨_, rfl, E.2.2.1, E.2.2.2⟩
  · obtain ⟨k0, k1, k2⟩ := key
    go_wp2_with (first | ((with_reducible refine gds (N := 4) rfl ?_); refine qbx 4 #[.slice A l.length c, .int .i64 cap, .int .i64 cnt, .int .i64 cr, .int .i64 fa, .bool dn] 30 ?_; intro gf hg w1 hbox hb; have HB1 := Aside0.mk hb; have HF1 := Aside0.mk hbox; have HG1 := Aside0.mk (Nat.le_of_eq hg.symm : w.heap.size ≤ gf); clear hb hbox hg) | ((with_reducible refine gds (N := 5) rfl ?_); refine qbx 5 #[.int .i64 last, .int .i64 size] 31 ?_; intro gl hg w2 hbox hb; have HF2 := Aside0.mk (bbe HF1.out hb); have HL2 := Aside0.mk hbox; have HB2 := Aside0.mk (bst HB1.out hb); have HG2 := Aside0.mk (hg ▸ blt HF1.out : gf < gl); clear hb hbox hg) | ((with_reducible refine gds (N := 8) rfl ?_); refine qbx 8 #[.slice none 0 0, .int .i64 0, .int .i64 0, .int .i64 0, .int .i64 0, .bool false] 30 ?_; intro gr hg w3 hbox hb; have HF3 := Aside0.mk (bbe HF2.out hb); have HL3 := Aside0.mk (bbe HL2.out hb); have HR3 := Aside0.mk hbox; have HB3 := Aside0.mk (bst HB2.out hb); have HG3 := Aside0.mk (hg ▸ blt HL2.out : gl < gr); clear hb hbox hg) | ((with_reducible refine gds (N := 9) rfl ?_); refine qbx 9 #[.int .i64 0, .int .i64 0] 31 ?_; intro gm hg w4 hbox hb; have H4 := Aside0.mk (⟨bbe HF3.out hb, bbe HL3.out hb, bbe HR3.out hb, hbox, ⟨HG1.out, HG2.out, HG3.out, hg ▸ blt HR3.out⟩, bst HB3.out hb, HC.out, .inl HR.out⟩ : AeSt w w4 gf gl gr gm A c l cap cnt cr fa dn last size); have hz4 := qz2 H4.out.hl; clear hb hbox hg HF3 HL3 HR3 HB3 HG3) | (go_at_call 14; (with_reducible refine (HFR.out _).mono ?_); rintro e w5 ⟨rfl, hb⟩; have H5 := Aside0.mk (H4.out.below hb); have hz5 := qz2 H5.out.hl; clear hb) | (go_at_call 15; (with_reducible refine (HBT.out last 1 9999 _).mono ?_); rintro e w6 ⟨rfl, hb⟩; have H6 := Aside0.mk (H5.out.below hb); have hz6 := qz2 H6.out.hl; clear hb) | (go_at_call 15; (with_reducible refine (HBT.out size 0 1000000000 _).mono ?_); rintro e w7 ⟨rfl, hb⟩; have H7 := Aside0.mk (H6.out.below hb); have hz7 := qz2 H7.out.hl; clear hb) | (go_at_call 15; (with_reducible refine (HBT.out most 1 1000000000 _).mono ?_); rintro e w8 ⟨rfl, hb⟩; have H8 := Aside0.mk (H7.out.below hb); have hz8 := qz2 H8.out.hl; clear hb))
    have HD := Aside0.mk (H7.out.below (bd1 (Below.refl _ _)))
    refine start_ (n := 6) (S := (fun w' => w'.heap[gf]? = some (.cells #[.slice A l.length c, .int .i64 cap, .int .i64 cnt, .int .i64 cr, .int .i64 fa, .bool dn] 30 (0, 0)) ∧ w'.heap[gl]? = some (.cells #[.int .i64 last, .int .i64 size] 31 (0, 0)))) (ds := [4]) #[false, false, false, false, false, false] (by kernel_rfl) rfl rfl ⟨HD.out.hf, HD.out.hl⟩ (fun hHeld => ?_)
    refine take_ (i := 0) (N := some 40) (v := .agg #[.slice A l.length c, .int .i64 cap, .int .i64 cnt, .int .i64 cr, .int .i64 fa, .bool dn]) (a' := ?_) #[true, false, false, false, false, false] rfl rfl (by kernel_rfl) (fun _ _ _ h => h) (Or.inl ⟨by rfl, fun w' hS => exec_load_row 30 (.tmp 4) rfl gf rfl 30 #[.slice A l.length c, .int .i64 cap, .int .i64 cnt, .int .i64 cr, .int .i64 fa, .bool dn] (hS.1) Tryz.underlying30 rfl infoFs⟩) hHeld ?_ ?_
    rotate_left
    · simp only [Act.put, List.setIfInBounds_toArray, List.set_cons_zero, List.set_cons_succ, i64_w, i32_w]
      rfl
    refine take_ (i := 2) (N := some 42) (v := .agg #[.int .i64 last, .int .i64 size]) (a' := ?_) #[true, false, true, false, false, false] rfl rfl (by kernel_rfl) (fun _ _ _ h => h) (Or.inl ⟨by rfl, fun w' hS => exec_load_row 31 (.tmp 5) rfl gl rfl 31 #[.int .i64 last, .int .i64 size] (hS.2) Tryz.underlying31 rfl infoLog⟩) hHeld ?_ ?_
    rotate_left
    · simp only [Act.put, List.setIfInBounds_toArray, List.set_cons_zero, List.set_cons_succ, i64_w, i32_w]
      rfl
    refine one_ (i := 1) (N := some 41) #[true, true, true, false, false, false] rfl rfl (by kernel_rfl) (by decide) (fun K hK => ?_)
    refine call_ 16 #[.agg #[.slice A l.length c, .int .i64 cap, .int .i64 cnt, .int .i64 cr, .int .i64 fa, .bool dn]] (by rfl) rfl (by go_simp) ?_
    refine (HCP.out _ _ _ _ _ _ _ _ _ HD.out.reads HD.out.hc HB5.out).mono ?_
    rintro e w9 ⟨v, rfl, hv, hb⟩
    obtain ⟨A2, c2, rfl⟩ := Kd.R_slice hv
    have H9 := Aside0.mk (HD.out.below hb)
    have HV9 := Aside0.mk (Kd.Rlo hv HD.out.hb.size)
    clear hv hb
    refine ⟨_, rfl, ?_⟩
    refine hK.out _ _ ⟨H9.out.hf, H9.out.hl⟩ (fun hHeld => ?_)
    clear hK K
    refine norm_ (a' := ?_) ?_ ?_
    rotate_left
    · show Act.put _ (some 41) _ = _
      simp only [Act.put, List.setIfInBounds_toArray, List.set_cons_zero, List.set_cons_succ, i64_w, i32_w]
      rfl
    refine one_ (i := 3) (N := none) #[true, true, true, true, false, false] rfl rfl (by kernel_rfl) (by decide) (fun K hK => ?_)
    refine skip_ (by rfl) rfl (exec_store_row 30 (.tmp 8) (.tmp 41) rfl gr #[.slice A2 l.length c2, .int .i64 cap, .int .i64 cnt, .int .i64 cr, .int .i64 fa, .bool dn] rfl rfl 30 #[.slice none 0 0, .int .i64 0, .int .i64 0, .int .i64 0, .int .i64 0, .bool false] H9.out.hr infoFs rfl (by simp [Value.oneCell'])) ?_
    refine hK.out _ _ ⟨blk_setRow H9.out.hf (Nat.ne_of_lt (Nat.lt_trans H9.out.hd.2.1 H9.out.hd.2.2.1)) _, blk_setRow H9.out.hl (Nat.ne_of_lt H9.out.hd.2.2.1) _⟩ (fun hHeld => ?_)
    clear hK K
    refine last_ (i := 4) (N := none) #[true, true, true, true, true, false] rfl rfl (by kernel_rfl) (by decide) (fun K hK => ?_)
    refine skip_ (by rfl) rfl (exec_store_row 31 (.tmp 9) (.tmp 42) rfl gm #[.int .i64 last, .int .i64 size] rfl rfl 31 #[.int .i64 0, .int .i64 0] (blk_setRow H9.out.hm (Nat.ne_of_gt H9.out.hd.2.2.2) _) infoLog rfl (by simp [Value.oneCell'])) ?_
    refine hK.out _ _ ?_
    clear hK K
    refine pure_ (i := 5) (N := some 10) (v := ?_) (a' := ?_) #[true, true, true, true, true, true] rfl rfl (by kernel_rfl) (fun _ _ _ h => h) (Or.inl ⟨by rfl, ?_⟩) ?_ ?_
    rotate_left
    · intro w'
      go_simp
      with_reducible rfl
    rotate_left
    · simp only [Act.put, List.setIfInBounds_toArray, List.set_cons_zero, List.set_cons_succ, i64_w, i32_w]
      rfl
    refine done_ (by kernel_rfl) ?_
    go_wp2
    have E := AeSt.ends (cs := #[.slice A2 l.length c2, .int .i64 cap, .int .i64 cnt, .int .i64 cr, .int .i64 fa, .bool dn]) H9.out HV9.out (#[.int .i64 last, .int .i64 size])
    refine bodyPost_ret (results_cct rfl _ _ gr gm 30 31 #[.slice A2 l.length c2, .int .i64 cap, .int .i64 cnt, .int .i64 cr, .int .i64 fa, .bool dn] (#[.int .i64 last, .int .i64 size]) (0, 0) (0, 0) _ _ rfl E.1 Tryz.underlying30 rfl infoFs rfl E.2.1 Tryz.underlying31 rfl infoLog) rfl ⟨_, rfl, E.2.2.1, E.2.2.2⟩
  · obtain ⟨k0, k1, k2, k3⟩ := key
    go_wp2_with (first | ((with_reducible refine gds (N := 4) rfl ?_); refine qbx 4 #[.slice A l.length c, .int .i64 cap, .int .i64 cnt, .int .i64 cr, .int .i64 fa, .bool dn] 30 ?_; intro gf hg w1 hbox hb; have HB1 := Aside0.mk hb; have HF1 := Aside0.mk hbox; have HG1 := Aside0.mk (Nat.le_of_eq hg.symm : w.heap.size ≤ gf); clear hb hbox hg) | ((with_reducible refine gds (N := 5) rfl ?_); refine qbx 5 #[.int .i64 last, .int .i64 size] 31 ?_; intro gl hg w2 hbox hb; have HF2 := Aside0.mk (bbe HF1.out hb); have HL2 := Aside0.mk hbox; have HB2 := Aside0.mk (bst HB1.out hb); have HG2 := Aside0.mk (hg ▸ blt HF1.out : gf < gl); clear hb hbox hg) | ((with_reducible refine gds (N := 8) rfl ?_); refine qbx 8 #[.slice none 0 0, .int .i64 0, .int .i64 0, .int .i64 0, .int .i64 0, .bool false] 30 ?_; intro gr hg w3 hbox hb; have HF3 := Aside0.mk (bbe HF2.out hb); have HL3 := Aside0.mk (bbe HL2.out hb); have HR3 := Aside0.mk hbox; have HB3 := Aside0.mk (bst HB2.out hb); have HG3 := Aside0.mk (hg ▸ blt HL2.out : gl < gr); clear hb hbox hg) | ((with_reducible refine gds (N := 9) rfl ?_); refine qbx 9 #[.int .i64 0, .int .i64 0] 31 ?_; intro gm hg w4 hbox hb; have H4 := Aside0.mk (⟨bbe HF3.out hb, bbe HL3.out hb, bbe HR3.out hb, hbox, ⟨HG1.out, HG2.out, HG3.out, hg ▸ blt HR3.out⟩, bst HB3.out hb, HC.out, .inl HR.out⟩ : AeSt w w4 gf gl gr gm A c l cap cnt cr fa dn last size); have hz4 := qz2 H4.out.hl; clear hb hbox hg HF3 HL3 HR3 HB3 HG3) | (go_at_call 14; (with_reducible refine (HFR.out _).mono ?_); rintro e w5 ⟨rfl, hb⟩; have H5 := Aside0.mk (H4.out.below hb); have hz5 := qz2 H5.out.hl; clear hb) | (go_at_call 15; (with_reducible refine (HBT.out last 1 9999 _).mono ?_); rintro e w6 ⟨rfl, hb⟩; have H6 := Aside0.mk (H5.out.below hb); have hz6 := qz2 H6.out.hl; clear hb) | (go_at_call 15; (with_reducible refine (HBT.out size 0 1000000000 _).mono ?_); rintro e w7 ⟨rfl, hb⟩; have H7 := Aside0.mk (H6.out.below hb); have hz7 := qz2 H7.out.hl; clear hb) | (go_at_call 15; (with_reducible refine (HBT.out most 1 1000000000 _).mono ?_); rintro e w8 ⟨rfl, hb⟩; have H8 := Aside0.mk (H7.out.below hb); have hz8 := qz2 H8.out.hl; clear hb))
    have HD := Aside0.mk (H8.out.below (bd1 (Below.refl _ _)))
    refine start_ (n := 6) (S := (fun w' => w'.heap[gf]? = some (.cells #[.slice A l.length c, .int .i64 cap, .int .i64 cnt, .int .i64 cr, .int .i64 fa, .bool dn] 30 (0, 0)) ∧ w'.heap[gl]? = some (.cells #[.int .i64 last, .int .i64 size] 31 (0, 0)))) (ds := [4]) #[false, false, false, false, false, false] (by kernel_rfl) rfl rfl ⟨HD.out.hf, HD.out.hl⟩ (fun hHeld => ?_)
    refine take_ (i := 0) (N := some 40) (v := .agg #[.slice A l.length c, .int .i64 cap, .int .i64 cnt, .int .i64 cr, .int .i64 fa, .bool dn]) (a' := ?_) #[true, false, false, false, false, false] rfl rfl (by kernel_rfl) (fun _ _ _ h => h) (Or.inl ⟨by rfl, fun w' hS => exec_load_row 30 (.tmp 4) rfl gf rfl 30 #[.slice A l.length c, .int .i64 cap, .int .i64 cnt, .int .i64 cr, .int .i64 fa, .bool dn] (hS.1) Tryz.underlying30 rfl infoFs⟩) hHeld ?_ ?_
    rotate_left
    · simp only [Act.put, List.setIfInBounds_toArray, List.set_cons_zero, List.set_cons_succ, i64_w, i32_w]
      rfl
    refine take_ (i := 2) (N := some 42) (v := .agg #[.int .i64 last, .int .i64 size]) (a' := ?_) #[true, false, true, false, false, false] rfl rfl (by kernel_rfl) (fun _ _ _ h => h) (Or.inl ⟨by rfl, fun w' hS => exec_load_row 31 (.tmp 5) rfl gl rfl 31 #[.int .i64 last, .int .i64 size] (hS.2) Tryz.underlying31 rfl infoLog⟩) hHeld ?_ ?_
    rotate_left
    · simp only [Act.put, List.setIfInBounds_toArray, List.set_cons_zero, List.set_cons_succ, i64_w, i32_w]
      rfl
    refine one_ (i := 1) (N := some 41) #[true, true, true, false, false, false] rfl rfl (by kernel_rfl) (by decide) (fun K hK => ?_)
    refine call_ 16 #[.agg #[.slice A l.length c, .int .i64 cap, .int .i64 cnt, .int .i64 cr, .int .i64 fa, .bool dn]] (by rfl) rfl (by go_simp) ?_
    refine (HCP.out _ _ _ _ _ _ _ _ _ HD.out.reads HD.out.hc HB5.out).mono ?_
    rintro e w9 ⟨v, rfl, hv, hb⟩
    obtain ⟨A2, c2, rfl⟩ := Kd.R_slice hv
    have H9 := Aside0.mk (HD.out.below hb)
    have HV9 := Aside0.mk (Kd.Rlo hv HD.out.hb.size)
    clear hv hb
    refine ⟨_, rfl, ?_⟩
    refine hK.out _ _ ⟨H9.out.hf, H9.out.hl⟩ (fun hHeld => ?_)
    clear hK K
    refine norm_ (a' := ?_) ?_ ?_
    rotate_left
    · show Act.put _ (some 41) _ = _
      simp only [Act.put, List.setIfInBounds_toArray, List.set_cons_zero, List.set_cons_succ, i64_w, i32_w]
      rfl
    refine one_ (i := 3) (N := none) #[true, true, true, true, false, false] rfl rfl (by kernel_rfl) (by decide) (fun K hK => ?_)
    refine skip_ (by rfl) rfl (exec_store_row 30 (.tmp 8) (.tmp 41) rfl gr #[.slice A2 l.length c2, .int .i64 cap, .int .i64 cnt, .int .i64 cr, .int .i64 fa, .bool dn] rfl rfl 30 #[.slice none 0 0, .int .i64 0, .int .i64 0, .int .i64 0, .int .i64 0, .bool false] H9.out.hr infoFs rfl (by simp [Value.oneCell'])) ?_
    refine hK.out _ _ ⟨blk_setRow H9.out.hf (Nat.ne_of_lt (Nat.lt_trans H9.out.hd.2.1 H9.out.hd.2.2.1)) _, blk_setRow H9.out.hl (Nat.ne_of_lt H9.out.hd.2.2.1) _⟩ (fun hHeld => ?_)
    clear hK K
    refine last_ (i := 4) (N := none) #[true, true, true, true, true, false] rfl rfl (by kernel_rfl) (by decide) (fun K hK => ?_)
    refine skip_ (by rfl) rfl (exec_store_row 31 (.tmp 9) (.tmp 42) rfl gm #[.int .i64 last, .int .i64 size] rfl rfl 31 #[.int .i64 0, .int .i64 0] (blk_setRow H9.out.hm (Nat.ne_of_gt H9.out.hd.2.2.2) _) infoLog rfl (by simp [Value.oneCell'])) ?_
    refine hK.out _ _ ?_
    clear hK K
    refine pure_ (i := 5) (N := some 10) (v := ?_) (a' := ?_) #[true, true, true, true, true, true] rfl rfl (by kernel_rfl) (fun _ _ _ h => h) (Or.inl ⟨by rfl, ?_⟩) ?_ ?_
    rotate_left
    · intro w'
      go_simp
      with_reducible rfl
    rotate_left
    · simp only [Act.put, List.setIfInBounds_toArray, List.set_cons_zero, List.set_cons_succ, i64_w, i32_w]
      rfl
    refine done_ (by kernel_rfl) ?_
    go_wp2
    have E := AeSt.ends (cs := #[.slice A2 l.length c2, .int .i64 cap, .int .i64 cnt, .int .i64 cr, .int .i64 fa, .bool dn]) H9.out HV9.out (#[.int .i64 last, .int .i64 size])
    refine bodyPost_ret (results_cct rfl _ _ gr gm 30 31 #[.slice A2 l.length c2, .int .i64 cap, .int .i64 cnt, .int .i64 cr, .int .i64 fa, .bool dn] (#[.int .i64 last, .int .i64 size]) (0, 0) (0, 0) _ _ rfl E.1 Tryz.underlying30 rfl infoFs rfl E.2.1 Tryz.underlying31 rfl infoLog) rfl ⟨_, rfl, E.2.2.1, E.2.2.2⟩
end Go.Proofs.YtfknmohedlfmfaaGreatDoor.L
end
section
set_option linter.unusedVariables false
set_option linter.unusedSimpArgs false
namespace Go.Proofs.YtfknmohedlfmfaaGreatDoor.L
open Go Go.RowKit Go.Proofs Go.Proofs.YtfknmohedlfmfaaGreatDoor Go.Proofs.YtfknmohedlfmfaaGreatDoorW.PrintWords Go.Proofs.YtfknmohedlfmfaaGreatDoorW.PrintLast Go.Proofs.YtfknmohedlfmfaaGreatDoorW.PrintMore
set_option maxHeartbeats 8000000 in
set_option maxRecDepth 100000 in
theorem specAp_good (A : Option Addr) (c : Nat) (l : List FileT) (cap cnt cr fa : Int) (dn : Bool) (last size : Int) (entry : ByteArray) (most : Int) (w : World) (hr : Kd.C FileK w A l.length l) (hc : l.length ≤ c) (f : ByteArray)
    (hb1 : 1 ≤ last ∧ last ≤ 9999) (hb2 : 0 ≤ size ∧ size ≤ 1000000000) (hb3 : 1 ≤ most ∧ most ≤ 1000000000) (hb4 : 1 ≤ f.size ∧ f.size ≤ 100000) (hb5 : l.length ≤ 2000000)
    (hframe : ∀ w', Calls Tryz.prog 14 #[.string entry] w' fun e w'' => e = .returned (.string f) ∧ Below w'.heap.size w' w'')
    (hbt : ∀ a lo hi w', Calls Tryz.prog 15 #[.int .i64 a, .int .i64 lo, .int .i64 hi] w' fun e w'' => e = .returned (.bool (decide (lo ≤ a ∧ a ≤ hi))) ∧ Below w'.heap.size w' w'')
    (hcopy : ∀ A c l cap cnt cr fa dn w', Kd.C FileK w' A l.length l → l.length ≤ c → l.length ≤ 2000000 → Calls Tryz.prog 16 #[.agg #[.slice A l.length c, .int .i64 cap, .int .i64 cnt, .int .i64 cr, .int .i64 fa, .bool dn]] w' fun e w'' => ∃ v0_ : Value, e = .returned (.agg #[v0_, .int .i64 cap, .int .i64 cnt, .int .i64 cr, .int .i64 fa, .bool dn]) ∧ Kd.R FileK 61 w'' w'.heap.size (fun _ => True) v0_ l ∧ Below w'.heap.size w' w'')
    (seg : Int → Option ByteArray) (hseg : ∀ n nm w', Below w.heap.size w w' → seg n = some nm → Calls Tryz.prog 18 #[.int .i64 n] w' fun e w'' => e = .returned (.string nm) ∧ Below w'.heap.size w' w'')
    (st : StT) (hst : ∀ (A : Option Addr) (c : Nat) (l : List FileT) (cap cnt cr fa : Int) (dn : Bool) (kind : Int) (name data : ByteArray) (sz : Int) (l' : List FileT) (cap' cnt' cr' fa' : Int) (dn' : Bool) (q : Int) (w' : World), st l cap cnt cr fa dn kind name data sz = some (l', cap', cnt', cr', fa', dn', q) → Kd.C FileK w' A l.length l → l.length ≤ c →
      Calls Tryz.prog 17 #[.agg #[.slice A l.length c, .int .i64 cap, .int .i64 cnt, .int .i64 cr, .int .i64 fa, .bool dn], .agg #[.int .i64 kind, .string name, .string data, .int .i64 sz]] w' fun e w'' =>
      ∃ v0_ : Value, e = .returned (.tuple #[.agg #[v0_, .int .i64 cap', .int .i64 cnt', .int .i64 cr', .int .i64 fa', .bool dn'], .int .i64 q]) ∧ Kd.R FileK 61 w'' w'.heap.size (fun _ => True) v0_ l' ∧ Below w'.heap.size w' w'')
    (l' : List FileT) (cap' cnt' cr' fa' : Int) (dn' : Bool) (last' size' code' : Int) (hres : apBody st seg f l cap cnt cr fa dn last size most = some (l', cap', cnt', cr', fa', dn', last', size', code')) :
    Calls Tryz.prog 5 #[.agg #[.slice A l.length c, .int .i64 cap, .int .i64 cnt, .int .i64 cr, .int .i64 fa, .bool dn], .agg #[.int .i64 last, .int .i64 size], .string entry, .int .i64 most] w fun e w' => ∃ v0_ : Value, e = .returned (.tuple #[.agg #[v0_, .int .i64 cap', .int .i64 cnt', .int .i64 cr', .int .i64 fa', .bool dn'], .agg #[.int .i64 last', .int .i64 size'], .int .i64 code']) ∧ Kd.R FileK 61 w' w.heap.size (fun _ => True) v0_ l' ∧ Below w.heap.size w w' := by
  have HR := Aside0.mk hr
  have HC := Aside0.mk hc
  have HFR := Aside0.mk hframe
  have HBT := Aside0.mk hbt
  have HCP := Aside0.mk hcopy
  have HSG := Aside0.mk hseg
  have HST := Aside0.mk hst
  have HRES := Aside0.mk hres
  have HB5 := Aside0.mk hb5
  have HBL := Aside0.mk hb1
  have HBS := Aside0.mk hb2
  have HBF := Aside0.mk hb4
  have k0 : (f.toList == ([] : List UInt8)) = false := by
    cases h0 : (f.toList == ([] : List UInt8)) with
    | false => rfl
    | true =>
      have h1 : f.toList = [] := by simpa using h0
      rw [ByteArray.toList_eq] at h1
      have h2 : f.size = f.data.toList.length := by simp
      rw [h1] at h2
      have := hb4.1
      simp only [List.length_nil] at h2
      omega
  have k1 : decide (1 ≤ last ∧ last ≤ 9999) = true := decide_eq_true hb1
  have k2 : decide (0 ≤ size ∧ size ≤ 1000000000) = true := decide_eq_true hb2
  have k3 : decide (1 ≤ most ∧ most ≤ 1000000000) = true := decide_eq_true hb3
  clear hr hc hframe hbt hcopy hseg hst hres hb1 hb2 hb3 hb4 hb5
  obtain ⟨rb, hrb⟩ : ∃ rb : Bool, decide (size ≠ 0 ∧ most < size + (f.size : Int)) = rb := ⟨_, rfl⟩
  have HRB := Aside0.mk hrb
  clear hrb
  go_enter Tryz.func5, Tryz.ntmps5
  go_upto_region 4 with (first | ((with_reducible refine gds (N := 4) rfl ?_); refine qbx 4 #[.slice A l.length c, .int .i64 cap, .int .i64 cnt, .int .i64 cr, .int .i64 fa, .bool dn] 30 ?_; intro gf hg w1 hbox hb; have HB1 := Aside0.mk hb; have HF1 := Aside0.mk hbox; have HG1 := Aside0.mk (Nat.le_of_eq hg.symm : w.heap.size ≤ gf); clear hb hbox hg) | ((with_reducible refine gds (N := 5) rfl ?_); refine qbx 5 #[.int .i64 last, .int .i64 size] 31 ?_; intro gl hg w2 hbox hb; have HF2 := Aside0.mk (bbe HF1.out hb); have HL2 := Aside0.mk hbox; have HB2 := Aside0.mk (bst HB1.out hb); have HG2 := Aside0.mk (hg ▸ blt HF1.out : gf < gl); clear hb hbox hg) | ((with_reducible refine gds (N := 8) rfl ?_); refine qbx 8 #[.slice none 0 0, .int .i64 0, .int .i64 0, .int .i64 0, .int .i64 0, .bool false] 30 ?_; intro gr hg w3 hbox hb; have HF3 := Aside0.mk (bbe HF2.out hb); have HL3 := Aside0.mk (bbe HL2.out hb); have HR3 := Aside0.mk hbox; have HB3 := Aside0.mk (bst HB2.out hb); have HG3 := Aside0.mk (hg ▸ blt HL2.out : gl < gr); clear hb hbox hg) | ((with_reducible refine gds (N := 9) rfl ?_); refine qbx 9 #[.int .i64 0, .int .i64 0] 31 ?_; intro gm hg w4 hbox hb; have H4 := Aside0.mk (⟨bbe HF3.out hb, bbe HL3.out hb, bbe HR3.out hb, hbox, ⟨HG1.out, HG2.out, HG3.out, hg ▸ blt HR3.out⟩, bst HB3.out hb, HC.out, .inl HR.out⟩ : AeSt w w4 gf gl gr gm A c l cap cnt cr fa dn last size); have hz4 := qz2 H4.out.hl; clear hb hbox hg HF3 HL3 HR3 HB3 HG3) | (go_at_call 14; (with_reducible refine (HFR.out _).mono ?_); rintro e w5 ⟨rfl, hb⟩; have H5 := Aside0.mk (H4.out.below hb); have hz5 := qz2 H5.out.hl; clear hb) | (go_at_call 15; (with_reducible refine (HBT.out last 1 9999 _).mono ?_); rintro e w6 ⟨rfl, hb⟩; have H6 := Aside0.mk (H5.out.below hb); have hz6 := qz2 H6.out.hl; clear hb) | (go_at_call 15; (with_reducible refine (HBT.out size 0 1000000000 _).mono ?_); rintro e w7 ⟨rfl, hb⟩; have H7 := Aside0.mk (H6.out.below hb); have hz7 := qz2 H7.out.hl; clear hb) | (go_at_call 15; (with_reducible refine (HBT.out most 1 1000000000 _).mono ?_); rintro e w8 ⟨rfl, hb⟩; have H8 := Aside0.mk (H7.out.below hb); have hz8 := qz2 H8.out.hl; clear hb))
  clear hz4 hz5 hz6 hz7 k0 k1 k2 k3
  go_cut [54] from 19 (fun s54 W => s54 = .bool rb ∧ AeSt w W gf gl gr gm A c l cap cnt cr fa dn last size)
  case first =>
    have hw : wrap64 (size + (f.size : Int)) = size + (f.size : Int) := by have h1 := HBS.out; have h2 := HBF.out; unfold wrap64; omega
    by_cases z : size = 0
    · have kz : (size != 0) = false := bne_eq_false_iff_eq.mpr z
      clear hw
      go_wp2_with fail
      go_meet
      case rel => exact ⟨by rw [← HRB.out, decide_eq_false (fun h => h.1 z)], H8.out⟩
    · have kz : (size != 0) = true := bne_iff_ne.mpr z
      go_wp2_with fail
      go_meet
      case rel => exact ⟨by rw [← HRB.out]; simp [z], H8.out⟩
  case rest =>
    obtain ⟨rfl, hH⟩ := hcut
    have HH := Aside0.mk hH
    clear hH H8 hz8
    go_upto_if 54 with fail
    go_cut [] from 19 (fun W => ∃ (A : Option Addr) (c : Nat) (l : List FileT) (cap cnt cr fa : Int) (dn : Bool) (last size : Int), AeSt w W gf gl gr gm A c l cap cnt cr fa dn last size ∧ (1 ≤ last ∧ last ≤ 9999) ∧ (0 ≤ size ∧ size ≤ 1000000000) ∧ apTail st seg f l cap cnt cr fa dn last size = some (l', cap', cnt', cr', fa', dn', last', size', code'))
    case first =>
      have hres := HRES.out
      unfold apBody at hres
      cases rb with
      | true =>
        have roll := of_decide_eq_true HRB.out
        rw [if_pos roll] at hres
        unfold apRoll at hres
        have hz9 := qz2 HH.out.hl
        by_cases hlast : last = 9999
        · rw [if_pos hlast] at hres
          have kl : (last == 9999) = true := beq_iff_eq.mpr hlast
          simp only [Option.some.injEq, Prod.mk.injEq] at hres
          obtain ⟨rfl, rfl, rfl, rfl, rfl, rfl, rfl, rfl, rfl⟩ := hres
          go_upto_region 6 with fail
          have HD := Aside0.mk (HH.out.below (bd1 (Below.refl _ _)))
          clear hz9 kl
          refine start_ (n := 6) (S := (fun w' => w'.heap[gf]? = some (.cells #[.slice A l.length c, .int .i64 cap, .int .i64 cnt, .int .i64 cr, .int .i64 fa, .bool dn] 30 (0, 0)) ∧ w'.heap[gl]? = some (.cells #[.int .i64 last, .int .i64 size] 31 (0, 0)))) (ds := [4]) #[false, false, false, false, false, false] (by kernel_rfl) rfl rfl ⟨HD.out.hf, HD.out.hl⟩ (fun hHeld => ?_)
          refine take_ (i := 0) (N := some 58) (v := .agg #[.slice A l.length c, .int .i64 cap, .int .i64 cnt, .int .i64 cr, .int .i64 fa, .bool dn]) (a' := ?_) #[true, false, false, false, false, false] rfl rfl (by kernel_rfl) (fun _ _ _ h => h) (Or.inl ⟨by rfl, fun w' hS => exec_load_row 30 (.tmp 4) rfl gf rfl 30 #[.slice A l.length c, .int .i64 cap, .int .i64 cnt, .int .i64 cr, .int .i64 fa, .bool dn] (hS.1) Tryz.underlying30 rfl infoFs⟩) hHeld ?_ ?_
          rotate_left
          · simp only [Act.put, List.setIfInBounds_toArray, List.set_cons_zero, List.set_cons_succ, i64_w, i32_w]
            rfl
          refine take_ (i := 2) (N := some 60) (v := .agg #[.int .i64 last, .int .i64 size]) (a' := ?_) #[true, false, true, false, false, false] rfl rfl (by kernel_rfl) (fun _ _ _ h => h) (Or.inl ⟨by rfl, fun w' hS => exec_load_row 31 (.tmp 5) rfl gl rfl 31 #[.int .i64 last, .int .i64 size] (hS.2) Tryz.underlying31 rfl infoLog⟩) hHeld ?_ ?_
          rotate_left
          · simp only [Act.put, List.setIfInBounds_toArray, List.set_cons_zero, List.set_cons_succ, i64_w, i32_w]
            rfl
          refine one_ (i := 1) (N := some 59) #[true, true, true, false, false, false] rfl rfl (by kernel_rfl) (by decide) (fun K hK => ?_)
          refine call_ 16 #[.agg #[.slice A l.length c, .int .i64 cap, .int .i64 cnt, .int .i64 cr, .int .i64 fa, .bool dn]] (by rfl) rfl (by go_simp) ?_
          refine (HCP.out _ _ _ _ _ _ _ _ _ HD.out.reads HD.out.hc HB5.out).mono ?_
          rintro e w9 ⟨v, rfl, hv, hb⟩
          obtain ⟨A2, c2, rfl⟩ := Kd.R_slice hv
          have H9 := Aside0.mk (HD.out.below hb)
          have HV9 := Aside0.mk (Kd.Rlo hv HD.out.hb.size)
          clear hv hb
          refine ⟨_, rfl, ?_⟩
          refine hK.out _ _ ⟨H9.out.hf, H9.out.hl⟩ (fun hHeld => ?_)
          clear hK K
          refine norm_ (a' := ?_) ?_ ?_
          rotate_left
          · show Act.put _ (some 59) _ = _
            simp only [Act.put, List.setIfInBounds_toArray, List.set_cons_zero, List.set_cons_succ, i64_w, i32_w]
            rfl
          refine one_ (i := 3) (N := none) #[true, true, true, true, false, false] rfl rfl (by kernel_rfl) (by decide) (fun K hK => ?_)
          refine skip_ (by rfl) rfl (exec_store_row 30 (.tmp 8) (.tmp 59) rfl gr #[.slice A2 l.length c2, .int .i64 cap, .int .i64 cnt, .int .i64 cr, .int .i64 fa, .bool dn] rfl rfl 30 #[.slice none 0 0, .int .i64 0, .int .i64 0, .int .i64 0, .int .i64 0, .bool false] H9.out.hr infoFs rfl (by simp [Value.oneCell'])) ?_
          refine hK.out _ _ ⟨blk_setRow H9.out.hf (Nat.ne_of_lt (Nat.lt_trans H9.out.hd.2.1 H9.out.hd.2.2.1)) _, blk_setRow H9.out.hl (Nat.ne_of_lt H9.out.hd.2.2.1) _⟩ (fun hHeld => ?_)
          clear hK K
          refine last_ (i := 4) (N := none) #[true, true, true, true, true, false] rfl rfl (by kernel_rfl) (by decide) (fun K hK => ?_)
          refine skip_ (by rfl) rfl (exec_store_row 31 (.tmp 9) (.tmp 60) rfl gm #[.int .i64 last, .int .i64 size] rfl rfl 31 #[.int .i64 0, .int .i64 0] (blk_setRow H9.out.hm (Nat.ne_of_gt H9.out.hd.2.2.2) _) infoLog rfl (by simp [Value.oneCell'])) ?_
          refine hK.out _ _ ?_
          clear hK K
          refine pure_ (i := 5) (N := some 10) (v := ?_) (a' := ?_) #[true, true, true, true, true, true] rfl rfl (by kernel_rfl) (fun _ _ _ h => h) (Or.inl ⟨by rfl, ?_⟩) ?_ ?_
          rotate_left
          · intro w'
            go_simp
            with_reducible rfl
          rotate_left
          · simp only [Act.put, List.setIfInBounds_toArray, List.set_cons_zero, List.set_cons_succ, i64_w, i32_w]
            rfl
          refine done_ (by kernel_rfl) ?_
          go_wp2
          have E := AeSt.ends (cs := #[.slice A2 l.length c2, .int .i64 cap, .int .i64 cnt, .int .i64 cr, .int .i64 fa, .bool dn]) H9.out HV9.out (#[.int .i64 last, .int .i64 size])
          refine bodyPost_ret (results_cct rfl _ _ gr gm 30 31 #[.slice A2 l.length c2, .int .i64 cap, .int .i64 cnt, .int .i64 cr, .int .i64 fa, .bool dn] (#[.int .i64 last, .int .i64 size]) (0, 0) (0, 0) _ _ rfl E.1 Tryz.underlying30 rfl infoFs rfl E.2.1 Tryz.underlying31 rfl infoLog) rfl ⟨_, rfl, E.2.2.1, E.2.2.2⟩
        · rw [if_neg hlast] at hres
          have kl : (last == 9999) = false := beq_eq_false_iff_ne.mpr hlast
          have HNL := Aside0.mk hlast
          replace hres := Option.bind_eq_some_iff.mp hres
          obtain ⟨nm, hnm, hres⟩ := hres
          replace hres := Option.bind_eq_some_iff.mp hres
          obtain ⟨⟨l1, cap1, cnt1, cr1, fa1, dn1, q1⟩, hst1, hres⟩ := hres
          have HNM := Aside0.mk hnm
          have HS1 := Aside0.mk hst1
          have HR1 := Aside0.mk hres
          clear hnm hst1 hres hlast roll
          go_upto_region 7 with fail
          have HD := Aside0.mk (HH.out.below (bd1 (Below.refl _ _)))
          clear hz9 kl
          go_cut [12, 13] from 19 (fun s12 s13 W => ∃ (gx : Nat) (A1 : Option Addr) (c1 : Nat), s12 = .pointer (some ⟨gx, 0, none⟩) ∧ s13 = .int .i64 q1 ∧ AeSt w W gf gl gr gm A c l cap cnt cr fa dn last size ∧ W.heap[gx]? = some (.cells #[.slice A1 l1.length c1, .int .i64 cap1, .int .i64 cnt1, .int .i64 cr1, .int .i64 fa1, .bool dn1] 30 (0, 0)) ∧ gm < gx ∧ Kd.R FileK 61 W w.heap.size (fun _ => True) (.slice A1 l1.length c1) l1)
          case first =>
            have hw : wrap64 (last + 1) = last + 1 := by have h1 := HBL.out; unfold wrap64; omega
            refine start_ (n := 13) (S := (fun w' => w'.heap[gf]? = some (.cells #[.slice A l.length c, .int .i64 cap, .int .i64 cnt, .int .i64 cr, .int .i64 fa, .bool dn] 30 (0, 0)) ∧ w'.heap[gl]? = some (.cells #[.int .i64 last, .int .i64 size] 31 (0, 0)))) (ds := []) #[false, false, false, false, false, false, false, false, false, false, false, false, false] (by kernel_rfl) rfl rfl ⟨HD.out.hf, HD.out.hl⟩ (fun hHeld => ?_)
            refine take_ (i := 0) (N := some 62) (v := .agg #[.slice A l.length c, .int .i64 cap, .int .i64 cnt, .int .i64 cr, .int .i64 fa, .bool dn]) (a' := ?_) #[true, false, false, false, false, false, false, false, false, false, false, false, false] rfl rfl (by kernel_rfl) (fun _ _ _ h => h) (Or.inl ⟨by rfl, fun w' hS => exec_load_row 30 (.tmp 4) rfl gf rfl 30 #[.slice A l.length c, .int .i64 cap, .int .i64 cnt, .int .i64 cr, .int .i64 fa, .bool dn] hS.1 Tryz.underlying30 rfl infoFs⟩) hHeld ?_ ?_
            rotate_left
            · simp only [Act.put, List.setIfInBounds_toArray, List.set_cons_zero, List.set_cons_succ, i64_w, i32_w]
              rfl
            refine pure_ (i := 1) (N := some 63) (v := ?_) (a' := ?_) #[true, true, false, false, false, false, false, false, false, false, false, false, false] rfl rfl (by kernel_rfl) (fun _ _ _ h => h) (Or.inl ⟨by rfl, ?_⟩) ?_ ?_
            rotate_left
            · intro w'
              go_simp
              with_reducible rfl
            rotate_left
            · simp only [Act.put, List.setIfInBounds_toArray, List.set_cons_zero, List.set_cons_succ, i64_w, i32_w]
              rfl
            refine take_ (i := 2) (N := some 64) (v := ?_) (a' := ?_) #[true, true, true, false, false, false, false, false, false, false, false, false, false] rfl rfl (by kernel_rfl) (fun _ _ _ h => h) (Or.inl ⟨by rfl, ?_⟩) hHeld ?_ ?_
            rotate_left
            · intro w' hS
              have h2 := qz2 hS.2
              go_simp
              with_reducible rfl
            rotate_left
            · simp only [Act.put, List.setIfInBounds_toArray, List.set_cons_zero, List.set_cons_succ, i64_w, i32_w]
              rfl
            refine pure_ (i := 3) (N := some 65) (v := ?_) (a' := ?_) #[true, true, true, true, false, false, false, false, false, false, false, false, false] rfl rfl (by kernel_rfl) (fun _ _ _ h => h) (Or.inl ⟨by rfl, ?_⟩) ?_ ?_
            rotate_left
            · intro w'
              go_simp
              with_reducible rfl
            rotate_left
            · simp only [Act.put, List.setIfInBounds_toArray, List.set_cons_zero, List.set_cons_succ, i64_w, i32_w]
              rfl
            refine two_ (i := 4) (j := 10) (Ni := some 66) (Nj := some 12) #[true, true, true, true, true, false, false, false, false, false, false, false, false] #[true, true, true, true, false, false, false, false, false, false, true, false, false] rfl rfl rfl rfl (by kernel_rfl) (by decide) (by decide) (fun K hK => ?_) (fun K hK => ?_)
            · refine call_ 18 #[.int .i64 (last + 1)] (by rfl) rfl (by go_simp) ?_
              refine (HSG.out _ _ _ HD.out.hb HNM.out).mono ?_
              rintro e w30 ⟨rfl, hb⟩
              have H30 := Aside0.mk (HD.out.below hb)
              clear hb
              refine ⟨_, rfl, ?_⟩
              refine hK.out _ _ ⟨H30.out.hf, H30.out.hl⟩ (fun hHeld => ?_)
              clear hK K
              refine norm_ (a' := ?_) ?_ ?_
              rotate_left
              · show Act.put _ (some 66) _ = _
                simp only [Act.put, List.setIfInBounds_toArray, List.set_cons_zero, List.set_cons_succ, i64_w, i32_w]
                rfl
              refine pure_ (i := 5) (N := some 67) (v := ?_) (a' := ?_) #[true, true, true, true, true, true, false, false, false, false, false, false, false] rfl rfl (by kernel_rfl) (fun _ _ _ h => h) (Or.inl ⟨by rfl, ?_⟩) ?_ ?_
              rotate_left
              · intro w'
                go_simp
                with_reducible rfl
              rotate_left
              · simp only [Act.put, List.setIfInBounds_toArray, List.set_cons_zero, List.set_cons_succ, i64_w, i32_w]
                rfl
              refine two_ (i := 6) (j := 10) (Ni := some 68) (Nj := some 12) #[true, true, true, true, true, true, true, false, false, false, false, false, false] #[true, true, true, true, true, true, false, false, false, false, true, false, false] rfl rfl rfl rfl (by kernel_rfl) (by decide) (by decide) (fun K hK => ?_) (fun K hK => ?_)
              · refine call_ 17 #[.agg #[.slice A l.length c, .int .i64 cap, .int .i64 cnt, .int .i64 cr, .int .i64 fa, .bool dn], .agg #[.int .i64 1, .string nm, .string noB, .int .i64 0]] (by rfl) rfl (by go_simp) ?_
                refine (HST.out _ _ _ _ _ _ _ _ _ _ _ _ _ _ _ _ _ _ _ _ HS1.out H30.out.reads H30.out.hc).mono ?_
                rintro e w31 ⟨v, rfl, hv, hb⟩
                obtain ⟨A1, c1, rfl⟩ := Kd.R_slice hv
                have H31 := Aside0.mk (H30.out.below hb)
                have HV31 := Aside0.mk (Kd.Rlo hv H30.out.hb.size)
                clear hv hb
                refine ⟨_, rfl, ?_⟩
                refine hK.out _ _ ⟨H31.out.hf, H31.out.hl⟩ (fun hHeld => ?_)
                clear hK K
                refine norm_ (a' := ?_) ?_ ?_
                rotate_left
                · show Act.put _ (some 68) _ = _
                  simp only [Act.put, List.setIfInBounds_toArray, List.set_cons_zero, List.set_cons_succ, i64_w, i32_w]
                  rfl
                refine pure_ (i := 7) (N := some 61) (v := ?_) (a' := ?_) #[true, true, true, true, true, true, true, true, false, false, false, false, false] rfl rfl (by kernel_rfl) (fun _ _ _ h => h) (Or.inl ⟨by rfl, ?_⟩) ?_ ?_
                rotate_left
                · intro w'
                  go_simp
                  with_reducible rfl
                rotate_left
                · simp only [Act.put, List.setIfInBounds_toArray, List.set_cons_zero, List.set_cons_succ, i64_w, i32_w]
                  rfl
                refine pure_ (i := 8) (N := some 69) (v := ?_) (a' := ?_) #[true, true, true, true, true, true, true, true, true, false, false, false, false] rfl rfl (by kernel_rfl) (fun _ _ _ h => h) (Or.inl ⟨by rfl, ?_⟩) ?_ ?_
                rotate_left
                · intro w'
                  go_simp
                  with_reducible rfl
                rotate_left
                · simp only [Act.put, List.setIfInBounds_toArray, List.set_cons_zero, List.set_cons_succ, i64_w, i32_w]
                  rfl
                refine pure_ (i := 9) (N := some 70) (v := ?_) (a' := ?_) #[true, true, true, true, true, true, true, true, true, true, false, false, false] rfl rfl (by kernel_rfl) (fun _ _ _ h => h) (Or.inl ⟨by rfl, ?_⟩) ?_ ?_
                rotate_left
                · intro w'
                  go_simp
                  with_reducible rfl
                rotate_left
                · simp only [Act.put, List.setIfInBounds_toArray, List.set_cons_zero, List.set_cons_succ, i64_w, i32_w]
                  rfl
                refine one_ (i := 10) (N := some 12) #[true, true, true, true, true, true, true, true, true, true, true, false, false] rfl rfl (by kernel_rfl) (by decide) (fun K hK => ?_)
                refine bxs ?hg (N := 12) ?hd (cs := #[.slice none 0 0, .int .i64 0, .int .i64 0, .int .i64 0, .int .i64 0, .bool false]) (t := 30) ?hr ?_; (case hd => rfl); (case hg => rfl); (case hr => first | (go_simp; done) | (go_simp; rfl))
                intro gx hg w32 hbox hb
                have H32 := Aside0.mk (H31.out.below hb)
                have HX32 := Aside0.mk hbox
                have HGX := Aside0.mk (hg ▸ blt H31.out.hm : gm < gx)
                have HV32 := Aside0.mk (Kd.Rbe HV31.out hb)
                clear hb hbox hg
                refine hK.out _ _ ⟨H32.out.hf, H32.out.hl⟩ (fun hHeld => ?_)
                clear hK K
                refine norm_ (a' := ?_) ?_ ?_
                rotate_left
                · show Act.put _ (some 12) _ = _
                  simp only [Act.put, List.setIfInBounds_toArray, List.set_cons_zero, List.set_cons_succ, i64_w, i32_w]
                  rfl
                refine one_ (i := 11) (N := none) #[true, true, true, true, true, true, true, true, true, true, true, true, false] rfl rfl (by kernel_rfl) (by decide) (fun K hK => ?_)
                refine skip_ (by rfl) rfl (exec_store_row 30 (.tmp 12) (.tmp 69) rfl gx #[.slice A1 l1.length c1, .int .i64 cap1, .int .i64 cnt1, .int .i64 cr1, .int .i64 fa1, .bool dn1] rfl rfl 30 #[.slice none 0 0, .int .i64 0, .int .i64 0, .int .i64 0, .int .i64 0, .bool false] HX32.out infoFs rfl (by simp [Value.oneCell'])) ?_
                refine hK.out _ _ ⟨blk_setRow H32.out.hf (Nat.ne_of_lt (Nat.lt_trans (Nat.lt_trans (Nat.lt_trans H32.out.hd.2.1 H32.out.hd.2.2.1) H32.out.hd.2.2.2) HGX.out)) _, blk_setRow H32.out.hl (Nat.ne_of_lt (Nat.lt_trans (Nat.lt_trans H32.out.hd.2.2.1 H32.out.hd.2.2.2) HGX.out)) _⟩ (fun hHeld => ?_)
                clear hK K
                refine pure_ (i := 12) (N := some 13) (v := ?_) (a' := ?_) #[true, true, true, true, true, true, true, true, true, true, true, true, true] rfl rfl (by kernel_rfl) (fun _ _ _ h => h) (Or.inl ⟨by rfl, ?_⟩) ?_ ?_
                rotate_left
                · intro w'
                  go_simp
                  with_reducible rfl
                rotate_left
                · simp only [Act.put, List.setIfInBounds_toArray, List.set_cons_zero, List.set_cons_succ, i64_w, i32_w]
                  rfl
                refine done_ (by kernel_rfl) ?_
                go_wp2_with fail
                go_meet
                case rel => exact ⟨gx, A1, c1, rfl, rfl, H32.out.setX HX32.out HGX.out _, heap_setRow_sameF HX32.out, HGX.out, row_keep HV32.out HX32.out _⟩
              · refine bxs ?hg (N := 12) ?hd (cs := #[.slice none 0 0, .int .i64 0, .int .i64 0, .int .i64 0, .int .i64 0, .bool false]) (t := 30) ?hr ?_; (case hd => rfl); (case hg => rfl); (case hr => first | (go_simp; done) | (go_simp; rfl))
                intro gx hg w31 hbox hb
                have H31 := Aside0.mk (H30.out.below hb)
                have HX31 := Aside0.mk hbox
                have HGX := Aside0.mk (hg ▸ blt H30.out.hm : gm < gx)
                clear hb hbox hg
                refine hK.out _ _ ⟨H31.out.hf, H31.out.hl⟩ (fun hHeld => ?_)
                clear hK K
                refine norm_ (a' := ?_) ?_ ?_
                rotate_left
                · show Act.put _ (some 12) _ = _
                  simp only [Act.put, List.setIfInBounds_toArray, List.set_cons_zero, List.set_cons_succ, i64_w, i32_w]
                  rfl
                refine one_ (i := 6) (N := some 68) #[true, true, true, true, true, true, true, false, false, false, true, false, false] rfl rfl (by kernel_rfl) (by decide) (fun K hK => ?_)
                refine call_ 17 #[.agg #[.slice A l.length c, .int .i64 cap, .int .i64 cnt, .int .i64 cr, .int .i64 fa, .bool dn], .agg #[.int .i64 1, .string nm, .string noB, .int .i64 0]] (by rfl) rfl (by go_simp) ?_
                refine (HST.out _ _ _ _ _ _ _ _ _ _ _ _ _ _ _ _ _ _ _ _ HS1.out H31.out.reads H31.out.hc).mono ?_
                rintro e w32 ⟨v, rfl, hv, hb⟩
                obtain ⟨A1, c1, rfl⟩ := Kd.R_slice hv
                have H32 := Aside0.mk (H31.out.below hb)
                have HV32 := Aside0.mk (Kd.Rlo hv H31.out.hb.size)
                have HX32 := Aside0.mk (bbe HX31.out hb)
                clear hv hb
                refine ⟨_, rfl, ?_⟩
                refine hK.out _ _ ⟨H32.out.hf, H32.out.hl⟩ (fun hHeld => ?_)
                clear hK K
                refine norm_ (a' := ?_) ?_ ?_
                rotate_left
                · show Act.put _ (some 68) _ = _
                  simp only [Act.put, List.setIfInBounds_toArray, List.set_cons_zero, List.set_cons_succ, i64_w, i32_w]
                  rfl
                refine pure_ (i := 7) (N := some 61) (v := ?_) (a' := ?_) #[true, true, true, true, true, true, true, true, false, false, true, false, false] rfl rfl (by kernel_rfl) (fun _ _ _ h => h) (Or.inl ⟨by rfl, ?_⟩) ?_ ?_
                rotate_left
                · intro w'
                  go_simp
                  with_reducible rfl
                rotate_left
                · simp only [Act.put, List.setIfInBounds_toArray, List.set_cons_zero, List.set_cons_succ, i64_w, i32_w]
                  rfl
                refine pure_ (i := 8) (N := some 69) (v := ?_) (a' := ?_) #[true, true, true, true, true, true, true, true, true, false, true, false, false] rfl rfl (by kernel_rfl) (fun _ _ _ h => h) (Or.inl ⟨by rfl, ?_⟩) ?_ ?_
                rotate_left
                · intro w'
                  go_simp
                  with_reducible rfl
                rotate_left
                · simp only [Act.put, List.setIfInBounds_toArray, List.set_cons_zero, List.set_cons_succ, i64_w, i32_w]
                  rfl
                refine pure_ (i := 9) (N := some 70) (v := ?_) (a' := ?_) #[true, true, true, true, true, true, true, true, true, true, true, false, false] rfl rfl (by kernel_rfl) (fun _ _ _ h => h) (Or.inl ⟨by rfl, ?_⟩) ?_ ?_
                rotate_left
                · intro w'
                  go_simp
                  with_reducible rfl
                rotate_left
                · simp only [Act.put, List.setIfInBounds_toArray, List.set_cons_zero, List.set_cons_succ, i64_w, i32_w]
                  rfl
                refine one_ (i := 11) (N := none) #[true, true, true, true, true, true, true, true, true, true, true, true, false] rfl rfl (by kernel_rfl) (by decide) (fun K hK => ?_)
                refine skip_ (by rfl) rfl (exec_store_row 30 (.tmp 12) (.tmp 69) rfl gx #[.slice A1 l1.length c1, .int .i64 cap1, .int .i64 cnt1, .int .i64 cr1, .int .i64 fa1, .bool dn1] rfl rfl 30 #[.slice none 0 0, .int .i64 0, .int .i64 0, .int .i64 0, .int .i64 0, .bool false] HX32.out infoFs rfl (by simp [Value.oneCell'])) ?_
                refine hK.out _ _ ⟨blk_setRow H32.out.hf (Nat.ne_of_lt (Nat.lt_trans (Nat.lt_trans (Nat.lt_trans H32.out.hd.2.1 H32.out.hd.2.2.1) H32.out.hd.2.2.2) HGX.out)) _, blk_setRow H32.out.hl (Nat.ne_of_lt (Nat.lt_trans (Nat.lt_trans H32.out.hd.2.2.1 H32.out.hd.2.2.2) HGX.out)) _⟩ (fun hHeld => ?_)
                clear hK K
                refine pure_ (i := 12) (N := some 13) (v := ?_) (a' := ?_) #[true, true, true, true, true, true, true, true, true, true, true, true, true] rfl rfl (by kernel_rfl) (fun _ _ _ h => h) (Or.inl ⟨by rfl, ?_⟩) ?_ ?_
                rotate_left
                · intro w'
                  go_simp
                  with_reducible rfl
                rotate_left
                · simp only [Act.put, List.setIfInBounds_toArray, List.set_cons_zero, List.set_cons_succ, i64_w, i32_w]
                  rfl
                refine done_ (by kernel_rfl) ?_
                go_wp2_with fail
                go_meet
                case rel => exact ⟨gx, A1, c1, rfl, rfl, H32.out.setX HX32.out HGX.out _, heap_setRow_sameF HX32.out, HGX.out, row_keep HV32.out HX32.out _⟩
            · refine bxs ?hg (N := 12) ?hd (cs := #[.slice none 0 0, .int .i64 0, .int .i64 0, .int .i64 0, .int .i64 0, .bool false]) (t := 30) ?hr ?_; (case hd => rfl); (case hg => rfl); (case hr => first | (go_simp; done) | (go_simp; rfl))
              intro gx hg w30 hbox hb
              have H30 := Aside0.mk (HD.out.below hb)
              have HX30 := Aside0.mk hbox
              have HGX := Aside0.mk (hg ▸ blt HD.out.hm : gm < gx)
              clear hb hbox hg
              refine hK.out _ _ ⟨H30.out.hf, H30.out.hl⟩ (fun hHeld => ?_)
              clear hK K
              refine norm_ (a' := ?_) ?_ ?_
              rotate_left
              · show Act.put _ (some 12) _ = _
                simp only [Act.put, List.setIfInBounds_toArray, List.set_cons_zero, List.set_cons_succ, i64_w, i32_w]
                rfl
              refine one_ (i := 4) (N := some 66) #[true, true, true, true, true, false, false, false, false, false, true, false, false] rfl rfl (by kernel_rfl) (by decide) (fun K hK => ?_)
              refine call_ 18 #[.int .i64 (last + 1)] (by rfl) rfl (by go_simp) ?_
              refine (HSG.out _ _ _ H30.out.hb HNM.out).mono ?_
              rintro e w31 ⟨rfl, hb⟩
              have H31 := Aside0.mk (H30.out.below hb)
              have HX31 := Aside0.mk (bbe HX30.out hb)
              clear hb
              refine ⟨_, rfl, ?_⟩
              refine hK.out _ _ ⟨H31.out.hf, H31.out.hl⟩ (fun hHeld => ?_)
              clear hK K
              refine norm_ (a' := ?_) ?_ ?_
              rotate_left
              · show Act.put _ (some 66) _ = _
                simp only [Act.put, List.setIfInBounds_toArray, List.set_cons_zero, List.set_cons_succ, i64_w, i32_w]
                rfl
              refine pure_ (i := 5) (N := some 67) (v := ?_) (a' := ?_) #[true, true, true, true, true, true, false, false, false, false, true, false, false] rfl rfl (by kernel_rfl) (fun _ _ _ h => h) (Or.inl ⟨by rfl, ?_⟩) ?_ ?_
              rotate_left
              · intro w'
                go_simp
                with_reducible rfl
              rotate_left
              · simp only [Act.put, List.setIfInBounds_toArray, List.set_cons_zero, List.set_cons_succ, i64_w, i32_w]
                rfl
              refine one_ (i := 6) (N := some 68) #[true, true, true, true, true, true, true, false, false, false, true, false, false] rfl rfl (by kernel_rfl) (by decide) (fun K hK => ?_)
              refine call_ 17 #[.agg #[.slice A l.length c, .int .i64 cap, .int .i64 cnt, .int .i64 cr, .int .i64 fa, .bool dn], .agg #[.int .i64 1, .string nm, .string noB, .int .i64 0]] (by rfl) rfl (by go_simp) ?_
              refine (HST.out _ _ _ _ _ _ _ _ _ _ _ _ _ _ _ _ _ _ _ _ HS1.out H31.out.reads H31.out.hc).mono ?_
              rintro e w32 ⟨v, rfl, hv, hb⟩
              obtain ⟨A1, c1, rfl⟩ := Kd.R_slice hv
              have H32 := Aside0.mk (H31.out.below hb)
              have HV32 := Aside0.mk (Kd.Rlo hv H31.out.hb.size)
              have HX32 := Aside0.mk (bbe HX31.out hb)
              clear hv hb
              refine ⟨_, rfl, ?_⟩
              refine hK.out _ _ ⟨H32.out.hf, H32.out.hl⟩ (fun hHeld => ?_)
              clear hK K
              refine norm_ (a' := ?_) ?_ ?_
              rotate_left
              · show Act.put _ (some 68) _ = _
                simp only [Act.put, List.setIfInBounds_toArray, List.set_cons_zero, List.set_cons_succ, i64_w, i32_w]
                rfl
              refine pure_ (i := 7) (N := some 61) (v := ?_) (a' := ?_) #[true, true, true, true, true, true, true, true, false, false, true, false, false] rfl rfl (by kernel_rfl) (fun _ _ _ h => h) (Or.inl ⟨by rfl, ?_⟩) ?_ ?_
              rotate_left
              · intro w'
                go_simp
                with_reducible rfl
              rotate_left
              · simp only [Act.put, List.setIfInBounds_toArray, List.set_cons_zero, List.set_cons_succ, i64_w, i32_w]
                rfl
              refine pure_ (i := 8) (N := some 69) (v := ?_) (a' := ?_) #[true, true, true, true, true, true, true, true, true, false, true, false, false] rfl rfl (by kernel_rfl) (fun _ _ _ h => h) (Or.inl ⟨by rfl, ?_⟩) ?_ ?_
              rotate_left
              · intro w'
                go_simp
                with_reducible rfl
              rotate_left
              · simp only [Act.put, List.setIfInBounds_toArray, List.set_cons_zero, List.set_cons_succ, i64_w, i32_w]
                rfl
              refine pure_ (i := 9) (N := some 70) (v := ?_) (a' := ?_) #[true, true, true, true, true, true, true, true, true, true, true, false, false] rfl rfl (by kernel_rfl) (fun _ _ _ h => h) (Or.inl ⟨by rfl, ?_⟩) ?_ ?_
              rotate_left
              · intro w'
                go_simp
                with_reducible rfl
              rotate_left
              · simp only [Act.put, List.setIfInBounds_toArray, List.set_cons_zero, List.set_cons_succ, i64_w, i32_w]
                rfl
              refine one_ (i := 11) (N := none) #[true, true, true, true, true, true, true, true, true, true, true, true, false] rfl rfl (by kernel_rfl) (by decide) (fun K hK => ?_)
              refine skip_ (by rfl) rfl (exec_store_row 30 (.tmp 12) (.tmp 69) rfl gx #[.slice A1 l1.length c1, .int .i64 cap1, .int .i64 cnt1, .int .i64 cr1, .int .i64 fa1, .bool dn1] rfl rfl 30 #[.slice none 0 0, .int .i64 0, .int .i64 0, .int .i64 0, .int .i64 0, .bool false] HX32.out infoFs rfl (by simp [Value.oneCell'])) ?_
              refine hK.out _ _ ⟨blk_setRow H32.out.hf (Nat.ne_of_lt (Nat.lt_trans (Nat.lt_trans (Nat.lt_trans H32.out.hd.2.1 H32.out.hd.2.2.1) H32.out.hd.2.2.2) HGX.out)) _, blk_setRow H32.out.hl (Nat.ne_of_lt (Nat.lt_trans (Nat.lt_trans H32.out.hd.2.2.1 H32.out.hd.2.2.2) HGX.out)) _⟩ (fun hHeld => ?_)
              clear hK K
              refine pure_ (i := 12) (N := some 13) (v := ?_) (a' := ?_) #[true, true, true, true, true, true, true, true, true, true, true, true, true] rfl rfl (by kernel_rfl) (fun _ _ _ h => h) (Or.inl ⟨by rfl, ?_⟩) ?_ ?_
              rotate_left
              · intro w'
                go_simp
                with_reducible rfl
              rotate_left
              · simp only [Act.put, List.setIfInBounds_toArray, List.set_cons_zero, List.set_cons_succ, i64_w, i32_w]
                rfl
              refine done_ (by kernel_rfl) ?_
              go_wp2_with fail
              go_meet
              case rel => exact ⟨gx, A1, c1, rfl, rfl, H32.out.setX HX32.out HGX.out _, heap_setRow_sameF HX32.out, HGX.out, row_keep HV32.out HX32.out _⟩
          case rest =>
            obtain ⟨gx, A1, c1, rfl, rfl, hH1, hX1, hgx, hV1⟩ := hcut
            have H33 := Aside0.mk hH1
            have HX33 := Aside0.mk hX1
            have HGX := Aside0.mk hgx
            have HV33 := Aside0.mk hV1
            clear hH1 hX1 hgx hV1 HH HD
            go_upto_region 9 with (first | ((with_reducible refine gds (N := 71) rfl ?_); refine wpList_load_row rfl 30 (.tmp 12) rfl gx ?hp 30 #[.slice A1 l1.length c1, .int .i64 cap1, .int .i64 cnt1, .int .i64 cr1, .int .i64 fa1, .bool dn1] (0, 0) _ ?hg Tryz.underlying30 ?ha ?hi ?_; (case hp => rfl); (case hg => exact HX33.out); (case ha => rfl); (case hi => exact infoFs)) | ((with_reducible refine gst (t := 30) (p := 4) rfl ?_); refine wpList_store_row rfl 30 (.tmp 4) (.tmp 71) rfl gf #[.slice A1 l1.length c1, .int .i64 cap1, .int .i64 cnt1, .int .i64 cr1, .int .i64 fa1, .bool dn1] ?hx ?hy 30 #[.slice A l.length c, .int .i64 cap, .int .i64 cnt, .int .i64 cr, .int .i64 fa, .bool dn] ?hg ?hi ?ho ?h1 ?_; (case hx => rfl); (case hy => rfl); (case hg => exact H33.out.hf); (case hi => exact infoFs); (case ho => rfl); (case h1 => simp [Value.oneCell'])))
            have H34 := Aside0.mk (H33.out.setF (cap' := cap1) (cnt' := cnt1) (cr' := cr1) (fa' := fa1) (dn' := dn1) HV33.out)
            have HV34 := Aside0.mk (row_keep HV33.out H33.out.hf #[.slice A1 l1.length c1, .int .i64 cap1, .int .i64 cnt1, .int .i64 cr1, .int .i64 fa1, .bool dn1])
            clear H33 HX33 HV33
            by_cases z : q1 = 0
            · have kz : (q1 != 0) = false := bne_eq_false_iff_eq.mpr z
              have hres := HR1.out
              simp only [if_pos z] at hres
              have hz34 := qz2 H34.out.hl
              have hw : wrap64 (last + 1) = last + 1 := by have h1 := HBL.out; unfold wrap64; omega
              go_wp2_with (first | ((with_reducible refine gst (t := 31) (p := 5) rfl ?_); refine wpList_store_row rfl 31 (.tmp 5) (.tmp 80) rfl gl #[.int .i64 (last + 1), .int .i64 0] ?hx ?hy 31 #[.int .i64 last, .int .i64 size] ?hg ?hi ?ho ?h1 ?_; (case hx => rfl); (case hy => rfl); (case hg => exact H34.out.hl); (case hi => exact infoLog); (case ho => rfl); (case h1 => simp [Value.oneCell'])))
              go_meet
              case rel => exact ⟨A1, c1, l1, cap1, cnt1, cr1, fa1, dn1, last + 1, 0, H34.out.setL _ _, by have h1 := HBL.out; have h2 := HNL.out; omega, by omega, hres⟩
            · have kz : (q1 != 0) = true := bne_iff_ne.mpr z
              have hres := HR1.out
              simp only [if_neg z, Option.some.injEq, Prod.mk.injEq] at hres
              obtain ⟨rfl, rfl, rfl, rfl, rfl, rfl, rfl, rfl, rfl⟩ := hres
              go_upto_region 10 with fail
              have HD := Aside0.mk (H34.out.below (bd1 (Below.refl _ _)))
              have HVD := Aside0.mk (Kd.Rbe HV34.out (bd1 (Below.refl _ _)))
              clear H34 HV34
              refine start_ (n := 6) (S := (fun w' => w'.heap[gf]? = some (.cells #[.slice A1 l1.length c1, .int .i64 cap1, .int .i64 cnt1, .int .i64 cr1, .int .i64 fa1, .bool dn1] 30 (0, 0)) ∧ w'.heap[gl]? = some (.cells #[.int .i64 last, .int .i64 size] 31 (0, 0)))) (ds := [4]) #[false, false, false, false, false, false] (by kernel_rfl) rfl rfl ⟨(HD.out.hf : _), HD.out.hl⟩ (fun hHeld => ?_)
              refine take_ (i := 0) (N := some 74) (v := .agg #[.slice A1 l1.length c1, .int .i64 cap1, .int .i64 cnt1, .int .i64 cr1, .int .i64 fa1, .bool dn1]) (a' := ?_) #[true, false, false, false, false, false] rfl rfl (by kernel_rfl) (fun _ _ _ h => h) (Or.inl ⟨by rfl, fun w' hS => exec_load_row 30 (.tmp 4) rfl gf rfl 30 #[.slice A1 l1.length c1, .int .i64 cap1, .int .i64 cnt1, .int .i64 cr1, .int .i64 fa1, .bool dn1] hS.1 Tryz.underlying30 rfl infoFs⟩) hHeld ?_ ?_
              rotate_left
              · simp only [Act.put, List.setIfInBounds_toArray, List.set_cons_zero, List.set_cons_succ, i64_w, i32_w]
                rfl
              refine take_ (i := 1) (N := some 75) (v := .agg #[.int .i64 last, .int .i64 size]) (a' := ?_) #[true, true, false, false, false, false] rfl rfl (by kernel_rfl) (fun _ _ _ h => h) (Or.inl ⟨by rfl, fun w' hS => exec_load_row 31 (.tmp 5) rfl gl rfl 31 #[.int .i64 last, .int .i64 size] hS.2 Tryz.underlying31 rfl infoLog⟩) hHeld ?_ ?_
              rotate_left
              · simp only [Act.put, List.setIfInBounds_toArray, List.set_cons_zero, List.set_cons_succ, i64_w, i32_w]
                rfl
              refine pure_ (i := 2) (N := some 76) (v := ?_) (a' := ?_) #[true, true, true, false, false, false] rfl rfl (by kernel_rfl) (fun _ _ _ h => h) (Or.inl ⟨by rfl, ?_⟩) ?_ ?_
              rotate_left
              · intro w'
                go_simp
                with_reducible rfl
              rotate_left
              · simp only [Act.put, List.setIfInBounds_toArray, List.set_cons_zero, List.set_cons_succ, i64_w, i32_w]
                rfl
              refine one_ (i := 3) (N := none) #[true, true, true, true, false, false] rfl rfl (by kernel_rfl) (by decide) (fun K hK => ?_)
              refine skip_ (by rfl) rfl (exec_store_row 30 (.tmp 8) (.tmp 74) rfl gr #[.slice A1 l1.length c1, .int .i64 cap1, .int .i64 cnt1, .int .i64 cr1, .int .i64 fa1, .bool dn1] rfl rfl 30 #[.slice none 0 0, .int .i64 0, .int .i64 0, .int .i64 0, .int .i64 0, .bool false] HD.out.hr infoFs rfl (by simp [Value.oneCell'])) ?_
              refine hK.out _ _ ⟨blk_setRow (HD.out.hf) (Nat.ne_of_lt (Nat.lt_trans HD.out.hd.2.1 HD.out.hd.2.2.1)) _, blk_setRow HD.out.hl (Nat.ne_of_lt HD.out.hd.2.2.1) _⟩ (fun hHeld => ?_)
              clear hK K
              refine last_ (i := 4) (N := none) #[true, true, true, true, true, false] rfl rfl (by kernel_rfl) (by decide) (fun K hK => ?_)
              refine skip_ (by rfl) rfl (exec_store_row 31 (.tmp 9) (.tmp 75) rfl gm #[.int .i64 last, .int .i64 size] rfl rfl 31 #[.int .i64 0, .int .i64 0] (blk_setRow HD.out.hm (Nat.ne_of_gt HD.out.hd.2.2.2) _) infoLog rfl (by simp [Value.oneCell'])) ?_
              refine hK.out _ _ ?_
              clear hK K
              refine pure_ (i := 5) (N := some 10) (v := ?_) (a' := ?_) #[true, true, true, true, true, true] rfl rfl (by kernel_rfl) (fun _ _ _ h => h) (Or.inl ⟨by rfl, ?_⟩) ?_ ?_
              rotate_left
              · intro w'
                go_simp
                with_reducible rfl
              rotate_left
              · simp only [Act.put, List.setIfInBounds_toArray, List.set_cons_zero, List.set_cons_succ, i64_w, i32_w]
                rfl
              refine done_ (by kernel_rfl) ?_
              go_wp2
              have E := AeSt.ends (cs := #[.slice A1 l1.length c1, .int .i64 cap1, .int .i64 cnt1, .int .i64 cr1, .int .i64 fa1, .bool dn1]) HD.out HVD.out (#[.int .i64 last, .int .i64 size])
              refine bodyPost_ret (results_cct rfl _ _ gr gm 30 31 #[.slice A1 l1.length c1, .int .i64 cap1, .int .i64 cnt1, .int .i64 cr1, .int .i64 fa1, .bool dn1] (#[.int .i64 last, .int .i64 size]) (0, 0) (0, 0) _ _ rfl E.1 Tryz.underlying30 rfl infoFs rfl E.2.1 Tryz.underlying31 rfl infoLog) rfl ⟨_, rfl, E.2.2.1, E.2.2.2⟩
      | false =>
        have roll := of_decide_eq_false HRB.out
        rw [if_neg roll] at hres
        go_wp2_with fail
        go_meet
        case rel => exact ⟨A, c, l, cap, cnt, cr, fa, dn, last, size, HH.out, HBL.out, HBS.out, hres⟩
    case rest =>
      clear HH HRES HRB HBL HBS
      obtain ⟨A, c, l, cap, cnt, cr, fa, dn, last, size, hH, hbl, hbs, ht⟩ := hcut
      have HH := Aside0.mk hH
      have HBS := Aside0.mk hbs
      clear hH hbl hbs
      unfold apTail at ht
      replace ht := Option.bind_eq_some_iff.mp ht
      obtain ⟨nm, hnm, ht⟩ := ht
      replace ht := Option.bind_eq_some_iff.mp ht
      obtain ⟨⟨l1, cap1, cnt1, cr1, fa1, dn1, q1⟩, hst1, ht⟩ := ht
      have HNM := Aside0.mk hnm
      have HS1 := Aside0.mk hst1
      have HT := Aside0.mk ht
      clear hnm hst1 ht
      have hz19 := qz2 HH.out.hl
      go_upto_region 14 with (first | (go_at_call 18; (with_reducible refine (HSG.out _ _ _ HH.out.hb HNM.out).mono ?_); rintro e w20 ⟨rfl, hb⟩; have H20 := Aside0.mk (HH.out.below hb); clear hb hz19) | ((with_reducible refine gds (N := 85) rfl ?_); refine wpList_load_row rfl 30 (.tmp 4) rfl gf ?hp 30 #[.slice A l.length c, .int .i64 cap, .int .i64 cnt, .int .i64 cr, .int .i64 fa, .bool dn] (0, 0) _ ?hg Tryz.underlying30 ?ha ?hi ?_; (case hp => rfl); (case hg => exact H20.out.hf); (case ha => rfl); (case hi => exact infoFs)) | (go_at_call 17; (with_reducible refine (HST.out _ _ _ _ _ _ _ _ _ _ _ _ _ _ _ _ _ _ _ _ HS1.out H20.out.reads H20.out.hc).mono ?_); rintro e w21 ⟨v, rfl, hv, hb⟩; obtain ⟨A1, c1, rfl⟩ := Kd.R_slice hv; have H21 := Aside0.mk (H20.out.below hb); have HV21 := Aside0.mk (Kd.Rlo hv H20.out.hb.size); clear hv hb) | ((with_reducible refine gds (N := 15) rfl ?_); refine qbx 15 #[.slice none 0 0, .int .i64 0, .int .i64 0, .int .i64 0, .int .i64 0, .bool false] 30 ?_; intro gx hg w22 hbox hb; have H22 := Aside0.mk (H21.out.below hb); have HX22 := Aside0.mk hbox; have HGX22 := Aside0.mk (hg ▸ blt H21.out.hm : gm < gx); have HV22 := Aside0.mk (Kd.Rbe HV21.out hb); clear hb hbox hg) | ((with_reducible refine gst (t := 30) (p := 15) rfl ?_); refine wpList_store_row rfl 30 (.tmp 15) (.tmp 90) rfl gx #[.slice A1 l1.length c1, .int .i64 cap1, .int .i64 cnt1, .int .i64 cr1, .int .i64 fa1, .bool dn1] ?hx ?hy 30 #[.slice none 0 0, .int .i64 0, .int .i64 0, .int .i64 0, .int .i64 0, .bool false] ?hg ?hi ?ho ?h1 ?_; (case hx => rfl); (case hy => rfl); (case hg => exact HX22.out); (case hi => exact infoFs); (case ho => rfl); (case h1 => simp [Value.oneCell'])))
      have H23 := Aside0.mk (H22.out.setX HX22.out HGX22.out #[.slice A1 l1.length c1, .int .i64 cap1, .int .i64 cnt1, .int .i64 cr1, .int .i64 fa1, .bool dn1])
      have HX23 := Aside0.mk (heap_setRow_sameF (cs' := #[.slice A1 l1.length c1, .int .i64 cap1, .int .i64 cnt1, .int .i64 cr1, .int .i64 fa1, .bool dn1]) HX22.out)
      have HV23 := Aside0.mk (row_keep HV22.out HX22.out #[.slice A1 l1.length c1, .int .i64 cap1, .int .i64 cnt1, .int .i64 cr1, .int .i64 fa1, .bool dn1])
      generalize w22.setRow gx #[.slice A1 l1.length c1, .int .i64 cap1, .int .i64 cnt1, .int .i64 cr1, .int .i64 fa1, .bool dn1] = w23 at H23 HX23 HV23 ⊢
      clear HH H20 H21 H22 HX22 HV21 HV22
      go_upto_if 93 with fail
      go_cut [16] from 19 (fun s16 W => ∃ (A3 : Option Addr) (c3 : Nat) (l3 : List FileT) (cap3 cnt3 cr3 fa3 : Int) (dn3 : Bool) (q : Int), s16 = .int .i64 q ∧ AeSt w W gf gl gr gm A c l cap cnt cr fa dn last size ∧ W.heap[gx]? = some (.cells #[.slice A3 l3.length c3, .int .i64 cap3, .int .i64 cnt3, .int .i64 cr3, .int .i64 fa3, .bool dn3] 30 (0, 0)) ∧ Kd.R FileK 61 W w.heap.size (fun _ => True) (.slice A3 l3.length c3) l3 ∧ apFin st nm f.size l3 cap3 cnt3 cr3 fa3 dn3 last size q = some (l', cap', cnt', cr', fa', dn', last', size', code'))
      case first =>
        have ht := HT.out
        by_cases z : q1 = 0
        · have kz : (q1 == 0) = true := beq_iff_eq.mpr z
          simp only [if_pos z] at ht
          replace ht := Option.bind_eq_some_iff.mp ht
          obtain ⟨⟨l2, cap2, cnt2, cr2, fa2, dn2, q2⟩, hst2, ht⟩ := ht
          have HS2 := Aside0.mk hst2
          have HT2 := Aside0.mk ht
          clear hst2 ht
          go_wp2_with (first | ((with_reducible refine gds (N := 95) rfl ?_); refine wpList_load_row rfl 30 (.tmp 15) rfl gx ?hp 30 #[.slice A1 l1.length c1, .int .i64 cap1, .int .i64 cnt1, .int .i64 cr1, .int .i64 fa1, .bool dn1] (0, 0) _ ?hg Tryz.underlying30 ?ha ?hi ?_; (case hp => rfl); (case hg => exact HX23.out); (case ha => rfl); (case hi => exact infoFs)) | (go_at_call 17; (with_reducible refine (HST.out _ _ _ _ _ _ _ _ _ _ _ _ _ _ _ _ _ _ _ _ HS2.out (Kd.R_reads' HV23.out).2.2 (Kd.R_reads' HV23.out).2.1).mono ?_); rintro e w24 ⟨v, rfl, hv, hb⟩; obtain ⟨A2, c2, rfl⟩ := Kd.R_slice hv; have H24 := Aside0.mk (H23.out.below hb); have HV24 := Aside0.mk (Kd.Rlo hv H23.out.hb.size); have HX24 := Aside0.mk (bbe HX23.out hb); clear hv hb) | ((with_reducible refine gst (t := 30) (p := 15) rfl ?_); refine wpList_store_row rfl 30 (.tmp 15) (.tmp 99) rfl gx #[.slice A2 l2.length c2, .int .i64 cap2, .int .i64 cnt2, .int .i64 cr2, .int .i64 fa2, .bool dn2] ?hx ?hy 30 #[.slice A1 l1.length c1, .int .i64 cap1, .int .i64 cnt1, .int .i64 cr1, .int .i64 fa1, .bool dn1] ?hg ?hi ?ho ?h1 ?_; (case hx => rfl); (case hy => rfl); (case hg => exact HX24.out); (case hi => exact infoFs); (case ho => rfl); (case h1 => simp [Value.oneCell'])))
          go_meet
          case rel => exact ⟨A2, c2, l2, cap2, cnt2, cr2, fa2, dn2, q2, rfl, H24.out.setX HX24.out HGX22.out _, heap_setRow_sameF HX24.out, row_keep HV24.out HX24.out _, HT2.out⟩
        · have kz : (q1 == 0) = false := beq_eq_false_iff_ne.mpr z
          simp only [if_neg z] at ht
          go_wp2_with fail
          go_meet
          case rel => exact ⟨A1, c1, l1, cap1, cnt1, cr1, fa1, dn1, q1, rfl, H23.out, HX23.out, HV23.out, ht⟩
      case rest =>
        clear H23 HX23 HV23 HT
        obtain ⟨A3, c3, l3, cap3, cnt3, cr3, fa3, dn3, q, rfl, hH, hX, hV, ht⟩ := hcut
        have H40 := Aside0.mk hH
        have HX40 := Aside0.mk hX
        have HV40 := Aside0.mk hV
        clear hH hX hV
        unfold apFin at ht
        by_cases z : q = 0
        · have kz : (q == 0) = true := beq_iff_eq.mpr z
          simp only [if_pos z, Option.some.injEq, Prod.mk.injEq] at ht
          obtain ⟨rfl, rfl, rfl, rfl, rfl, rfl, rfl, rfl, rfl⟩ := ht
          subst z
          have hz40 := qz2 H40.out.hl
          have hw : wrap64 (size + (f.size : Int)) = size + (f.size : Int) := by have h1 := HBS.out; have h2 := HBF.out; unfold wrap64; omega
          go_upto_region 18 with fail
          have H41 := Aside0.mk (H40.out.setS (size + (f.size : Int)))
          have HX41 := Aside0.mk (bfa (p := ⟨gl, 1, none⟩) HX40.out (Nat.ne_of_gt (Nat.lt_trans (Nat.lt_trans H40.out.hd.2.2.1 H40.out.hd.2.2.2) HGX22.out) : gx ≠ gl) (.int .i64 (size + (f.size : Int))))
          have HV41 := Aside0.mk (Kd.Rmo (Kd.Rfa (p := ⟨gl, 1, none⟩) (Kd.Rty HV40.out H40.out.hl (by decide)) (fun k hk => hk.2) (.int .i64 (size + (f.size : Int)))) (fun _ _ => trivial))
          generalize wc.setCell ⟨gl, 1, none⟩ (.int .i64 (size + (f.size : Int))) = w41 at H41 HX41 HV41 ⊢
          have HD := Aside0.mk (H41.out.below (bd1 (Below.refl _ _)))
          have HXD := Aside0.mk (bbe HX41.out (bd1 (Below.refl _ _)))
          have HVD := Aside0.mk (Kd.Rbe HV41.out (bd1 (Below.refl _ _)))
          clear H40 HX40 HV40 H41 HX41 HV41 hz40 hw
          refine start_ (n := 6) (S := (fun w' => w'.heap[gx]? = some (.cells #[.slice A3 l3.length c3, .int .i64 cap3, .int .i64 cnt3, .int .i64 cr3, .int .i64 fa3, .bool dn3] 30 (0, 0)) ∧ w'.heap[gl]? = some (.cells #[.int .i64 last, .int .i64 (size + (f.size : Int))] 31 (0, 0)))) (ds := [4]) #[false, false, false, false, false, false] (by kernel_rfl) rfl rfl ⟨(HXD.out : _), HD.out.hl⟩ (fun hHeld => ?_)
          refine take_ (i := 0) (N := some 109) (v := .agg #[.slice A3 l3.length c3, .int .i64 cap3, .int .i64 cnt3, .int .i64 cr3, .int .i64 fa3, .bool dn3]) (a' := ?_) #[true, false, false, false, false, false] rfl rfl (by kernel_rfl) (fun _ _ _ h => h) (Or.inl ⟨by rfl, fun w' hS => exec_load_row 30 (.tmp 15) rfl gx rfl 30 #[.slice A3 l3.length c3, .int .i64 cap3, .int .i64 cnt3, .int .i64 cr3, .int .i64 fa3, .bool dn3] hS.1 Tryz.underlying30 rfl infoFs⟩) hHeld ?_ ?_
          rotate_left
          · simp only [Act.put, List.setIfInBounds_toArray, List.set_cons_zero, List.set_cons_succ, i64_w, i32_w]
            rfl
          refine take_ (i := 1) (N := some 110) (v := .agg #[.int .i64 last, .int .i64 (size + (f.size : Int))]) (a' := ?_) #[true, true, false, false, false, false] rfl rfl (by kernel_rfl) (fun _ _ _ h => h) (Or.inl ⟨by rfl, fun w' hS => exec_load_row 31 (.tmp 5) rfl gl rfl 31 #[.int .i64 last, .int .i64 (size + (f.size : Int))] hS.2 Tryz.underlying31 rfl infoLog⟩) hHeld ?_ ?_
          rotate_left
          · simp only [Act.put, List.setIfInBounds_toArray, List.set_cons_zero, List.set_cons_succ, i64_w, i32_w]
            rfl
          refine pure_ (i := 2) (N := some 111) (v := ?_) (a' := ?_) #[true, true, true, false, false, false] rfl rfl (by kernel_rfl) (fun _ _ _ h => h) (Or.inl ⟨by rfl, ?_⟩) ?_ ?_
          rotate_left
          · intro w'
            go_simp
            with_reducible rfl
          rotate_left
          · simp only [Act.put, List.setIfInBounds_toArray, List.set_cons_zero, List.set_cons_succ, i64_w, i32_w]
            rfl
          refine one_ (i := 3) (N := none) #[true, true, true, true, false, false] rfl rfl (by kernel_rfl) (by decide) (fun K hK => ?_)
          refine skip_ (by rfl) rfl (exec_store_row 30 (.tmp 8) (.tmp 109) rfl gr #[.slice A3 l3.length c3, .int .i64 cap3, .int .i64 cnt3, .int .i64 cr3, .int .i64 fa3, .bool dn3] rfl rfl 30 #[.slice none 0 0, .int .i64 0, .int .i64 0, .int .i64 0, .int .i64 0, .bool false] HD.out.hr infoFs rfl (by simp [Value.oneCell'])) ?_
          refine hK.out _ _ ⟨blk_setRow (HXD.out) (Nat.ne_of_gt (Nat.lt_trans HD.out.hd.2.2.2 HGX22.out)) _, blk_setRow HD.out.hl (Nat.ne_of_lt HD.out.hd.2.2.1) _⟩ (fun hHeld => ?_)
          clear hK K
          refine last_ (i := 4) (N := none) #[true, true, true, true, true, false] rfl rfl (by kernel_rfl) (by decide) (fun K hK => ?_)
          refine skip_ (by rfl) rfl (exec_store_row 31 (.tmp 9) (.tmp 110) rfl gm #[.int .i64 last, .int .i64 (size + (f.size : Int))] rfl rfl 31 #[.int .i64 0, .int .i64 0] (blk_setRow HD.out.hm (Nat.ne_of_gt HD.out.hd.2.2.2) _) infoLog rfl (by simp [Value.oneCell'])) ?_
          refine hK.out _ _ ?_
          clear hK K
          refine pure_ (i := 5) (N := some 10) (v := ?_) (a' := ?_) #[true, true, true, true, true, true] rfl rfl (by kernel_rfl) (fun _ _ _ h => h) (Or.inl ⟨by rfl, ?_⟩) ?_ ?_
          rotate_left
          · intro w'
            go_simp
            with_reducible rfl
          rotate_left
          · simp only [Act.put, List.setIfInBounds_toArray, List.set_cons_zero, List.set_cons_succ, i64_w, i32_w]
            rfl
          refine done_ (by kernel_rfl) ?_
          go_wp2
          have E := AeSt.ends (cs := #[.slice A3 l3.length c3, .int .i64 cap3, .int .i64 cnt3, .int .i64 cr3, .int .i64 fa3, .bool dn3]) HD.out HVD.out (#[.int .i64 last, .int .i64 (size + (f.size : Int))])
          refine bodyPost_ret (results_cct rfl _ _ gr gm 30 31 #[.slice A3 l3.length c3, .int .i64 cap3, .int .i64 cnt3, .int .i64 cr3, .int .i64 fa3, .bool dn3] (#[.int .i64 last, .int .i64 (size + (f.size : Int))]) (0, 0) (0, 0) _ _ rfl E.1 Tryz.underlying30 rfl infoFs rfl E.2.1 Tryz.underlying31 rfl infoLog) rfl ⟨_, rfl, E.2.2.1, E.2.2.2⟩
        · have kz : (q == 0) = false := beq_eq_false_iff_ne.mpr z
          rw [if_neg z] at ht
          by_cases z1 : q = 11 ∨ q = 16
          · simp only [if_pos z1, Option.some.injEq, Prod.mk.injEq] at ht
            obtain ⟨rfl, rfl, rfl, rfl, rfl, rfl, rfl, rfl, rfl⟩ := ht
            have HD := Aside0.mk (H40.out.below (bd1 (Below.refl _ _)))
            have HXD := Aside0.mk (bbe HX40.out (bd1 (Below.refl _ _)))
            have HVD := Aside0.mk (Kd.Rbe HV40.out (bd1 (Below.refl _ _)))
            clear H40 HX40 HV40
            have key : (q == 11) = true ∨ ((q == 11) = false ∧ (q == 16) = true) := by
              by_cases e : q = 11
              · exact .inl (beq_iff_eq.mpr e)
              · exact .inr ⟨beq_eq_false_iff_ne.mpr e, beq_iff_eq.mpr (z1.resolve_left e)⟩
            clear z z1
            rcases key with k1 | ⟨k1, k2⟩
            all_goals
              go_upto_region 20 with fail
              clear kz
              refine start_ (n := 6) (S := (fun w' => w'.heap[gx]? = some (.cells #[.slice A3 l3.length c3, .int .i64 cap3, .int .i64 cnt3, .int .i64 cr3, .int .i64 fa3, .bool dn3] 30 (0, 0)) ∧ w'.heap[gl]? = some (.cells #[.int .i64 last, .int .i64 size] 31 (0, 0)))) (ds := [4]) #[false, false, false, false, false, false] (by kernel_rfl) rfl rfl ⟨(HXD.out : _), HD.out.hl⟩ (fun hHeld => ?_)
              refine take_ (i := 0) (N := some 118) (v := .agg #[.slice A3 l3.length c3, .int .i64 cap3, .int .i64 cnt3, .int .i64 cr3, .int .i64 fa3, .bool dn3]) (a' := ?_) #[true, false, false, false, false, false] rfl rfl (by kernel_rfl) (fun _ _ _ h => h) (Or.inl ⟨by rfl, fun w' hS => exec_load_row 30 (.tmp 15) rfl gx rfl 30 #[.slice A3 l3.length c3, .int .i64 cap3, .int .i64 cnt3, .int .i64 cr3, .int .i64 fa3, .bool dn3] hS.1 Tryz.underlying30 rfl infoFs⟩) hHeld ?_ ?_
              rotate_left
              · simp only [Act.put, List.setIfInBounds_toArray, List.set_cons_zero, List.set_cons_succ, i64_w, i32_w]
                rfl
              refine take_ (i := 1) (N := some 119) (v := .agg #[.int .i64 last, .int .i64 size]) (a' := ?_) #[true, true, false, false, false, false] rfl rfl (by kernel_rfl) (fun _ _ _ h => h) (Or.inl ⟨by rfl, fun w' hS => exec_load_row 31 (.tmp 5) rfl gl rfl 31 #[.int .i64 last, .int .i64 size] hS.2 Tryz.underlying31 rfl infoLog⟩) hHeld ?_ ?_
              rotate_left
              · simp only [Act.put, List.setIfInBounds_toArray, List.set_cons_zero, List.set_cons_succ, i64_w, i32_w]
                rfl
              refine pure_ (i := 2) (N := some 120) (v := ?_) (a' := ?_) #[true, true, true, false, false, false] rfl rfl (by kernel_rfl) (fun _ _ _ h => h) (Or.inl ⟨by rfl, ?_⟩) ?_ ?_
              rotate_left
              · intro w'
                go_simp
                with_reducible rfl
              rotate_left
              · simp only [Act.put, List.setIfInBounds_toArray, List.set_cons_zero, List.set_cons_succ, i64_w, i32_w]
                rfl
              refine one_ (i := 3) (N := none) #[true, true, true, true, false, false] rfl rfl (by kernel_rfl) (by decide) (fun K hK => ?_)
              refine skip_ (by rfl) rfl (exec_store_row 30 (.tmp 8) (.tmp 118) rfl gr #[.slice A3 l3.length c3, .int .i64 cap3, .int .i64 cnt3, .int .i64 cr3, .int .i64 fa3, .bool dn3] rfl rfl 30 #[.slice none 0 0, .int .i64 0, .int .i64 0, .int .i64 0, .int .i64 0, .bool false] HD.out.hr infoFs rfl (by simp [Value.oneCell'])) ?_
              refine hK.out _ _ ⟨blk_setRow (HXD.out) (Nat.ne_of_gt (Nat.lt_trans HD.out.hd.2.2.2 HGX22.out)) _, blk_setRow HD.out.hl (Nat.ne_of_lt HD.out.hd.2.2.1) _⟩ (fun hHeld => ?_)
              clear hK K
              refine last_ (i := 4) (N := none) #[true, true, true, true, true, false] rfl rfl (by kernel_rfl) (by decide) (fun K hK => ?_)
              refine skip_ (by rfl) rfl (exec_store_row 31 (.tmp 9) (.tmp 119) rfl gm #[.int .i64 last, .int .i64 size] rfl rfl 31 #[.int .i64 0, .int .i64 0] (blk_setRow HD.out.hm (Nat.ne_of_gt HD.out.hd.2.2.2) _) infoLog rfl (by simp [Value.oneCell'])) ?_
              refine hK.out _ _ ?_
              clear hK K
              refine pure_ (i := 5) (N := some 10) (v := ?_) (a' := ?_) #[true, true, true, true, true, true] rfl rfl (by kernel_rfl) (fun _ _ _ h => h) (Or.inl ⟨by rfl, ?_⟩) ?_ ?_
              rotate_left
              · intro w'
                go_simp
                with_reducible rfl
              rotate_left
              · simp only [Act.put, List.setIfInBounds_toArray, List.set_cons_zero, List.set_cons_succ, i64_w, i32_w]
                rfl
              refine done_ (by kernel_rfl) ?_
              go_wp2
              have E := AeSt.ends (cs := #[.slice A3 l3.length c3, .int .i64 cap3, .int .i64 cnt3, .int .i64 cr3, .int .i64 fa3, .bool dn3]) HD.out HVD.out (#[.int .i64 last, .int .i64 size])
              refine bodyPost_ret (results_cct rfl _ _ gr gm 30 31 #[.slice A3 l3.length c3, .int .i64 cap3, .int .i64 cnt3, .int .i64 cr3, .int .i64 fa3, .bool dn3] (#[.int .i64 last, .int .i64 size]) (0, 0) (0, 0) _ _ rfl E.1 Tryz.underlying30 rfl infoFs rfl E.2.1 Tryz.underlying31 rfl infoLog) rfl ⟨_, rfl, E.2.2.1, E.2.2.2⟩
          · have k1 : (q == 11) = false := beq_eq_false_iff_ne.mpr fun e => z1 (.inl e)
            have k2 : (q == 16) = false := beq_eq_false_iff_ne.mpr fun e => z1 (.inr e)
            rw [if_neg z1] at ht
            replace ht := Option.bind_eq_some_iff.mp ht
            obtain ⟨⟨l5, cap5, cnt5, cr5, fa5, dn5, q5⟩, hst5, ht⟩ := ht
            have HS5 := Aside0.mk hst5
            simp only [Option.some.injEq, Prod.mk.injEq] at ht
            obtain ⟨rfl, rfl, rfl, rfl, rfl, rfl, rfl, rfl, hcode⟩ := ht
            have HCD := Aside0.mk hcode
            clear hst5 hcode z z1
            have hz40 := qz2 H40.out.hl
            go_upto_region 22 with (first | ((with_reducible refine gds (N := 122) rfl ?_); refine wpList_load_row rfl 30 (.tmp 15) rfl gx ?hp 30 #[.slice A3 l3.length c3, .int .i64 cap3, .int .i64 cnt3, .int .i64 cr3, .int .i64 fa3, .bool dn3] (0, 0) _ ?hg Tryz.underlying30 ?ha ?hi ?_; (case hp => rfl); (case hg => exact HX40.out); (case ha => rfl); (case hi => exact infoFs)) | (go_at_call 17; (with_reducible refine (HST.out _ _ _ _ _ _ _ _ _ _ _ _ _ _ _ _ _ _ _ _ HS5.out (Kd.R_reads' HV40.out).2.2 (Kd.R_reads' HV40.out).2.1).mono ?_); rintro e w42 ⟨v, rfl, hv, hb⟩; obtain ⟨A5, c5, rfl⟩ := Kd.R_slice hv; have H42 := Aside0.mk (H40.out.below hb); have HV42 := Aside0.mk (Kd.Rlo hv H40.out.hb.size); clear hv hb) | ((with_reducible refine gds (N := 17) rfl ?_); refine qbx 17 #[.slice none 0 0, .int .i64 0, .int .i64 0, .int .i64 0, .int .i64 0, .bool false] 30 ?_; intro gy hg w43 hbox hb; have H43 := Aside0.mk (H42.out.below hb); have HX43 := Aside0.mk hbox; have HGX43 := Aside0.mk (hg ▸ blt H42.out.hm : gm < gy); have HV43 := Aside0.mk (Kd.Rbe HV42.out hb); clear hb hbox hg) | ((with_reducible refine gst (t := 30) (p := 17) rfl ?_); refine wpList_store_row rfl 30 (.tmp 17) (.tmp 128) rfl gy #[.slice A5 l5.length c5, .int .i64 cap5, .int .i64 cnt5, .int .i64 cr5, .int .i64 fa5, .bool dn5] ?hx ?hy 30 #[.slice none 0 0, .int .i64 0, .int .i64 0, .int .i64 0, .int .i64 0, .bool false] ?hg ?hi ?ho ?h1 ?_; (case hx => rfl); (case hy => rfl); (case hg => exact HX43.out); (case hi => exact infoFs); (case ho => rfl); (case h1 => simp [Value.oneCell'])))
            have H44 := Aside0.mk (H43.out.setX HX43.out HGX43.out #[.slice A5 l5.length c5, .int .i64 cap5, .int .i64 cnt5, .int .i64 cr5, .int .i64 fa5, .bool dn5])
            have HX44 := Aside0.mk (heap_setRow_sameF (cs' := #[.slice A5 l5.length c5, .int .i64 cap5, .int .i64 cnt5, .int .i64 cr5, .int .i64 fa5, .bool dn5]) HX43.out)
            have HV44 := Aside0.mk (row_keep HV43.out HX43.out #[.slice A5 l5.length c5, .int .i64 cap5, .int .i64 cnt5, .int .i64 cr5, .int .i64 fa5, .bool dn5])
            generalize w43.setRow gy #[.slice A5 l5.length c5, .int .i64 cap5, .int .i64 cnt5, .int .i64 cr5, .int .i64 fa5, .bool dn5] = w44 at H44 HX44 HV44 ⊢
            have HD := Aside0.mk (H44.out.below (bd1 (Below.refl _ _)))
            have HXD := Aside0.mk (bbe HX44.out (bd1 (Below.refl _ _)))
            have HVD := Aside0.mk (Kd.Rbe HV44.out (bd1 (Below.refl _ _)))
            clear H40 HX40 HV40 H42 HV42 H43 HX43 HV43 H44 HX44 HV44 hz40 kz k1 k2
            by_cases y0 : q5 = 0
            · obtain rfl : q = code' := by have := HCD.out; rw [if_pos y0] at this; exact this
              have k5 : (q5 == 0) = true := beq_iff_eq.mpr y0
              go_upto_region 24 with fail
              refine start_ (n := 6) (S := (fun w' => w'.heap[gy]? = some (.cells #[.slice A5 l5.length c5, .int .i64 cap5, .int .i64 cnt5, .int .i64 cr5, .int .i64 fa5, .bool dn5] 30 (0, 0)) ∧ w'.heap[gl]? = some (.cells #[.int .i64 last, .int .i64 size] 31 (0, 0)))) (ds := [4]) #[false, false, false, false, false, false] (by kernel_rfl) rfl rfl ⟨(HXD.out : _), HD.out.hl⟩ (fun hHeld => ?_)
              refine take_ (i := 0) (N := some 133) (v := .agg #[.slice A5 l5.length c5, .int .i64 cap5, .int .i64 cnt5, .int .i64 cr5, .int .i64 fa5, .bool dn5]) (a' := ?_) #[true, false, false, false, false, false] rfl rfl (by kernel_rfl) (fun _ _ _ h => h) (Or.inl ⟨by rfl, fun w' hS => exec_load_row 30 (.tmp 17) rfl gy rfl 30 #[.slice A5 l5.length c5, .int .i64 cap5, .int .i64 cnt5, .int .i64 cr5, .int .i64 fa5, .bool dn5] hS.1 Tryz.underlying30 rfl infoFs⟩) hHeld ?_ ?_
              rotate_left
              · simp only [Act.put, List.setIfInBounds_toArray, List.set_cons_zero, List.set_cons_succ, i64_w, i32_w]
                rfl
              refine take_ (i := 1) (N := some 134) (v := .agg #[.int .i64 last, .int .i64 size]) (a' := ?_) #[true, true, false, false, false, false] rfl rfl (by kernel_rfl) (fun _ _ _ h => h) (Or.inl ⟨by rfl, fun w' hS => exec_load_row 31 (.tmp 5) rfl gl rfl 31 #[.int .i64 last, .int .i64 size] hS.2 Tryz.underlying31 rfl infoLog⟩) hHeld ?_ ?_
              rotate_left
              · simp only [Act.put, List.setIfInBounds_toArray, List.set_cons_zero, List.set_cons_succ, i64_w, i32_w]
                rfl
              refine pure_ (i := 2) (N := some 135) (v := ?_) (a' := ?_) #[true, true, true, false, false, false] rfl rfl (by kernel_rfl) (fun _ _ _ h => h) (Or.inl ⟨by rfl, ?_⟩) ?_ ?_
              rotate_left
              · intro w'
                go_simp
                with_reducible rfl
              rotate_left
              · simp only [Act.put, List.setIfInBounds_toArray, List.set_cons_zero, List.set_cons_succ, i64_w, i32_w]
                rfl
              refine one_ (i := 3) (N := none) #[true, true, true, true, false, false] rfl rfl (by kernel_rfl) (by decide) (fun K hK => ?_)
              refine skip_ (by rfl) rfl (exec_store_row 30 (.tmp 8) (.tmp 133) rfl gr #[.slice A5 l5.length c5, .int .i64 cap5, .int .i64 cnt5, .int .i64 cr5, .int .i64 fa5, .bool dn5] rfl rfl 30 #[.slice none 0 0, .int .i64 0, .int .i64 0, .int .i64 0, .int .i64 0, .bool false] HD.out.hr infoFs rfl (by simp [Value.oneCell'])) ?_
              refine hK.out _ _ ⟨blk_setRow (HXD.out) (Nat.ne_of_gt (Nat.lt_trans HD.out.hd.2.2.2 HGX43.out)) _, blk_setRow HD.out.hl (Nat.ne_of_lt HD.out.hd.2.2.1) _⟩ (fun hHeld => ?_)
              clear hK K
              refine last_ (i := 4) (N := none) #[true, true, true, true, true, false] rfl rfl (by kernel_rfl) (by decide) (fun K hK => ?_)
              refine skip_ (by rfl) rfl (exec_store_row 31 (.tmp 9) (.tmp 134) rfl gm #[.int .i64 last, .int .i64 size] rfl rfl 31 #[.int .i64 0, .int .i64 0] (blk_setRow HD.out.hm (Nat.ne_of_gt HD.out.hd.2.2.2) _) infoLog rfl (by simp [Value.oneCell'])) ?_
              refine hK.out _ _ ?_
              clear hK K
              refine pure_ (i := 5) (N := some 10) (v := ?_) (a' := ?_) #[true, true, true, true, true, true] rfl rfl (by kernel_rfl) (fun _ _ _ h => h) (Or.inl ⟨by rfl, ?_⟩) ?_ ?_
              rotate_left
              · intro w'
                go_simp
                with_reducible rfl
              rotate_left
              · simp only [Act.put, List.setIfInBounds_toArray, List.set_cons_zero, List.set_cons_succ, i64_w, i32_w]
                rfl
              refine done_ (by kernel_rfl) ?_
              go_wp2
              have E := AeSt.ends (cs := #[.slice A5 l5.length c5, .int .i64 cap5, .int .i64 cnt5, .int .i64 cr5, .int .i64 fa5, .bool dn5]) HD.out HVD.out (#[.int .i64 last, .int .i64 size])
              refine bodyPost_ret (results_cct rfl _ _ gr gm 30 31 #[.slice A5 l5.length c5, .int .i64 cap5, .int .i64 cnt5, .int .i64 cr5, .int .i64 fa5, .bool dn5] (#[.int .i64 last, .int .i64 size]) (0, 0) (0, 0) _ _ rfl E.1 Tryz.underlying30 rfl infoFs rfl E.2.1 Tryz.underlying31 rfl infoLog) rfl ⟨_, rfl, E.2.2.1, E.2.2.2⟩
            · have k5 : (q5 == 0) = false := beq_eq_false_iff_ne.mpr y0
              by_cases y1 : q5 = 11
              · obtain rfl : 11 = code' := by have := HCD.out; rw [if_neg y0, if_pos y1] at this; exact this
                have k6 : (q5 == 11) = true := beq_iff_eq.mpr y1
                go_upto_region 26 with fail
                refine start_ (n := 5) (S := (fun w' => w'.heap[gy]? = some (.cells #[.slice A5 l5.length c5, .int .i64 cap5, .int .i64 cnt5, .int .i64 cr5, .int .i64 fa5, .bool dn5] 30 (0, 0)) ∧ w'.heap[gl]? = some (.cells #[.int .i64 last, .int .i64 size] 31 (0, 0)))) (ds := [3]) #[false, false, false, false, false] (by kernel_rfl) rfl rfl ⟨(HXD.out : _), HD.out.hl⟩ (fun hHeld => ?_)
                refine take_ (i := 0) (N := some 138) (v := .agg #[.slice A5 l5.length c5, .int .i64 cap5, .int .i64 cnt5, .int .i64 cr5, .int .i64 fa5, .bool dn5]) (a' := ?_) #[true, false, false, false, false] rfl rfl (by kernel_rfl) (fun _ _ _ h => h) (Or.inl ⟨by rfl, fun w' hS => exec_load_row 30 (.tmp 17) rfl gy rfl 30 #[.slice A5 l5.length c5, .int .i64 cap5, .int .i64 cnt5, .int .i64 cr5, .int .i64 fa5, .bool dn5] hS.1 Tryz.underlying30 rfl infoFs⟩) hHeld ?_ ?_
                rotate_left
                · simp only [Act.put, List.setIfInBounds_toArray, List.set_cons_zero, List.set_cons_succ, i64_w, i32_w]
                  rfl
                refine take_ (i := 1) (N := some 139) (v := .agg #[.int .i64 last, .int .i64 size]) (a' := ?_) #[true, true, false, false, false] rfl rfl (by kernel_rfl) (fun _ _ _ h => h) (Or.inl ⟨by rfl, fun w' hS => exec_load_row 31 (.tmp 5) rfl gl rfl 31 #[.int .i64 last, .int .i64 size] hS.2 Tryz.underlying31 rfl infoLog⟩) hHeld ?_ ?_
                rotate_left
                · simp only [Act.put, List.setIfInBounds_toArray, List.set_cons_zero, List.set_cons_succ, i64_w, i32_w]
                  rfl
                refine one_ (i := 2) (N := none) #[true, true, true, false, false] rfl rfl (by kernel_rfl) (by decide) (fun K hK => ?_)
                refine skip_ (by rfl) rfl (exec_store_row 30 (.tmp 8) (.tmp 138) rfl gr #[.slice A5 l5.length c5, .int .i64 cap5, .int .i64 cnt5, .int .i64 cr5, .int .i64 fa5, .bool dn5] rfl rfl 30 #[.slice none 0 0, .int .i64 0, .int .i64 0, .int .i64 0, .int .i64 0, .bool false] HD.out.hr infoFs rfl (by simp [Value.oneCell'])) ?_
                refine hK.out _ _ ⟨blk_setRow (HXD.out) (Nat.ne_of_gt (Nat.lt_trans HD.out.hd.2.2.2 HGX43.out)) _, blk_setRow HD.out.hl (Nat.ne_of_lt HD.out.hd.2.2.1) _⟩ (fun hHeld => ?_)
                clear hK K
                refine last_ (i := 3) (N := none) #[true, true, true, true, false] rfl rfl (by kernel_rfl) (by decide) (fun K hK => ?_)
                refine skip_ (by rfl) rfl (exec_store_row 31 (.tmp 9) (.tmp 139) rfl gm #[.int .i64 last, .int .i64 size] rfl rfl 31 #[.int .i64 0, .int .i64 0] (blk_setRow HD.out.hm (Nat.ne_of_gt HD.out.hd.2.2.2) _) infoLog rfl (by simp [Value.oneCell'])) ?_
                refine hK.out _ _ ?_
                clear hK K
                refine pure_ (i := 4) (N := some 10) (v := ?_) (a' := ?_) #[true, true, true, true, true] rfl rfl (by kernel_rfl) (fun _ _ _ h => h) (Or.inl ⟨by rfl, ?_⟩) ?_ ?_
                rotate_left
                · intro w'
                  go_simp
                  with_reducible rfl
                rotate_left
                · simp only [Act.put, List.setIfInBounds_toArray, List.set_cons_zero, List.set_cons_succ, i64_w, i32_w]
                  rfl
                refine done_ (by kernel_rfl) ?_
                go_wp2
                have E := AeSt.ends (cs := #[.slice A5 l5.length c5, .int .i64 cap5, .int .i64 cnt5, .int .i64 cr5, .int .i64 fa5, .bool dn5]) HD.out HVD.out (#[.int .i64 last, .int .i64 size])
                refine bodyPost_ret (results_cct rfl _ _ gr gm 30 31 #[.slice A5 l5.length c5, .int .i64 cap5, .int .i64 cnt5, .int .i64 cr5, .int .i64 fa5, .bool dn5] (#[.int .i64 last, .int .i64 size]) (0, 0) (0, 0) _ _ rfl E.1 Tryz.underlying30 rfl infoFs rfl E.2.1 Tryz.underlying31 rfl infoLog) rfl ⟨_, rfl, E.2.2.1, E.2.2.2⟩
              · obtain rfl : 20 = code' := by have := HCD.out; rw [if_neg y0, if_neg y1] at this; exact this
                have k6 : (q5 == 11) = false := beq_eq_false_iff_ne.mpr y1
                go_upto_region 27 with fail
                refine start_ (n := 5) (S := (fun w' => w'.heap[gy]? = some (.cells #[.slice A5 l5.length c5, .int .i64 cap5, .int .i64 cnt5, .int .i64 cr5, .int .i64 fa5, .bool dn5] 30 (0, 0)) ∧ w'.heap[gl]? = some (.cells #[.int .i64 last, .int .i64 size] 31 (0, 0)))) (ds := [3]) #[false, false, false, false, false] (by kernel_rfl) rfl rfl ⟨(HXD.out : _), HD.out.hl⟩ (fun hHeld => ?_)
                refine take_ (i := 0) (N := some 140) (v := .agg #[.slice A5 l5.length c5, .int .i64 cap5, .int .i64 cnt5, .int .i64 cr5, .int .i64 fa5, .bool dn5]) (a' := ?_) #[true, false, false, false, false] rfl rfl (by kernel_rfl) (fun _ _ _ h => h) (Or.inl ⟨by rfl, fun w' hS => exec_load_row 30 (.tmp 17) rfl gy rfl 30 #[.slice A5 l5.length c5, .int .i64 cap5, .int .i64 cnt5, .int .i64 cr5, .int .i64 fa5, .bool dn5] hS.1 Tryz.underlying30 rfl infoFs⟩) hHeld ?_ ?_
                rotate_left
                · simp only [Act.put, List.setIfInBounds_toArray, List.set_cons_zero, List.set_cons_succ, i64_w, i32_w]
                  rfl
                refine take_ (i := 1) (N := some 141) (v := .agg #[.int .i64 last, .int .i64 size]) (a' := ?_) #[true, true, false, false, false] rfl rfl (by kernel_rfl) (fun _ _ _ h => h) (Or.inl ⟨by rfl, fun w' hS => exec_load_row 31 (.tmp 5) rfl gl rfl 31 #[.int .i64 last, .int .i64 size] hS.2 Tryz.underlying31 rfl infoLog⟩) hHeld ?_ ?_
                rotate_left
                · simp only [Act.put, List.setIfInBounds_toArray, List.set_cons_zero, List.set_cons_succ, i64_w, i32_w]
                  rfl
                refine one_ (i := 2) (N := none) #[true, true, true, false, false] rfl rfl (by kernel_rfl) (by decide) (fun K hK => ?_)
                refine skip_ (by rfl) rfl (exec_store_row 30 (.tmp 8) (.tmp 140) rfl gr #[.slice A5 l5.length c5, .int .i64 cap5, .int .i64 cnt5, .int .i64 cr5, .int .i64 fa5, .bool dn5] rfl rfl 30 #[.slice none 0 0, .int .i64 0, .int .i64 0, .int .i64 0, .int .i64 0, .bool false] HD.out.hr infoFs rfl (by simp [Value.oneCell'])) ?_
                refine hK.out _ _ ⟨blk_setRow (HXD.out) (Nat.ne_of_gt (Nat.lt_trans HD.out.hd.2.2.2 HGX43.out)) _, blk_setRow HD.out.hl (Nat.ne_of_lt HD.out.hd.2.2.1) _⟩ (fun hHeld => ?_)
                clear hK K
                refine last_ (i := 3) (N := none) #[true, true, true, true, false] rfl rfl (by kernel_rfl) (by decide) (fun K hK => ?_)
                refine skip_ (by rfl) rfl (exec_store_row 31 (.tmp 9) (.tmp 141) rfl gm #[.int .i64 last, .int .i64 size] rfl rfl 31 #[.int .i64 0, .int .i64 0] (blk_setRow HD.out.hm (Nat.ne_of_gt HD.out.hd.2.2.2) _) infoLog rfl (by simp [Value.oneCell'])) ?_
                refine hK.out _ _ ?_
                clear hK K
                refine pure_ (i := 4) (N := some 10) (v := ?_) (a' := ?_) #[true, true, true, true, true] rfl rfl (by kernel_rfl) (fun _ _ _ h => h) (Or.inl ⟨by rfl, ?_⟩) ?_ ?_
                rotate_left
                · intro w'
                  go_simp
                  with_reducible rfl
                rotate_left
                · simp only [Act.put, List.setIfInBounds_toArray, List.set_cons_zero, List.set_cons_succ, i64_w, i32_w]
                  rfl
                refine done_ (by kernel_rfl) ?_
                go_wp2
                have E := AeSt.ends (cs := #[.slice A5 l5.length c5, .int .i64 cap5, .int .i64 cnt5, .int .i64 cr5, .int .i64 fa5, .bool dn5]) HD.out HVD.out (#[.int .i64 last, .int .i64 size])
                refine bodyPost_ret (results_cct rfl _ _ gr gm 30 31 #[.slice A5 l5.length c5, .int .i64 cap5, .int .i64 cnt5, .int .i64 cr5, .int .i64 fa5, .bool dn5] (#[.int .i64 last, .int .i64 size]) (0, 0) (0, 0) _ _ rfl E.1 Tryz.underlying30 rfl infoFs rfl E.2.1 Tryz.underlying31 rfl infoLog) rfl ⟨_, rfl, E.2.2.1, E.2.2.2⟩
end Go.Proofs.YtfknmohedlfmfaaGreatDoor.L
end
section
set_option linter.unusedVariables false
set_option linter.unusedSimpArgs false
namespace Go.Proofs.YtfknmohedlfmfaaGreatDoor
open Go.RowKit Go.Proofs.YtfknmohedlfmfaaGreatDoorW.PrintWords
/-- One step of the table's making, as the walk spells it. -/
def crcStep (c : Int) : Int := if Go.bits .and .u32 c 1 == 1 then Go.bits .xor .u32 (c / 2) 3988292384 else c / 2
def crcSteps : Nat → Int → Int
  | 0, c => c
  | k + 1, c => crcStep (crcSteps k c)
def crcEnt (i : Nat) : Int := crcSteps 8 i
def crcCell (n j : Nat) : Value := .int .u32 (if j < n then crcEnt j else 0)
def crcCells (n : Nat) : Array Value := rowOf 256 (crcCell n)
theorem crcCells_size (n : Nat) : (crcCells n).size = 256 := rowOf_size _ _
theorem crcCells_zero : Array.replicate 256 (.int .u32 0) = crcCells 0 := by
  rw [rowOf_replicate]
  exact rowOf_congr _ _ _ fun _ _ => by simp [crcCell]
theorem crcCells_one (n : Nat) : (crcCells n).all (·.oneCell') = true := rowOf_one _ _ fun _ => rfl
theorem crcCells_set (n : Nat) : (crcCells n).setIfInBounds n (.int .u32 (crcEnt n)) = crcCells (n + 1) := by
  unfold crcCells
  rw [rowOf_set]
  exact rowOf_congr _ _ _ fun j _ => by
    unfold crcCell
    by_cases h : j = n
    · subst h; simp
    · have : (j < n) ↔ (j < n + 1) := by omega
      simp [this, h]
theorem crcCells_at (n j : Nat) (hj : j < 256) : (crcCells n)[j]? = some (crcCell n j) := rowOf_at _ _ _ hj
theorem crcStep_of (c : Int) (b : Bool) (h : (Go.bits .and .u32 c 1 == 1) = b) : crcStep c = if b then Go.bits .xor .u32 (c / 2) 3988292384 else c / 2 := by
  unfold crcStep; rw [h]
def crcNext (c b : Int) : Int := Go.bits .xor .u32 (c / 256) (crcEnt (Go.bits .xor .u8 (c % 256) b).toNat)
def crcReg (s : ByteArray) : Nat → Int
  | 0 => 4294967295
  | k + 1 => crcNext (crcReg s k) (bt s k)
/-- One step of the register. -/
def crcL (x : Nat) : Nat := x / 2 ^^^ (if x % 2 = 1 then 3988292384 else 0)
def crcLs : Nat → Nat → Nat
  | 0, x => x
  | k + 1, x => crcL (crcLs k x)
theorem crcL_lt (x : Nat) (h : x < 4294967296) : crcL x < 4294967296 := by
  unfold crcL
  have : x / 2 ^^^ (if x % 2 = 1 then 3988292384 else 0) < 2 ^ 32 := Nat.xor_lt_two_pow (by omega) (by split <;> decide)
  omega
theorem crcLs_lt (k x : Nat) (h : x < 4294967296) : crcLs k x < 4294967296 := by
  induction k with
  | zero => exact h
  | succ k ih => exact crcL_lt _ ih
theorem crcL_xor (x y : Nat) : crcL (x ^^^ y) = crcL x ^^^ crcL y := by
  unfold crcL
  have h1 : (x ^^^ y) / 2 = x / 2 ^^^ y / 2 := by
    have := Nat.xor_div_two_pow (a := x) (b := y) (n := 1)
    simpa using this
  have h2 : (x ^^^ y) % 2 = (x % 2) ^^^ (y % 2) := by
    have := Nat.xor_mod_two_pow (a := x) (b := y) (n := 1)
    simpa using this
  rw [h1, h2]
  rcases Nat.mod_two_eq_zero_or_one x with hx | hx <;> rcases Nat.mod_two_eq_zero_or_one y with hy | hy <;> simp [hx, hy]
  · rw [Nat.xor_assoc]
  · rw [Nat.xor_assoc, Nat.xor_comm (y / 2), ← Nat.xor_assoc]
  · rw [Nat.xor_assoc, Nat.xor_comm 3988292384, Nat.xor_assoc, Nat.xor_self, Nat.xor_zero]
theorem crcLs_xor (k x y : Nat) : crcLs k (x ^^^ y) = crcLs k x ^^^ crcLs k y := by
  induction k with
  | zero => rfl
  | succ k ih => simp only [crcLs]; rw [ih, crcL_xor]
theorem crcLs_add (j k x : Nat) : crcLs (j + k) x = crcLs j (crcLs k x) := by
  induction j with
  | zero => simp [crcLs]
  | succ j ih => rw [Nat.add_right_comm]; simp only [crcLs]; rw [ih]
theorem crcLs_shift (k y : Nat) : crcLs k (2 ^ k * y) = y := by
  induction k generalizing y with
  | zero => simp [crcLs]
  | succ k ih =>
    rw [crcLs_add k 1]
    have : crcLs 1 (2 ^ (k + 1) * y) = 2 ^ k * y := by
      show crcL (2 ^ (k + 1) * y) = 2 ^ k * y
      unfold crcL
      have e : 2 ^ (k + 1) * y = 2 * (2 ^ k * y) := by rw [Nat.pow_succ]; rw [Nat.mul_comm (2 ^ k) 2, Nat.mul_assoc]
      rw [e]
      simp
    rw [this, ih]
/-- The table's way through a byte is the same as eight steps of the register and the byte together. -/
theorem crc_byte (r b : Nat) (hb : b < 256) : crcLs 8 (r ^^^ b) = r / 256 ^^^ crcLs 8 ((r % 256) ^^^ b) := by
  have e : r = 2 ^ 8 * (r / 256) ^^^ (r % 256) := by
    apply Nat.eq_of_testBit_eq
    intro i
    have h1 : (r % 256).testBit i = (decide (i < 8) && r.testBit i) := Nat.testBit_mod_two_pow r 8 i
    have h2 : ∀ j, (r / 256).testBit j = r.testBit (8 + j) := fun j => by
      have h : (r / 2 ^ 8).testBit j = r.testBit (j + 8) := Nat.testBit_div_two_pow r j
      rw [Nat.add_comm]; exact h
    rw [Nat.testBit_xor, Nat.testBit_two_pow_mul, h1, h2]
    by_cases hi : i < 8
    · have : ¬ 8 ≤ i := by omega
      simp [hi, this]
    · have h8 : 8 ≤ i := by omega
      simp [hi, h8, show 8 + (i - 8) = i from by omega]
  conv => lhs; rw [e]
  rw [Nat.xor_assoc, crcLs_xor, crcLs_shift]
theorem crcStep_nat (n : Nat) (h : n < 4294967296) : crcStep n = (crcL n : Nat) := by
  unfold crcStep crcL
  rw [andN_one_u32 n h]
  have h2 : ((n : Int) / 2) = ((n / 2 : Nat) : Int) := by omega
  rw [h2]
  have h3 : (3988292384 : Int) = ((3988292384 : Nat) : Int) := rfl
  rcases Nat.mod_two_eq_zero_or_one n with hx | hx
  · simp [hx]
  · rw [h3, xorN_u32 _ _ (by omega) (by omega)]; simp [hx]
theorem crcSteps_nat (k n : Nat) (h : n < 4294967296) : crcSteps k n = (crcLs k n : Nat) := by
  induction k with
  | zero => rfl
  | succ k ih => simp only [crcSteps, crcLs]; rw [ih, crcStep_nat _ (crcLs_lt k n h)]
theorem crcSteps_range (k n : Nat) (h : n < 4294967296) : 0 ≤ crcSteps k n ∧ crcSteps k n ≤ 4294967295 := by
  rw [crcSteps_nat k n h]
  have := crcLs_lt k n h
  omega
/-- The register behind so many bytes. -/
def crcN (s : ByteArray) : Nat → Nat
  | 0 => 4294967295
  | k + 1 => crcLs 8 (crcN s k ^^^ (bt s k).toNat)
theorem bt_nat (s : ByteArray) (i : Int) : bt s i = ((bt s i).toNat : Int) ∧ (bt s i).toNat < 256 := by
  have := bt_range s i
  omega
theorem crcN_lt (s : ByteArray) (k : Nat) : crcN s k < 4294967296 := by
  induction k with
  | zero => show 4294967295 < 4294967296; decide
  | succ k ih =>
    have hb := (bt_nat s k).2
    have : crcN s k ^^^ (bt s k).toNat < 2 ^ 32 := Nat.xor_lt_two_pow (by omega) (by omega)
    exact crcLs_lt _ _ (by omega)
theorem crcIdx (c b : Int) (hc0 : 0 ≤ c) (hb0 : 0 ≤ b) (hb1 : b ≤ 255) : 0 ≤ Go.bits .xor .u8 (c % 256) b ∧ Go.bits .xor .u8 (c % 256) b ≤ 255 := by
  obtain ⟨x, hx⟩ : ∃ x : Nat, c % 256 = x := ⟨(c % 256).toNat, by omega⟩
  obtain ⟨y, rfl⟩ : ∃ y : Nat, b = y := ⟨b.toNat, by omega⟩
  rw [hx, xorN_u8 _ _ (by omega) (by omega)]
  have : x ^^^ y < 2 ^ 8 := Nat.xor_lt_two_pow (by omega) (by omega)
  omega
theorem crcNext_nat (n b : Nat) (hn : n < 4294967296) (hb : b < 256) : crcNext n b = (crcLs 8 (n ^^^ b) : Nat) := by
  have e1 : ((n : Int) % 256) = ((n % 256 : Nat) : Int) := by omega
  have e2 : ((n : Int) / 256) = ((n / 256 : Nat) : Int) := by omega
  unfold crcNext crcEnt
  rw [e1, e2, xorN_u8 _ _ (by omega) hb]
  have hx : n % 256 ^^^ b < 2 ^ 8 := Nat.xor_lt_two_pow (by omega) (by omega)
  rw [Int.toNat_natCast, crcSteps_nat 8 _ (by omega), xorN_u32 _ _ (by omega) (crcLs_lt 8 _ (by omega)), ← crc_byte n b hb]
theorem crcReg_nat (s : ByteArray) (k : Nat) : crcReg s k = (crcN s k : Nat) := by
  induction k with
  | zero => rfl
  | succ k ih =>
    have hb := bt_nat s k
    simp only [crcReg, crcN]
    rw [ih]
    conv => lhs; rw [hb.1]
    exact crcNext_nat _ _ (crcN_lt s k) hb.2
theorem crcReg_range (s : ByteArray) (k : Nat) : 0 ≤ crcReg s k ∧ crcReg s k ≤ 4294967295 := by
  rw [crcReg_nat]
  have := crcN_lt s k
  omega
theorem crcOut_nat (n : Nat) (h : n < 4294967296) : wrap64 (Go.bits .xor .u32 IntKind.u32.max n) = 4294967295 - n := by
  rw [notN_u32 n h]
  unfold wrap64
  omega
end Go.Proofs.YtfknmohedlfmfaaGreatDoor
end
